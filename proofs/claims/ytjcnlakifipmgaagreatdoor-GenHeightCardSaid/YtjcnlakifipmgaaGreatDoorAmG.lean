/- The abstract machine: calls are the program's calls. -/
import Derived.Test.YtjcnlakifipmgaaGreatDoorAmF
set_option linter.unusedVariables false
set_option linter.unusedSimpArgs false
set_option linter.unnecessarySimpa false
set_option maxRecDepth 100000
/- Calls of the abstract machine are the machine's. -/
namespace Go.AM

/-- What is handed in and what comes out. -/
def Res (P : Program) (G : Nat → Option (List D)) (B : Nat → Prop) (β : Bk) (Φ : Fz) (H : Heap) (w : World) (d : D) (H' : Heap) (v : Value) (w' : World) : Prop :=
  ∃ β' Φ', VR d β' Φ' v ∧ WS P G β' Φ' B H' w' ∧ Ext β Φ H w β' Φ' H' w' ∧ UN H'.length d

/-- The functions of a context are the program's; what is known of the others holds. -/
structure Good (P : Program) (X : Ctx) : Prop where
  fn : ∀ f af, X.fn f = some af → ∃ fn pols keep, P.funcs[f]? = some fn ∧ compF P pols keep fn = some af ∧ ∀ i j g, polAt pols i j = some (.quiet g) → Quiet P g
  prims : ∀ f ds d, X.prims f ds = some d → ∀ {β : Bk} {Φ : Fz} {H : Heap} {w : World} {vs : List Value} {B : Nat → Prop}, WS P X.G β Φ B H w → VRs ds β Φ vs → (∀ x ∈ ds, UN H.length x) →
    InvR P (Res P X.G B β Φ H w d H) ((callFunc f vs.toArray).run P w)
  primsY : ∀ f l as bs, X.prims f (as ++ [.yield l] ++ bs) = none

theorem compF_spec {P : Program} {pols : List (Nat × Nat × Pol)} {keep : Option Nat} {fn : Func} {af : AFunc} (h : compF P pols keep fn = some af) :
    ∃ c, fn.body = some c ∧ (fn.name == "runtime.NumGoroutine") = false ∧ compC P (polAt pols) c = some af.body ∧ compRes P fn.results.toList = some af.results ∧ af.body.fits fn.ntmps = true ∧ fn.ntmps < 65535 := by
  unfold compF at h
  split at h
  · rename_i c hc
    split at h
    · cases h
    · rename_i hn
      split at h
      · rename_i b rs hb hrs
        split at h
        · rename_i hh
          cases h
          simp only [Bool.and_eq_true, Nat.blt_eq] at hh
          exact ⟨c, hc, by simpa using hn, hb, hrs, hh.1, hh.2⟩
        · cases h
      · cases h
  · cases h

section
variable {P : Program} {G : Nat → Option (List D)} {β β0 : Bk} {Φ Φ0 : Fz} {b n N : Nat} {B : Nat → Prop} {H H0 : Heap} {w w0 : World} {env : Env} {a : Act}

theorem ofArgs_get : ∀ (ds : List D) (e : Env) (i : Nat), i + ds.length ≤ 65535 → ∀ t, (e.ofArgs i ds).get t = if i ≤ t ∧ t < i + ds.length then ds.getD (t - i) .undef else e.get t
  | [], e, i, h, t => by simp only [Env.ofArgs, List.length_nil]; rw [if_neg (by omega)]
  | d :: ds, e, i, h, t => by
    simp only [List.length_cons] at h ⊢
    simp only [Env.ofArgs]
    rw [ofArgs_get ds _ (i + 1) (by omega) t, Env.put_get t d (by omega)]
    by_cases h1 : i + 1 ≤ t ∧ t < i + 1 + ds.length
    · rw [if_pos h1, if_pos (by omega)]
      have : t - i = (t - (i + 1)) + 1 := by omega
      rw [this]; rfl
    · rw [if_neg h1]
      by_cases h2 : t = i
      · subst h2; rw [if_pos rfl, if_pos (by omega)]; simp
      · rw [if_neg h2, if_neg (by omega)]

theorem args_er {ds : List D} {vs : List Value} (h : VRs ds β Φ vs) (hl : ds.length < 65535) (m : Nat) : ER β Φ (Env.nil.ofArgs 0 ds) (vs.toArray ++ Array.replicate m undef) := by
  intro t
  rw [ofArgs_get ds .nil 0 (by omega) t]
  split
  · rename_i ht
    simp only [Nat.sub_zero, Nat.zero_add] at ht ⊢
    obtain ⟨v, h1, h2⟩ := h.get (i := t) (d := ds.getD t .undef) (by rw [List.getD_eq_getElem?_getD, List.getElem?_eq_getElem ht.2]; rfl)
    have hlt : t < vs.length := (List.getElem?_eq_some_iff.1 h1).1
    have : (vs.toArray ++ Array.replicate m undef).getD t undef = v := by
      rw [Array.getD_eq_getD_getElem?, Array.getElem?_append_left (by simpa using hlt)]
      simp [h1]
    rw [this]; exact h2
  · rw [Env.nil_get]; trivial

theorem args_eu {ds : List D} {k : Nat} (h : ∀ x ∈ ds, UN k x) (hl : ds.length < 65535) : EU k (Env.nil.ofArgs 0 ds) := by
  intro t
  rw [ofArgs_get ds .nil 0 (by omega) t]
  split
  · rename_i ht
    simp only [Nat.sub_zero, Nat.zero_add] at ht ⊢
    rw [List.getD_eq_getElem?_getD, List.getElem?_eq_getElem ht.2]
    exact h _ (List.getElem_mem _)
  · rw [Env.nil_get]; exact .inl rfl

theorem zip_fold : ∀ (ps : List Nat) (ds : List D) (vs : List Value) (e : Env) (tmps : Array Value), VRs ds β Φ vs → ps.length = ds.length → (∀ t ∈ ps, t < tmps.size ∧ t < 65535) → ER β Φ e tmps →
    ER β Φ (e.puts ps ds) ((ps.zip vs).foldl (fun tmps x => tmps.setIfInBounds x.1 x.2) tmps) ∧ ((ps.zip vs).foldl (fun (tmps : Array Value) x => tmps.setIfInBounds x.1 x.2) tmps).size = tmps.size
  | [], ds, vs, e, tmps, hv, hl, ht, he => by
    have : ds = [] := by cases ds <;> simp at hl ⊢
    subst this
    simp [Env.puts]; exact he
  | t :: ps, [], vs, e, tmps, hv, hl, ht, he => by simp at hl
  | t :: ps, d :: ds, vs, e, tmps, hv, hl, ht, he => by
    simp only [VRs] at hv
    obtain ⟨v, r, rfl, h1, h2⟩ := hv
    simp only [List.zip_cons_cons, List.foldl_cons, Env.puts]
    have htt := ht t (by simp)
    have he' : ER β Φ (e.put t d) (tmps.setIfInBounds t v) := ER.put (a := ⟨tmps, []⟩) he htt.2 htt.1 h1
    obtain ⟨g1, g2⟩ := zip_fold ps ds r (e.put t d) (tmps.setIfInBounds t v) h2 (by simpa using hl) (fun u hu => by simpa using ht u (by simp [hu])) he'
    exact ⟨g1, by rw [g2]; simp⟩

theorem puts_eu {k : Nat} : ∀ (ps : List Nat) (ds : List D) (e : Env), (∀ t ∈ ps, t < 65535) → (∀ x ∈ ds, UN k x) → EU k e → EU k (e.puts ps ds)
  | [], ds, e, _, _, he => by simp [Env.puts]; exact he
  | t :: ps, [], e, _, _, he => by simp [Env.puts]; exact he
  | t :: ps, d :: ds, e, ht, hd, he => by
    simp only [Env.puts]
    exact puts_eu ps ds _ (fun u hu => ht u (by simp [hu])) (fun x hx => hd x (by simp [hx])) (he.put (ht t (by simp)) (hd d (by simp)))

theorem fitsN_mem {n : Nat} : ∀ {ps : List Nat}, fitsN n ps = true → ∀ t ∈ ps, t < n
  | [], _, t, h => by cases h
  | p :: ps, h, t, ht => by
    simp only [fitsN, Bool.and_eq_true, Nat.blt_eq] at h
    rcases List.mem_cons.1 ht with rfl | ht
    · exact h.1
    · exact fitsN_mem h.2 t ht

/-- A loop's record turns. -/
theorem setLoop_ok {id l : Nat} {L L' : ALoop} {rec : Loop} (hw : WS P G β Φ B H w) (hc : H[id]? = some (.loop L)) (hr : w.heap[l]? = some (.loop rec)) (hl : ∃ c, β id 0 = some (l, c)) {rec' : Loop} (hL : LoopRel P β Φ L rec → LoopRel P β Φ L' rec') (hu : L'.env = L.env ∧ L'.dfr = L.dfr) :
    (setObj l (.loop rec')).run P w = .ok () { w with heap := w.heap.setIfInBounds l (.loop rec') } ∧ WS P G β Φ B (H.set id (.loop L')) { w with heap := w.heap.setIfInBounds l (.loop rec') } ∧ Ext β Φ H w β Φ (H.set id (.loop L')) { w with heap := w.heap.setIfInBounds l (.loop rec') } := by
  obtain ⟨k, c, rec0, h1, h2, h3⟩ := hw.wr.ch id _ hc
  obtain ⟨c', hl⟩ := hl
  rw [h1] at hl; cases hl
  rw [hr] at h2; cases h2
  have hlt : l < w.heap.size := (Array.getElem?_eq_some_iff.1 hr).1
  have hturn := set_turn (w := w) (.loop rec') hlt
  have hbk : (Chunk.loop L).blk β id = some l := by simp [Chunk.blk, h1]
  have hun : ∀ n, (Chunk.loop L).unders n → (Chunk.loop L').unders n := fun n h => ⟨by rw [hu.1]; exact h.1, by rw [hu.2]; exact h.2⟩
  obtain ⟨g1, g2⟩ := hw.wr.turn (c' := .loop L') hc hbk hturn (fun _ _ _ => rfl) (fun _ _ h => h) (fun h => h)
    ⟨l, _, _, h1, hturn.here, hL h3⟩ (by simp [Chunk.blk, h1]) (hun _ (hw.wr.ids id _ hc))
  exact ⟨run_setLoop hr _, ⟨g1, fun b hb => (hw.ids b hb).set hc hun⟩, g2⟩

theorem WS.widen (hw : WS P G β Φ B H w) : WS P G β Φ (fun b => B b ∨ b = H.length) H w :=
  ⟨hw.wr, fun b hb => by
    rcases hb with hb | rfl
    · exact hw.ids b hb
    · exact hw.wr.idsAll⟩

theorem widen_le (hw : WS P G β Φ B H w) : ∀ b, (B b ∨ b = H.length) → b ≤ H.length := fun b hb => by
  rcases hb with hb | rfl
  · exact (hw.ids b hb).1
  · exact Nat.le_refl _

theorem endRound_ok {id l : Nat} {L : ALoop} (hw : WS P G β Φ B H w) (hc : H[id]? = some (.loop L)) (hl : ∃ c, β id 0 = some (l, c)) (ex : Ex) :
    ∃ w', (Instr.endRound l (match ex with | .normal => none | .ret => some .ret | .exit id => some (.exit id))).run P w = .ok (match ex with | .normal => .bool true | _ => .bool false) w' ∧
      WS P G β Φ B (H.set id (.loop (endRoundA ex L).2)) w' ∧ Ext β Φ H w β Φ (H.set id (.loop (endRoundA ex L).2)) w' := by
  obtain ⟨k, c, rec, h1, h2, h3⟩ := hw.wr.ch id _ hc
  obtain ⟨c', hl'⟩ := hl
  have hkl : k = l := by rw [h1] at hl'; cases hl'; rfl
  subst hkl
  cases ex with
  | normal =>
    obtain ⟨g1, g2, g3⟩ := setLoop_ok hw hc h2 ⟨_, h1⟩ (L' := (endRoundA .normal L).2) (rec' := { rec with state := .ready, pending := none }) (fun h => ⟨rfl, rfl, h.params, h.code, h.env, h.dfr⟩) ⟨rfl, rfl⟩
    exact ⟨_, by simp [Instr.endRound, Sem.run_bind, run_getLoop h2, g1], g2, g3⟩
  | ret =>
    obtain ⟨g1, g2, g3⟩ := setLoop_ok hw hc h2 ⟨_, h1⟩ (L' := (endRoundA .ret L).2) (rec' := { rec with state := .done, pending := some .ret }) (fun h => ⟨rfl, rfl, h.params, h.code, h.env, h.dfr⟩) ⟨rfl, rfl⟩
    exact ⟨_, by simp [Instr.endRound, Sem.run_bind, run_getLoop h2, g1], g2, g3⟩
  | exit i =>
    obtain ⟨g1, g2, g3⟩ := setLoop_ok hw hc h2 ⟨_, h1⟩ (L' := (endRoundA (.exit i) L).2) (rec' := { rec with state := .done, pending := some (.exit i) }) (fun h => ⟨rfl, rfl, h.params, h.code, h.env, h.dfr⟩) ⟨rfl, rfl⟩
    exact ⟨_, by simp [Instr.endRound, Sem.run_bind, run_getLoop h2, g1], g2, g3⟩

end
end Go.AM
/- Calls of the abstract machine are the machine's: rounds; functions. -/
namespace Go.AM

section
variable {P : Program} {G : Nat → Option (List D)} {β β0 : Bk} {Φ Φ0 : Fz} {b n N : Nat} {B : Nat → Prop} {H H0 : Heap} {w w0 : World} {env : Env} {a : Act} {call : D → List D → Heap → Option (D × Heap)}

theorem begin_ok {id l : Nat} {L : ALoop} (hw : WS P G β Φ B H w) (hc : H[id]? = some (.loop L)) (hl : ∃ c, β id 0 = some (l, c)) (hst : L.st = .ready) :
    ∃ w', (Instr.beginRound l).run P w = .ok () w' ∧ WS P G β Φ B (H.set id (.loop { L with st := .busy })) w' ∧ Ext β Φ H w β Φ (H.set id (.loop { L with st := .busy })) w' := by
  obtain ⟨k, c, rec, h1, h2, h3⟩ := hw.wr.ch id _ hc
  obtain ⟨c', hl'⟩ := hl
  have hkl : k = l := by rw [h1] at hl'; cases hl'; rfl
  subst hkl
  obtain ⟨g1, g2, g3⟩ := setLoop_ok hw hc h2 ⟨_, h1⟩ (L' := { L with st := .busy }) (rec' := { rec with state := .busy }) (fun h => ⟨rfl, h.pend, h.params, h.code, h.env, h.dfr⟩) ⟨rfl, rfl⟩
  refine ⟨_, ?_, g2, g3⟩
  have hs : rec.state = .ready := by rw [h3.state, hst]; rfl
  simp [Instr.beginRound, Sem.run_bind, run_getLoop h2, g1, hs]

theorem round_ok (hsim : Sim P G call) (hen : Enters P call) {lf l : Nat} {args : List D} {d' : D} {H' : Heap} (h : roundA G call lf l args H = some (d', H')) (hw : WS P G β Φ B H w) {vf : Value} {vargs : List Value}
    (hv : VR (.yield l) β Φ vf) (hva : VRs args β Φ vargs) (hua : ∀ x ∈ args, UN H.length x) : Inv P vf vargs.toArray w (Res P G B β Φ H w d' H') := by
  simp only [VR] at hv
  obtain ⟨k, c, hk, rfl⟩ := hv
  unfold roundA at h
  split at h
  · rename_i L hL
    split at h
    · rename_i hh
      obtain ⟨hst, hlen⟩ := hh
      obtain ⟨k', c', rec, h1, h2, h3⟩ := hw.wr.ch l _ hL
      have hkk : k' = k := by rw [hk] at h1; cases h1; rfl
      subst hkk
      have hun := hw.wr.unders hL
      obtain ⟨N, hN, hNs, hfp, ⟨hfa, pola, hqa, hca⟩, ⟨hfb, polb, hqb, hcb⟩⟩ := h3.code
      have hll : l < H.length := lt_of_some hL
      -- yield itself
      have hsz : rec.params.size = L.params.length := by rw [← h3.params]; simp
      have hvl := VRs.length hva
      have hinv : (do let d ← Deferred.ofValue (.func (.yield k') #[] #[]) vargs.toArray; invoke d.target d.args : Sem Next).run P w =
          .ok (.round k' rec.fn ((rec.params.zip vargs.toArray).foldl (fun tmps (x : Nat × Value) => tmps.setIfInBounds x.1 x.2) rec.tmps) rec.assign rec.body) w := by
        show (Instr.yield k' (#[] ++ vargs.toArray)).run P w = _
        have : ¬ (vargs.toArray.size ≠ rec.params.size) := by simp; omega
        simp only [Instr.yield, Sem.run_bind, run_getLoop h2, Result.andThen_ok, Array.empty_append]
        rw [if_neg this]
        rfl
      unfold Inv
      rw [hinv]
      -- the temporaries
      have htmps : (rec.params.zip vargs.toArray).foldl (fun (tmps : Array Value) (x : Nat × Value) => tmps.setIfInBounds x.1 x.2) rec.tmps = (L.params.zip vargs).foldl (fun (tmps : Array Value) (x : Nat × Value) => tmps.setIfInBounds x.1 x.2) rec.tmps := by
        rw [← h3.params, ← Array.foldl_toList, Array.toList_zip]
      rw [htmps]
      have hps : ∀ t ∈ L.params, t < rec.tmps.size ∧ t < 65535 := fun t ht => by have := fitsN_mem hfp t ht; omega
      obtain ⟨z1, z2⟩ := zip_fold L.params args vargs L.env rec.tmps hva (by omega) hps h3.env
      have hcs : CS P G N (fun b => B b ∨ b = H.length) β Φ H w (some l) (some k') β Φ ⟨L.env.puts L.params args, H, []⟩ { tmps := (L.params.zip vargs).foldl (fun (tmps : Array Value) (x : Nat × Value) => tmps.setIfInBounds x.1 x.2) rec.tmps, defers := [] } w :=
        ⟨hw.widen, z1, puts_eu L.params args L.env (fun t ht => (hps t ht).2) hua hun.1, by rw [z2]; exact hNs, rfl, fun id hid => (by cases hid), Ext.refl _ _ _ _, ⟨⟨c, hk⟩, hll⟩⟩
      have hle := widen_le hw
      refine roundIn_of_wpIn trivial ?_
      split at h
      · rename_i s1 he1
        split at h
        · rename_i L1 hL1
          split at h
          · rename_i hst1
            split at h
            · rename_i ex s2 he2
              split at h
              · rename_i L2 hL2
                cases h
                refine code_ok (r := some k') (m := 0) hsim hen hN (.inr rfl) hle rec.assign (fun i j f h => absurd h (hqa i j f)) hca hfa he1 hcs fun β1 Φ1 a1 w1 c1 => ?_
                obtain ⟨⟨cc1, hb1⟩, hl1⟩ := c1.rnd
                obtain ⟨w2, e1, e2, e3⟩ := begin_ok c1.ws hL1 ⟨cc1, hb1⟩ hst1
                refine ⟨w2, e1, ?_⟩
                have c2 := c1.next e2 e3
                refine code_ok (r := some k') (m := 0) hsim hen hN (.inr rfl) hle rec.body (fun i j f h => absurd h (hqb i j f)) hcb hfb he2 c2 fun β2 Φ2 a2 w3 c3 => ?_
                obtain ⟨⟨cc3, hb3⟩, hl3⟩ := c3.rnd
                obtain ⟨w4, f1, f2, f3⟩ := endRound_ok c3.ws hL2 ⟨cc3, hb3⟩ ex
                have fin : ∀ v, v = (match ex with | .normal => Value.bool true | _ => .bool false) → ret (Res P G B β Φ H w (endRoundA ex L2).1 (s2.H.set l (.loop (endRoundA ex L2).2))) (.returned v) w4 := by
                  rintro v rfl
                  refine ⟨β2, Φ2, ?_, ⟨f2.wr, fun b hb => f2.ids b (.inl hb)⟩, c3.ext.trans f3, .inr ?_⟩
                  · cases ex <;> simp [endRoundA, VR]
                  · cases ex <;> rfl
                cases ex with
                | normal => exact ⟨_, w4, f1, fin _ rfl⟩
                | ret => exact ⟨_, w4, f1, fin _ rfl⟩
                | exit i => exact ⟨_, w4, f1, fin _ rfl⟩
              · cases h
            · cases h
          · cases h
        · cases h
      · cases h
    · cases h
  · cases h

/-- A function of the program. -/
theorem func_ok {X : Ctx} (hX : Good P X) {k : Nat} (hsim : Sim P X.G (callN X k)) (hen : Enters P (callN X k)) {f : Nat} {ds : List D} {af : AFunc} (hf : X.fn f = some af) (hlen : ds.length < 65535) {ex : Ex} {s : St} {d' : D} {H' : Heap}
    (he : exec X.G H.length (callN X k) k none af.body ⟨Env.nil.ofArgs 0 ds, H, []⟩ = some (ex, s)) (hex : ex = .normal ∨ ex = .ret) (hfin : finish af H.length s = some (d', H')) (hw : WS P X.G β Φ B H w) {vs : List Value} (hv : VRs ds β Φ vs) (hu : ∀ x ∈ ds, UN H.length x) :
    InvR P (Res P X.G B β Φ H w d' H') ((callFunc f vs.toArray).run P w) := by
  obtain ⟨fn, pols, keep, h1, h2, hqq⟩ := hX.fn f af hf
  obtain ⟨c, hc, hname, hcc, hres, hfit, hN⟩ := compF_spec h2
  rw [enter_run ⟨fn, h1, hname, by rw [hc]; rfl⟩]
  have hcs : CS P X.G fn.ntmps (fun b => B b ∨ b = H.length) β Φ H w none none β Φ ⟨Env.nil.ofArgs 0 ds, H, []⟩ { tmps := vs.toArray ++ Array.replicate (fn.ntmps - vs.toArray.size) undef, defers := [] } w :=
    ⟨hw.widen, args_er hv hlen _, args_eu hu hlen, by simp; omega, rfl, fun id hid => (by cases hid), Ext.refl _ _ _ _, trivial⟩
  have hle := widen_le hw
  refine callsIn_of_wp_marks h1 hc trivial ?_
  refine code_ok (r := none) (m := 0) hsim hen hN (.inr rfl) hle c (fun i j f h => ⟨rfl, hqq i j f h⟩) hcc hfit he hcs fun β1 Φ1 a1 w1 c1 => ?_
  have hfo := finish_ok (n := H.length) (B := B) ⟨c1.ws.wr, fun b hb => c1.ws.ids b (.inl hb)⟩ (c1.ws.ids _ (.inr rfl)) (fun b hb => hle b (.inl hb)) c1.ext rfl c1.er hres c1.dr hfin
  have key : LeavesInM Fence.wide 0 P fn a1.tmps (ret (Res P X.G B β Φ H w d' H')) a1.defers .returning w1 := by
    have heq : ret (Back P X.G B β Φ H w d' H') = ret (Res P X.G B β Φ H w d' H') := by
      funext e w'
      cases e with
      | returned v =>
        apply propext
        exact ⟨fun ⟨b', p', q1, q2, q3⟩ => ⟨b', p', q1, q2, q3, hfo.1⟩, fun ⟨b', p', q1, q2, q3, _⟩ => ⟨b', p', q1, q2, q3⟩⟩
      | panicked c => rfl
      | outgrown => rfl
    rw [← heq]; exact hfo.2
  rcases hex with rfl | rfl
  · exact key
  · exact key

theorem call_ok {X : Ctx} (hX : Good P X) : ∀ k, Sim P X.G (callN X k) ∧ Enters P (callN X k)
  | 0 => ⟨fun h => by simp [callN] at h, fun h => by simp [callN] at h⟩
  | k + 1 => by
    obtain ⟨hsim, hen⟩ := call_ok hX k
    constructor
    · intro d args H d' H' h β Φ w vf vargs B hw hv hva hu hua
      cases d
      case yield l =>
        simp only [callN] at h
        exact round_ok hsim hen h hw hv hva hua
      case func f pre caps =>
        simp only [VR] at hv
        obtain ⟨us, vs, rfl, hus, hvs⟩ := hv
        have hva2 : VRs (pre ++ args ++ caps) β Φ (us ++ vargs ++ vs) := (hus.append hva).append hvs
        have hun2 : ∀ x ∈ pre ++ args ++ caps, UN H.length x := fun x hx => by
          have hfu : D.unders H.length pre = true ∧ D.unders H.length caps = true := by
            rcases hu with hu | hu
            · cases hu
            · simpa [D.under] using hu
          rcases List.mem_append.1 hx with hx | hx
          · rcases List.mem_append.1 hx with hx | hx
            · exact .inr (unders_mem hfu.1 hx)
            · exact hua x hx
          · exact .inr (unders_mem hfu.2 hx)
        have hrun : (do let d ← Deferred.ofValue (.func (.func f) us.toArray vs.toArray) vargs.toArray; invoke d.target d.args : Sem Next).run P w = (callFunc f (us ++ vargs ++ vs).toArray).run P w := by
          show (callFunc f ((us.toArray ++ vargs.toArray) ++ vs.toArray)).run P w = _
          congr 2
          simp
        unfold Inv
        rw [hrun]
        simp only [callN] at h
        split at h
        · rename_i d hd
          cases h
          exact hX.prims f _ _ hd hw hva2 hun2
        · split at h
          · cases h
          · rename_i af haf
            split at h
            · rename_i hl
              rw [Nat.blt_eq] at hl
              split at h
              · rename_i s he; exact func_ok hX hsim hen haf hl he (.inl rfl) h hw hva2 hun2
              · rename_i s he; exact func_ok hX hsim hen haf hl he (.inr rfl) h hw hva2 hun2
              · cases h
            · cases h
      all_goals simp [callN] at h
    · intro f pre caps l H r h
      simp only [callN, hX.primsY] at h
      split at h
      · cases h
      · rename_i af haf
        obtain ⟨fn, pols, keep, h1, h2, _⟩ := hX.fn f af haf
        obtain ⟨c, hc, hname, _⟩ := compF_spec h2
        exact ⟨fn, h1, hname, by rw [hc]; rfl⟩

end
end Go.AM
/- From a run of the abstract machine to a call's contract. -/
namespace Go.AM

section
variable {P : Program} {G : Nat → Option (List D)}

/-- All that lies there when the call begins stays as it is. -/
def Fz.all (w : World) : Fz := fun k => w.heap[k]?

theorem WR.start {w : World} (hG : ∀ g cs, G g = some cs → ∃ cur e fr, w.heap[g]? = some (.cells cur e fr) ∧ FRs cs (Fz.all w) cur 0) : WR P G Bk.none (Fz.all w) 0 [] w :=
  ⟨fun id c h => by simp at h, fun k o h => h, fun id c k h => by simp at h, fun id c id' c' k h => by simp at h, fun _ _ _ => rfl, Nat.le_refl _, fun id c h => by simp at h, hG⟩

/-- A call from without: what it hands back, and that all that lay there lies there as it did. -/
theorem call_from {X : Ctx} (hX : Good P X) {k f : Nat} {args : List D} {d : D} {H' : Heap} (h : callN X k (.func f [] []) args [] = some (d, H')) {w : World} (hG : ∀ g cs, X.G g = some cs → ∃ cur e fr, w.heap[g]? = some (.cells cur e fr) ∧ FRs cs (Fz.all w) cur 0)
    {vs : List Value} (hv : VRs args Bk.none (Fz.all w) vs) (hu : ∀ x ∈ args, UN 0 x) :
    InvR P (Res P X.G (fun _ => False) Bk.none (Fz.all w) [] w d H') ((callFunc f vs.toArray).run P w) := by
  have hw : WS P X.G Bk.none (Fz.all w) (fun _ => False) [] w := ⟨WR.start hG, fun _ h => h.elim⟩
  have := (call_ok hX k).1 h hw (vf := .func (.func f) #[] #[]) (by simp [VR, VRs]) hv (.inr rfl) hu
  unfold Inv at this
  have hrun : (do let d ← Deferred.ofValue (.func (.func f) #[] #[]) vs.toArray; invoke d.target d.args : Sem Next).run P w = (callFunc f vs.toArray).run P w := by
    show (callFunc f ((#[] ++ vs.toArray) ++ #[])).run P w = _
    congr 2
    simp
  rwa [hrun] at this

/-- A run that begins with nothing and leaves nothing is a summary at every heap. -/
theorem closed_prim {X : Ctx} (hX : Good P X) {k f : Nat} {args : List D} {d : D} (h : callN X k (.func f [] []) args [] = some (d, [])) (hua : D.unders 0 args = true) (hud : d.under 0 = true)
    {β : Bk} {Φ : Fz} {H : Heap} {w : World} {vs : List Value} {B : Nat → Prop} (hw : WS P X.G β Φ B H w) (hv : VRs args β Φ vs) :
    InvR P (Res P X.G B β Φ H w d H) ((callFunc f vs.toArray).run P w) := by
  have h0 : WR P X.G Bk.none Φ 0 [] w := ⟨fun id c h => by simp at h, hw.wr.fz, fun id c k h => by simp at h, fun id c id' c' k h => by simp at h, fun _ _ _ => rfl, Nat.le_refl _, fun id c h => by simp at h, hw.wr.glob⟩
  have hw0 : WS P X.G Bk.none Φ (fun _ => False) [] w := ⟨h0, fun _ h => h.elim⟩
  have hl : ∀ k, ¬ live Bk.none [] k := by rintro k ⟨id, c, h, _⟩; simp at h
  have hr := (call_ok hX k).1 h hw0 (vf := .func (.func f) #[] #[]) (by simp [VR, VRs]) (VRs.closed args hua hv) (.inr rfl) (fun x hx => .inr (unders_mem hua hx))
  unfold Inv at hr
  have hrun : (do let d ← Deferred.ofValue (.func (.func f) #[] #[]) vs.toArray; invoke d.target d.args : Sem Next).run P w = (callFunc f vs.toArray).run P w := by
    show (callFunc f ((#[] ++ vs.toArray) ++ #[])).run P w = _
    congr 2
    simp
  rw [hrun] at hr
  have key : ∀ v w', Res P X.G (fun _ => False) Bk.none Φ [] w d [] v w' → Res P X.G B β Φ H w d H v w' := by
    rintro v w' ⟨β', Φ', q1, q2, q3, _⟩
    have hm : More H.length β Φ β Φ' := ⟨fun _ _ _ _ h => h, fun _ _ h => h, q3.more.fz⟩
    have hsame : ∀ j, j < w.heap.size → w'.heap[j]? = w.heap[j]? := fun j hj => q3.same j hj (hl j)
    refine ⟨β, Φ', VR.closed d hud q1, ⟨⟨fun id c hc => ?_, q2.wr.fz, fun id c j hc hj => ?_, hw.wr.inj, hw.wr.dom, hw.wr.base, hw.wr.ids, q2.wr.glob⟩, hw.ids⟩,
      ⟨hm, Nat.le_refl _, q3.os, q3.tape, q3.output, q3.size, fun j hj _ => hsame j hj, fun j hj => .inl hj, fun j o hj => ?_⟩, .inr (D.under_le d (Nat.zero_le _) hud)⟩
    · exact (hw.wr.ch id c hc).more (hw.wr.unders hc) (lt_of_some hc) hm (fun _ => rfl) (fun j hj => hsame j (hw.wr.blk_lt hc hj))
    · cases hx : Φ' j with
      | none => rfl
      | some o =>
        rcases q3.fzn j o hx with h1 | h1 | h1
        · rw [hw.wr.apart id c j hc hj] at h1; cases h1
        · exact absurd h1 (hl j)
        · have := hw.wr.blk_lt hc hj; omega
    · rcases q3.fzn j o hj with h1 | h1 | h1
      · exact .inl h1
      · exact absurd h1 (hl j)
      · exact .inr (.inr h1)
  revert hr
  generalize (callFunc f vs.toArray).run P w = res
  intro hr
  unfold InvR at hr ⊢
  split at hr
  · exact key _ _ hr
  · refine CallsIn.mono hr fun e w' he => ?_
    cases e with
    | returned v => exact key _ _ he
    | panicked c => exact he
    | outgrown => exact he
  · refine RoundIn.mono hr fun e w' he => ?_
    cases e with
    | returned v => exact key _ _ he
    | panicked c => exact he
    | outgrown => exact he
  · exact hr.elim

end
end Go.AM
