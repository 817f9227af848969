/- The abstract machine: ends of functions; code. -/
import Derived.Test.YtjcnlakifipmgaaGreatDoorAmE
set_option linter.unusedVariables false
set_option linter.unusedSimpArgs false
set_option linter.unnecessarySimpa false
set_option maxRecDepth 100000
/- A function's end: its own memory becomes part of the value. -/
namespace Go.AM

open Classical in
/-- The blocks of the chunks from n on (but one) stay as they are from now. -/
noncomputable def Fz.close (β : Bk) (Φ : Fz) (H : Heap) (w : World) (n : Nat) (keep : Option Nat) : Fz := fun k =>
  match Φ k with
  | some o => some o
  | none => if ∃ id, ∃ c : Chunk, n ≤ id ∧ keep ≠ some id ∧ H[id]? = some c ∧ c.blk β id = some k then w.heap[k]? else none

/-- What is known of the chunks below n (and of the one that is kept, as n). -/
def Bk.close (β : Bk) (n : Nat) (keep : Option Nat) : Bk := fun id v => if id < n then β id v else if id = n then (match keep with | some i => β i v | Option.none => Option.none) else Option.none

section
variable {P : Program} {G : Nat → Option (List D)} {β β0 : Bk} {Φ Φ0 : Fz} {b n : Nat} {H H0 : Heap} {w w0 : World} {keep : Option Nat}

theorem Fz.close_more (k : Nat) (o : Obj) (h : Φ k = some o) : Fz.close β Φ H w n keep k = some o := by
  unfold Fz.close; rw [h]

theorem Fz.close_inv {k : Nat} {o : Obj} (h : Fz.close β Φ H w n keep k = some o) : Φ k = some o ∨ (Φ k = none ∧ w.heap[k]? = some o ∧ ∃ id, ∃ c : Chunk, n ≤ id ∧ keep ≠ some id ∧ H[id]? = some c ∧ c.blk β id = some k) := by
  unfold Fz.close at h
  split at h
  · rename_i o' ho; cases h; exact .inl ho
  · rename_i ho
    split at h
    · rename_i hh; exact .inr ⟨ho, h, hh⟩
    · cases h

theorem Fz.close_new (hw : WR P G β Φ b H w) {id k : Nat} {c : Chunk} {o : Obj} (hid : n ≤ id) (hk : keep ≠ some id) (hc : H[id]? = some c) (hb : c.blk β id = some k) (ho : w.heap[k]? = some o) : Fz.close β Φ H w n keep k = some o := by
  unfold Fz.close
  rw [hw.apart id c k hc hb]
  simp only
  rw [if_pos ⟨id, c, hid, hk, hc, hb⟩]
  exact ho

theorem Bk.close_lt {id v : Nat} (h : id < n) : Bk.close β n keep id v = β id v := by unfold Bk.close; rw [if_pos h]

theorem close_more : More n β Φ (Bk.close β n keep) (Fz.close β Φ H w n keep) :=
  ⟨fun id v x hi hx => by rw [Bk.close_lt hi]; exact hx, fun id hi hx => by rw [Bk.close_lt hi]; exact hx, fun k o h => Fz.close_more k o h⟩

/-- The heap that is left. -/
def leftH (H : Heap) (n : Nat) : Option Chunk → Heap
  | none => H.take n
  | some c => H.take n ++ [c]

theorem take_some {α : Type} {l : List α} {n i : Nat} {x : α} (h : (l.take n)[i]? = some x) : i < n ∧ l[i]? = some x := by
  rw [List.getElem?_take] at h
  split at h
  · rename_i hlt; exact ⟨hlt, h⟩
  · cases h

theorem blk_congr {β β' : Bk} {id id' : Nat} {c : Chunk} (h : ∀ v, β' id' v = β id v) : c.blk β' id' = c.blk β id := by
  cases c <;> simp [Chunk.blk, h]

/-- The memory at a function's end. -/
theorem WR.close (h : WR P G β Φ 0 H w) (hn : Ids n H) (hx : Ext β0 Φ0 H0 w0 β Φ H w) (h0 : H0.length = n) {ck : Option Chunk} (hk : (keep = none ∧ ck = none) ∨ ∃ i c es cs nl, keep = some i ∧ ck = some c ∧ n ≤ i ∧ H[i]? = some c ∧ c = .row es cs nl ∧ D.unders n cs = true) :
    WR P G (Bk.close β n keep) (Fz.close β Φ H w n keep) 0 (leftH H n ck) w ∧ Ext β0 Φ0 H0 w0 (Bk.close β n keep) (Fz.close β Φ H w n keep) (leftH H n ck) w := by
  have hle := hn.1
  have htl : (H.take n).length = n := by simp; omega
  have hm : More n β Φ (Bk.close β n keep) (Fz.close β Φ H w n keep) := close_more
  -- a chunk of the heap that is left comes from one of the heap that was
  have hfrom : ∀ id (c : Chunk), (leftH H n ck)[id]? = some c → ∃ id', H[id']? = some c ∧ (∀ v, Bk.close β n keep id v = β id' v) ∧ c.unders n ∧ ((id < n ∧ id' = id) ∨ (id = n ∧ keep = some id' ∧ n ≤ id' ∧ ∃ es cs nl, c = .row es cs nl)) := by
    intro id c hc
    have old : (H.take n)[id]? = some c → ∃ id', H[id']? = some c ∧ (∀ v, Bk.close β n keep id v = β id' v) ∧ c.unders n ∧ ((id < n ∧ id' = id) ∨ (id = n ∧ keep = some id' ∧ n ≤ id' ∧ ∃ es cs nl, c = .row es cs nl)) := fun hc => by
      obtain ⟨h1, h2⟩ := take_some hc
      refine ⟨id, h2, fun v => Bk.close_lt h1, ?_, .inl ⟨h1, rfl⟩⟩
      have := hn.2 id c h2
      rwa [if_pos h1] at this
    rcases hk with ⟨h1, rfl⟩ | ⟨i, c0, es, cs, nl, h1, rfl, h2, h3, h4, h5⟩
    · exact old hc
    · rcases append_some hc with h6 | ⟨h6, h7⟩
      · exact old h6
      · rw [htl] at h6
        subst h7
        refine ⟨i, h3, fun v => ?_, by rw [h4]; exact h5, .inr ⟨h6, h1, h2, es, cs, nl, h4⟩⟩
        unfold Bk.close
        rw [if_neg (by omega), if_pos h6, h1]
  have hll : n ≤ (leftH H n ck).length := by
    rcases hk with ⟨_, rfl⟩ | ⟨i, c0, es, cs, nl, _, rfl, _⟩
    · simp [leftH]; omega
    · simp [leftH]; omega
  have hlk : ∀ id, (leftH H n ck).length ≤ id → (n < id ∨ (id = n ∧ keep = none)) := by
    intro id hid
    rcases hk with ⟨h1, rfl⟩ | ⟨i, c0, es, cs, nl, _, rfl, _⟩
    · simp only [leftH, htl] at hid
      rcases Nat.lt_or_ge n id with h | h
      · exact .inl h
      · exact .inr ⟨by omega, h1⟩
    · simp only [leftH, List.length_append, htl, List.length_singleton] at hid
      exact .inl (by omega)
  have inj' : ∀ (id : Nat) (c : Chunk) (id' : Nat) (c' : Chunk), H[id]? = some c → H[id']? = some c' → ∀ k, c.blk β id = some k → c'.blk β id' = some k → id = id' := fun id c id' c' h1 h2 k h3 h4 => h.inj id c id' c' k h1 h2 h3 h4
  refine ⟨⟨fun id c hc => ?_, fun k o hk => ?_, fun id c k hc hkk => ?_, fun id c id' c' k hc hc' hkk hkk' => ?_, fun id v hid => ?_, Nat.zero_le _, fun id c hc => ?_, fun g cs hg => ?_⟩,
    ⟨?_, by rw [h0]; exact hll, hx.os, hx.tape, hx.output, hx.size, hx.same, fun k hl => ?_, fun k o hk => ?_⟩⟩
  · obtain ⟨id', h1, h2, h3, h4⟩ := hfrom id c hc
    have hch := h.ch id' c h1
    rcases h4 with ⟨h4, rfl⟩ | ⟨rfl, h5, h6, es, cs, nl, rfl⟩
    · exact hch.more h3 h4 hm h2 (fun _ _ => rfl)
    · obtain ⟨q0, q1, q2, q3⟩ := hch
      refine ⟨q0, q1, fun v hv => by rw [h2]; exact q2 v hv, ?_⟩
      cases nl with
      | true => simp only [if_true] at q3 ⊢; exact ⟨q3.1, by rw [h2]; exact q3.2⟩
      | false =>
        simp only [Bool.false_eq_true, if_false] at q3 ⊢
        obtain ⟨k, c, cur, e, r1, r2, r3, r4, r5, r6⟩ := q3
        exact ⟨k, c, cur, e, by rw [h2]; exact r1, r2, r3, r4, r5, VRs.more cs h3 hm r6⟩
  · rcases Fz.close_inv hk with h1 | ⟨_, h1, _⟩
    · exact h.fz k o h1
    · exact h1
  · obtain ⟨id', h1, h2, _, h4⟩ := hfrom id c hc
    rw [blk_congr h2] at hkk
    cases hcl : Fz.close β Φ H w n keep k with
    | none => rfl
    | some o =>
      rcases Fz.close_inv hcl with h5 | ⟨_, _, i, c', h6, h7, h8, h9⟩
      · rw [h.apart id' c k h1 hkk] at h5; cases h5
      · have := inj' i c' id' c h8 h1 k h9 hkk
        subst this
        rcases h4 with ⟨h4, rfl⟩ | ⟨_, h4, _⟩
        · omega
        · exact absurd h4 h7
  · obtain ⟨i, h1, h2, _, h4⟩ := hfrom id c hc
    obtain ⟨i', h1', h2', _, h4'⟩ := hfrom id' c' hc'
    rw [blk_congr h2] at hkk
    rw [blk_congr h2'] at hkk'
    have := inj' i c i' c' h1 h1' k hkk hkk'
    subst this
    rcases h4 with ⟨_, rfl⟩ | ⟨e1, _, e2, _⟩ <;> rcases h4' with ⟨_, e3⟩ | ⟨e4, _, e5, _⟩
    · exact e3
    · omega
    · omega
    · omega
  · unfold Bk.close
    rcases hlk id hid with h1 | ⟨h1, h2⟩
    · rw [if_neg (by omega), if_neg (by omega)]
    · rw [if_neg (by omega), if_pos h1, h2]
  · obtain ⟨_, _, _, h3, _⟩ := hfrom id c hc
    simp only [Nat.not_lt_zero, if_false]
    exact Chunk.unders_le hll h3
  · obtain ⟨cur, e, fr, h1, h2⟩ := h.glob g cs hg
    exact ⟨cur, e, fr, Fz.close_more _ _ h1, FRs.more cs (fun k o h => Fz.close_more k o h) h2⟩
  · exact hx.more.trans (by omega) hm
  · obtain ⟨id, c, hc, hkk⟩ := hl
    obtain ⟨i, h1, h2, _, _⟩ := hfrom id c hc
    rw [blk_congr h2] at hkk
    exact hx.fresh k ⟨i, c, h1, hkk⟩
  · rcases Fz.close_inv hk with h1 | ⟨_, _, i, c, _, _, h8, h9⟩
    · exact hx.fzn k o h1
    · exact .inr (hx.fresh k ⟨i, c, h8, h9⟩)

end
end Go.AM
/- A function's end: what it hands back. -/
namespace Go.AM

section
variable {P : Program} {G : Nat → Option (List D)} {β β0 : Bk} {Φ Φ0 : Fz} {b n N : Nat} {B : Nat → Prop} {H H0 : Heap} {w w0 : World} {keep : Option Nat} {env : Env} {a : Act}

theorem mapO_ok {g : D → Option D} {β' : Bk} {Φ' : Fz} (hg : ∀ d d' v, g d = some d' → VR d β Φ v → VR d' β' Φ' v) : ∀ {ds ds' : List D} {vs : List Value}, mapO g ds = some ds' → VRs ds β Φ vs → VRs ds' β' Φ' vs
  | [], ds', vs, h, hv => by simp [mapO] at h; subst h; exact hv
  | d :: ds, ds', vs, h, hv => by
    simp only [mapO] at h
    split at h
    · rename_i d1 h1
      split at h
      · rename_i ds1 h2
        cases h
        simp only [VRs] at hv ⊢
        obtain ⟨v, r, e, q1, q2⟩ := hv
        exact ⟨v, r, e, hg d d1 v h1 q1, mapO_ok hg h2 q2⟩
      · cases h
    · cases h

/-- What may be frozen: chunks from n on, but the one that is kept. -/
def Fresh (Hz H : Heap) (keep : Option Nat) : Prop := ∀ i (c : Chunk), Hz[i]? = some c → (∀ t, c ≠ .dfr t) → H[i]? = some c ∧ keep ≠ some i

theorem fz_ok (h : WR P G β Φ b H w) {Hz : Heap} (hz : Fresh Hz H keep) : ∀ (f : Nat) (d d' : D) (v : Value), fz Hz n f d = some d' → VR d β Φ v → VR d' (Bk.close β n keep) (Fz.close β Φ H w n keep) v := by
  have hm : More n β Φ (Bk.close β n keep) (Fz.close β Φ H w n keep) := close_more
  intro f
  induction f with
  | zero => intro d d' v hf; simp [fz] at hf
  | succ f ih =>
    intro d d' v hf hv
    have stay : ∀ d, d.under n = true → VR d β Φ v → VR d (Bk.close β n keep) (Fz.close β Φ H w n keep) v := fun d hu hv => VR.more d hu hm hv
    cases d
    case ptr id off =>
      simp only [fz] at hf
      split at hf
      · rename_i hlt; cases hf; exact stay _ (by simpa [D.under, Nat.blt_eq] using hlt) hv
      · rename_i hge
        split at hf
        · rename_i cs hc
          split at hf
          · rename_i cs' hcs
            split at hf
            · rename_i hok
              cases hf
              simp only [Bool.and_eq_true] at hok
              obtain ⟨h1, h2⟩ := hz id _ hc (fun t => by simp)
              obtain ⟨q1, k, c, cur, e, q2, q3, q4⟩ := h.ch id _ h1
              simp only [VR] at hv
              obtain ⟨k', c', q5, rfl⟩ := hv
              rw [q2] at q5; cases q5
              have hbk : (Chunk.box cs).blk β id = some k := by simp [Chunk.blk, q2]
              simp only [VR]
              refine ⟨_, rfl, .inr ⟨cur, e, (0, 0), Fz.close_new h (by omega) h2 h1 hbk q3, rfl, ?_⟩⟩
              have hvs := mapO_ok ih hcs (q4.drop off)
              refine FRs_of_VRs hvs hok.1 (fun j u hj => ?_)
              simpa using hj
            · cases hf
          · cases hf
        · cases hf
    case osl id hw off m =>
      simp only [fz] at hf
      split at hf
      · rename_i hlt; cases hf; exact stay _ (by simpa [D.under, Nat.blt_eq] using hlt) hv
      · rename_i hge
        split at hf
        · rename_i es cs nil hc
          obtain ⟨h1, h2⟩ := hz id _ hc (fun t => by simp)
          obtain ⟨p0, p1, p2, p3⟩ := h.ch id _ h1
          cases nil with
          | true =>
            simp only [if_true] at p3 hf
            split at hf
            · rename_i hm0
              cases hf
              obtain ⟨rfl, p4⟩ := p3
              simp only [VR] at hv ⊢
              rcases hv with ⟨k, c, q1, _⟩ | ⟨_, _, _, _, q⟩
              · cases hw with
                | zero => rw [p4] at q1; cases q1
                | succ hw => rw [p2 (hw + 1) (by simp)] at q1; cases q1
              · exact q
            · cases hf
          | false =>
            simp only [Bool.false_eq_true, if_false] at p3 hf
            obtain ⟨k, c, cur, e, q1, q2, q3, q4, q5, q6⟩ := p3
            split at hf
            · rename_i hh
              split at hf
              · rename_i cs' hcs
                split at hf
                · rename_i hok
                  cases hf
                  simp only [Bool.and_eq_true] at hok
                  obtain ⟨hh1, hh2⟩ := hh
                  have hbk : (Chunk.row es cs false).blk β id = some k := by simp [Chunk.blk, q1]
                  have hfz : Fz.close β Φ H w n keep k = some (.cells cur e (0, 0)) := Fz.close_new h (by omega) h2 h1 hbk q2
                  have hvs := mapO_ok ih hcs ((q6.drop off).take (m * es))
                  have hfr : FRs cs' (Fz.close β Φ H w n keep) cur off := by
                    refine FRs_of_VRs hvs hok.1 (fun j u hj => ?_)
                    rw [List.getElem?_take] at hj
                    split at hj
                    · rw [List.getElem?_drop, List.getElem?_take] at hj
                      split at hj
                      · simpa using hj
                      · cases hj
                    · cases hj
                  have hnil : m = 0 → cs' = [] := fun hm0 => by
                    subst hm0
                    simp [mapO] at hcs
                    exact hcs
                  simp only [VR] at hv ⊢
                  rcases hv with ⟨k', c', r1, r2⟩ | ⟨r1, r2, _⟩
                  · rw [← hh1, q1] at r1; cases r1
                    rcases r2 with ⟨r2, r3, r4⟩ | ⟨r2, ad, cap, r3, r4, r5⟩
                    · subst r2
                      exact ⟨_, _, r3, r4, .inr ⟨cur, e, (0, 0), hfz, rfl, hfr⟩⟩
                    · refine ⟨ad, cap, r3, r4, ?_⟩
                      by_cases hm0 : m = 0
                      · exact .inl (hnil hm0)
                      · rw [r5 hm0]; exact .inr ⟨cur, e, (0, 0), hfz, rfl, hfr⟩
                  · rw [r2] at hh1
                    rw [hh1, r1] at q1; cases q1
                · cases hf
              · cases hf
            · cases hf
        · cases hf
    case agg cs =>
      simp only [fz] at hf
      split at hf
      · rename_i cs' hcs
        cases hf
        simp only [VR] at hv ⊢
        obtain ⟨vs, e, hv⟩ := hv
        exact ⟨vs, e, mapO_ok ih hcs hv⟩
      · cases hf
    case tup cs =>
      simp only [fz] at hf
      split at hf
      · rename_i cs' hcs
        cases hf
        simp only [VR] at hv ⊢
        obtain ⟨vs, e, hv⟩ := hv
        exact ⟨vs, e, mapO_ok ih hcs hv⟩
      · cases hf
    case func g ps cs =>
      simp only [fz] at hf
      split at hf
      · rename_i ps' cs' hps hcs
        cases hf
        simp only [VR] at hv ⊢
        obtain ⟨us, vs, e, hu, hv⟩ := hv
        exact ⟨us, vs, e, mapO_ok ih hps hu, mapO_ok ih hcs hv⟩
      · cases hf
    case rptr id hw off =>
      simp only [fz] at hf
      split at hf
      · rename_i hlt; cases hf; exact stay _ (by simpa [D.under, Nat.blt_eq] using hlt) hv
      · cases hf
    case yield id =>
      simp only [fz] at hf
      split at hf
      · rename_i hlt; cases hf; exact stay _ (by simpa [D.under, Nat.blt_eq] using hlt) hv
      · cases hf
    case mp id =>
      simp only [fz] at hf
      split at hf
      · rename_i hlt; cases hf; exact stay _ (by simpa [D.under, Nat.blt_eq] using hlt) hv
      · cases hf
    case undef => simp [fz] at hf
    all_goals (simp only [fz, Option.some.injEq] at hf; subst hf; exact stay _ rfl hv)

/-! ### The results -/
def resM (tmps : Array Value) : ResultVar → Sem Value
  | .tmp t => pure (tmps.getD t undef)
  | .cell a t => do loadVar t (← asAddr (tmps.getD a undef))

theorem readRes_ok (h : WR P G β Φ b H w) (he : ER β Φ env a.tmps) : ∀ {rs : List ResultVar} {ars : List ARes} {ds : List D}, compRes P rs = some ars → readRes env H ars = some ds → ∃ vs, (rs.mapM (resM a.tmps)).run P w = .ok vs w ∧ VRs ds β Φ vs
  | [], ars, ds, hc, hr => by
    simp [compRes] at hc; subst hc
    simp [readRes] at hr; subst hr
    exact ⟨[], by simp, rfl⟩
  | .tmp t :: r, ars, ds, hc, hr => by
    simp only [compRes] at hc
    split at hc
    · rename_i l hl
      cases hc
      simp only [readRes] at hr
      split at hr
      · rename_i ds' hd
        cases hr
        obtain ⟨vs, q1, q2⟩ := readRes_ok h he hl hd
        exact ⟨a.tmps.getD t undef :: vs, by simp [List.mapM_cons, resM, q1], ⟨_, _, rfl, he t, q2⟩⟩
      · cases hr
    · cases hc
  | .cell x t :: r, ars, ds, hc, hr => by
    simp only [compRes] at hc
    split at hc
    · rename_i ag s l h1 h2 hl
      cases hc
      simp only [readRes] at hr
      split at hr
      · rename_i cs hcs
        split at hr
        · rename_i d hd
          split at hr
          · rename_i ds' hds
            cases hr
            obtain ⟨vs, q1, q2⟩ := readRes_ok h he hl hds
            obtain ⟨ad, us, g1, g2, g3⟩ := cellsAt_ok h (he x) hcs
            obtain ⟨v, g4, g5⟩ := run_loadD (P := P) h1 h2 g2 g3 hd
            exact ⟨v :: vs, by simp [List.mapM_cons, resM, g1, asAddr, g4, q1], ⟨_, _, rfl, g5, q2⟩⟩
          · cases hr
        · cases hr
      · cases hr
    · cases hc

theorem pack_ok {ds : List D} {vs : List Value} (h : VRs ds β Φ vs) : VR (pack ds) β Φ (if h : vs.toArray.size = 1 then vs.toArray[0] else .tuple vs.toArray) := by
  have hl := VRs.length h
  cases ds with
  | nil =>
    simp only [VRs] at h; subst h
    simp [pack, VR, VRs]
  | cons d r =>
    cases r with
    | nil =>
      simp only [VRs] at h
      obtain ⟨v, r, rfl, h1, rfl⟩ := h
      simpa [pack] using h1
    | cons d' r' =>
      have hne : ¬ vs.toArray.size = 1 := by simp at hl ⊢; omega
      rw [dif_neg hne]
      simp only [pack, VR]
      exact ⟨vs, rfl, h⟩

theorem results_ok {fn : Func} {vs : List Value} {w : World} (h : (fn.results.toList.mapM (resM a.tmps)).run P w = .ok vs w) : (results fn a.tmps).run P w = .ok (if h : vs.toArray.size = 1 then vs.toArray[0] else .tuple vs.toArray) w := by
  have hf : results fn a.tmps = (do let vs ← fn.results.mapM (resM a.tmps); pure (if h : vs.size = 1 then vs[0] else .tuple vs)) := by
    unfold results
    congr 1
  rw [hf, Array.mapM_eq_mapM_toList]
  simp [h]

end
end Go.AM
/- A function's end, whole. -/
namespace Go.AM

/-- The marks among the deferred calls; what else is deferred does nothing. -/
def DR (P : Program) (β : Bk) : List Nat → List Deferred → Prop
  | l, [] => l = []
  | l, d :: ds => (Harmless P d ∧ DR P β l ds) ∨ ∃ id r k c, l = id :: r ∧ d = { target := .collected k, args := #[] } ∧ β id 0 = some (k, c) ∧ DR P β r ds

theorem DR.more {P : Program} {β β' : Bk} {Φ Φ' : Fz} {n : Nat} (hm : More n β Φ β' Φ') : ∀ {ds : List Deferred} {l : List Nat}, (∀ id ∈ l, id < n) → DR P β l ds → DR P β' l ds
  | [], l, _, h => h
  | d :: ds, l, hl, h => by
    rcases h with ⟨h1, h2⟩ | ⟨id, r, k, c, rfl, h1, h2, h3⟩
    · exact .inl ⟨h1, DR.more hm hl h2⟩
    · exact .inr ⟨id, r, k, c, rfl, h1, hm.some _ _ _ (hl id (by simp)) h2, DR.more hm (fun i hi => hl i (by simp [hi])) h3⟩

theorem DR.harmless {P : Program} {β : Bk} {l : List Nat} {ds : List Deferred} (h : DR P β l ds) : ∀ {hs : List Deferred}, (∀ d ∈ hs, Harmless P d) → DR P β l (hs ++ ds)
  | [], _ => h
  | d :: hs, hh => .inl ⟨hh d (by simp), DR.harmless h (fun x hx => hh x (by simp [hx]))⟩

section
variable {P : Program} {G : Nat → Option (List D)} {β β0 : Bk} {Φ Φ0 : Fz} {b n N : Nat} {B : Nat → Prop} {H H0 : Heap} {w w0 : World} {keep : Option Nat} {env : Env} {a : Act}

/-- A chunk turns, its ids as they were: bases. -/
theorem Ids.set {b id : Nat} {c c' : Chunk} (h : Ids b H) (hc : H[id]? = some c) (hu : ∀ n, c.unders n → c'.unders n) : Ids b (H.set id c') := by
  refine ⟨by simpa using h.1, fun i x hx => ?_⟩
  rw [List.length_set]
  rcases set_some hx with ⟨h1, h2⟩ | ⟨h1, h2, h3⟩
  · exact h.2 i x h2
  · subst h1; subst h2; exact hu _ (h.2 _ _ hc)

theorem run_take {k : Nat} {w : World} (h : w.heap[k]? = some (.deferred (some []))) : (Instr.takeDeferred k).run P w = .ok [] { w with heap := w.heap.setIfInBounds k (.deferred none) } := by
  simp [Instr.takeDeferred, getObj, setObj, Sem.run, Sem.run_bind, h, Result.andThen]

theorem set_turn {w : World} {k : Nat} (o : Obj) (hk : k < w.heap.size) : Turn w { w with heap := w.heap.setIfInBounds k o } k o :=
  ⟨rfl, rfl, rfl, by simp, by simp [hk], fun i hi => by simp [Array.getElem?_setIfInBounds, Ne.symm hi]⟩

theorem enter_run {f : Nat} (he : EntersAt P f) (args : Array Value) (w : World) : (callFunc f args).run P w = .ok (.enter f args) w := by
  obtain ⟨fn, h1, h2, h3⟩ := he
  unfold callFunc
  have h2' : ¬ fn.name = "runtime.NumGoroutine" := by simpa using h2
  have h3' : ¬ fn.body = none := by intro e; rw [e] at h3; cases h3
  simp [Sem.run_bind, h1, h2', h3', program, Sem.run]

theorem Ext.ofGrown {b0 : Nat} {β : Bk} {Φ : Fz} {H : Heap} {w w' : World} (hw : WR P G β Φ b0 H w) (h1 : w.heap.size ≤ w'.heap.size ∧ ∀ k, k < w.heap.size → w'.heap[k]? = w.heap[k]?) (h2 : w'.os = w.os) (h3 : w'.tape = w.tape) (h4 : w'.output = w.output) : Ext β Φ H w β Φ H w' :=
  ⟨More.refl _ _ _, Nat.le_refl _, h2, h3, h4, h1.1, fun k hk _ => h1.2 k hk, fun _ h => .inl h, fun _ _ h => .inl h⟩

theorem WR.grown {b0 : Nat} {β : Bk} {Φ : Fz} {H : Heap} {w : World} (h : WR P G β Φ b0 H w) {w' : World} (hh : w.heap.size ≤ w'.heap.size ∧ ∀ k, k < w.heap.size → w'.heap[k]? = w.heap[k]?) : WR P G β Φ b0 H w' := by
  refine ⟨fun id c hc => ?_, fun k o hk => ?_, h.apart, h.inj, h.dom, h.base, h.ids, h.glob⟩
  · exact (h.ch id c hc).more (h.unders hc) (lt_of_some hc) (More.refl _ _ _) (fun _ => rfl) (fun k hk => hh.2 k (h.blk_lt hc hk))
  · have h1 := h.fz k o hk
    rw [hh.2 k (Array.getElem?_eq_some_iff.1 h1).1]
    exact h1

/-- The marks are taken, one after the other. -/
theorem takes_ok {fn : Func} {tmps : Array Value} {R : Ending → World → Prop} : ∀ (ds : List Deferred) (l : List Nat) (H H' : Heap) (w : World), WS P G β Φ B H w → Ext β0 Φ0 H0 w0 β Φ H w → DR P β l ds → takesA H l = some H' →
    (∀ w', WS P G β Φ B H' w' → Ext β0 Φ0 H0 w0 β Φ H' w' → LeavesInM Fence.wide 0 P fn tmps R [] .returning w') → LeavesInM Fence.wide 0 P fn tmps R ds .returning w
  | [], l, H, H', w, hw, hx, hd, ht, hk => by
    simp only [DR] at hd; subst hd
    simp [takesA] at ht; subst ht
    exact hk w hw hx
  | d :: ds, l, H, H', w, hw, hx, hd, ht, hk => by
    rcases hd with ⟨⟨f, vs, us, rfl, hq1, hq2⟩, hd⟩ | ⟨id, r, k, c, rfl, rfl, h1, h2⟩
    · refine ⟨by simp, .inr ⟨fun h => by simp [Fence.wide] at h, .func f, vs, f, us ++ vs, rfl, enter_run hq1 _ _, fun _ _ => trivial, CallsDIn.mono (hq2 _ w) ?_⟩⟩
      rintro e u' w' ⟨⟨v, rfl⟩, hu, q1, q2, q3, q4⟩
      show LeavesInM Fence.wide 0 P fn tmps R ds (settle u') w'
      rw [hu]
      exact takes_ok ds l H H' w' ⟨hw.wr.grown q1, hw.ids⟩ (hx.trans (Ext.ofGrown hw.wr q1 q2 q3 q4)) hd ht hk
    · simp only [takesA] at ht
      split at ht
      · rename_i hc
        obtain ⟨k', c', h3, h4⟩ := hw.wr.ch id _ hc
        rw [h1] at h3; cases h3
        simp only [Bool.false_eq_true, if_false] at h4
        have hlt : k < w.heap.size := (Array.getElem?_eq_some_iff.1 h4).1
        have hturn := set_turn (w := w) (.deferred none) hlt
        have hbk : (Chunk.dfr false).blk β id = some k := by simp [Chunk.blk, h1]
        obtain ⟨g1, g2⟩ := hw.wr.turn (c' := .dfr true) hc hbk hturn (fun _ _ _ => rfl) (fun _ _ h => h) (fun h => h) ⟨k, c, h1, by simpa using hturn.here⟩ (by simp [Chunk.blk, h1]) trivial
        refine ⟨by simp, .inl ⟨k, _, rfl, run_take h4, ?_⟩⟩
        exact takes_ok ds r _ H' _ ⟨g1, fun b hb => (hw.ids b hb).set hc (fun _ _ => trivial)⟩ (hx.trans g2) h2 ht hk
      · cases ht

theorem unders_take {b : Nat} (hb : b ≤ n) (h : Ids b H) (hn : Ids n H) {ck : Option Chunk} (hck : ∀ c, ck = some c → c.unders n) : Ids b (leftH H n ck) := by
  have htl : (H.take n).length = n := by have := hn.1; simp; omega
  have hll : n ≤ (leftH H n ck).length := by
    cases ck with
    | none => have := hn.1; simp [leftH]; omega
    | some c => have := hn.1; simp [leftH]; omega
  refine ⟨by omega, fun id c hc => ?_⟩
  have old : (H.take n)[id]? = some c → c.unders (if id < b then b else (leftH H n ck).length) := fun hc => by
    obtain ⟨h1, h2⟩ := take_some hc
    have g1 := h.2 id c h2
    have g2 := hn.2 id c h2
    split
    · rename_i h3; rwa [if_pos h3] at g1
    · rw [if_pos h1] at g2; exact Chunk.unders_le hll g2
  cases ck with
  | none => exact old hc
  | some c0 =>
    rcases append_some hc with h1 | ⟨h1, h2⟩
    · exact old h1
    · rw [htl] at h1
      subst h2
      rw [if_neg (by omega)]
      exact Chunk.unders_le hll (hck _ rfl)

theorem pack_under {n : Nat} {ds : List D} (h : D.unders n ds = true) : (pack ds).under n = true := by
  cases ds with
  | nil => rfl
  | cons d r =>
    cases r with
    | nil => simpa [pack, D.unders] using h
    | cons d' r' => simpa [pack, D.under] using h

/-- What a function's result is asked. -/
def Back (P : Program) (G : Nat → Option (List D)) (B : Nat → Prop) (β0 : Bk) (Φ0 : Fz) (H0 : Heap) (w0 : World) (d : D) (H' : Heap) (v : Value) (w' : World) : Prop :=
  ∃ β' Φ', VR d β' Φ' v ∧ WS P G β' Φ' B H' w' ∧ Ext β0 Φ0 H0 w0 β' Φ' H' w'

theorem finishP_ok (hw : WS P G β Φ B H w) (hn : Ids n H) (hB : ∀ b', B b' → b' ≤ n) (hx : Ext β0 Φ0 H0 w0 β Φ H w) (h0 : H0.length = n) {ds : List D} {vs : List Value} (hv : VRs ds β Φ vs) {d : D} {H' : Heap} (h : finishP H n ds = some (d, H')) :
    UN H'.length d ∧ Back P G B β0 Φ0 H0 w0 d H' (if h : vs.toArray.size = 1 then vs.toArray[0] else .tuple vs.toArray) w := by
  unfold finishP at h
  split at h
  · rename_i ds' hds
    split at h
    · rename_i hu
      cases h
      have hz : Fresh H H none := fun i c hc _ => ⟨hc, by simp⟩
      have hvs := mapO_ok (fz_ok hw.wr hz 64) hds hv
      obtain ⟨g1, g2⟩ := hw.wr.close (keep := none) hn hx h0 (ck := none) (.inl ⟨rfl, rfl⟩)
      have hlen : (H.take n).length = n := by have := hn.1; simp; omega
      refine ⟨.inr (by rw [hlen]; exact pack_under hu), _, _, pack_ok hvs, ⟨g1, fun b hb => ?_⟩, g2⟩
      exact unders_take (hB b hb) (hw.ids b hb) hn (ck := none) (fun c hc => by cases hc)
    · cases h
  · cases h

theorem finishP_un (hl : n ≤ H.length) {ds : List D} {d : D} {H' : Heap} (h : finishP H n ds = some (d, H')) : UN H'.length d := by
  unfold finishP at h
  split at h
  · split at h
    · rename_i hu
      cases h
      have hlen : (H.take n).length = n := by simp; omega
      exact .inr (by rw [hlen]; exact pack_under hu)
    · cases h
  · cases h

theorem takes_len : ∀ {l : List Nat} {H H' : Heap}, takesA H l = some H' → H'.length = H.length
  | [], H, H', h => by simp [takesA] at h; rw [h]
  | id :: r, H, H', h => by
    simp only [takesA] at h
    split at h
    · rw [takes_len h, List.length_set]
    · cases h

theorem VRs_set_un {n : Nat} {ds : List D} {j m : Nat} {hw : Nat} (h : D.unders n ds = true) : D.unders (n + 1) (ds.set j (.osl n hw 0 m)) = true :=
  D.unders_set (D.unders_le _ (Nat.le_succ n) h) (by simp [D.under, Nat.blt_eq])

theorem fresh_set {id : Nat} : Fresh (H.set id (.dfr true)) H (some id) := by
  intro i c hc hne
  rcases set_some hc with ⟨h1, h2⟩ | ⟨_, h2, _⟩
  · exact ⟨h2, by simpa using fun e => h1 e.symm⟩
  · exact absurd h2 (hne true)

theorem VRs.set2 {cs : List D} {vs : List Value} (h : VRs cs β Φ vs) {i : Nat} {d : D} {v : Value} (hv : VR d β Φ v) : VRs (cs.set i d) β Φ (vs.set i v) := by
  induction cs generalizing vs i with
  | nil => simp only [VRs] at h; subst h; simp [VRs]
  | cons c r ih =>
    simp only [VRs] at h
    obtain ⟨u, us, rfl, h1, h2⟩ := h
    cases i with
    | zero => exact ⟨_, _, rfl, hv, h2⟩
    | succ i => exact ⟨_, _, rfl, h1, ih h2⟩

theorem finish_ok (hw : WS P G β Φ B H w) (hn : Ids n H) (hB : ∀ b', B b' → b' ≤ n) (hx : Ext β0 Φ0 H0 w0 β Φ H w) (h0 : H0.length = n) (he : ER β Φ env a.tmps) {fn : Func} {af : AFunc} {dfs : List Nat} (hrs : compRes P fn.results.toList = some af.results)
    (hdr : DR P β dfs a.defers) {d : D} {H' : Heap} (h : finish af n ⟨env, H, dfs⟩ = some (d, H')) :
    UN H'.length d ∧ LeavesInM Fence.wide 0 P fn a.tmps (ret (Back P G B β0 Φ0 H0 w0 d H')) a.defers .returning w := by
  unfold finish at h
  split at h
  · cases h
  · rename_i H1 ht
    simp only at ht h
    split at h
    · cases h
    · rename_i ds hds
      -- what is to be shown behind the marks
      have key : UN H'.length d ∧ ∀ w', WS P G β Φ B H1 w' → Ids n H1 → Ext β0 Φ0 H0 w0 β Φ H1 w' → ∀ vs, VRs ds β Φ vs → Back P G B β0 Φ0 H0 w0 d H' (if h : vs.toArray.size = 1 then vs.toArray[0] else .tuple vs.toArray) w' := by
        have hl1 : n ≤ H1.length := by rw [takes_len ht]; exact hn.1
        have plain : finishP H1 n ds = some (d, H') → UN H'.length d ∧ ∀ w', WS P G β Φ B H1 w' → Ids n H1 → Ext β0 Φ0 H0 w0 β Φ H1 w' → ∀ vs, VRs ds β Φ vs → Back P G B β0 Φ0 H0 w0 d H' (if h : vs.toArray.size = 1 then vs.toArray[0] else .tuple vs.toArray) w' := fun h =>
          ⟨finishP_un hl1 h, fun w' hw' hn' hx' vs hv => (finishP_ok hw' hn' hB hx' h0 hv h).2⟩
        split at h
        · exact plain h
        · rename_i j hkeep
          split at h
          · split at h
            · rename_i hun
              cases h
              exact ⟨.inr (pack_under hun), fun w' hw' hn' hx' vs hv => ⟨β, Φ, pack_ok hv, hw', hx'⟩⟩
            · cases h
          split at h
          · rename_i id hw0 m hj
            split at h
            · exact plain h
            · rename_i hge
              split at h
              · rename_i es cs nil hc
                split at h
                · rename_i hcu
                  split at h
                  · rename_i ds' hds'
                    split at h
                    · rename_i hok
                      cases h
                      simp only [Bool.and_eq_true, Nat.blt_eq] at hok
                      have hlen : (H1.take n ++ [Chunk.row es cs nil]).length = n + 1 := by simp; omega
                      refine ⟨.inr (by rw [hlen]; exact pack_under (VRs_set_un hok.1)), fun w' hw' hn' hx' vs hv => ?_⟩
                      obtain ⟨g1, g2⟩ := hw'.wr.close (keep := some id) hn' hx' h0 (ck := some (.row es cs nil)) (.inr ⟨id, _, es, cs, nil, rfl, rfl, by omega, hc, rfl, hcu⟩)
                      obtain ⟨v, q1, q2⟩ := VRs.get hv hj
                      have hv1 : VRs (ds.set j .nilsl) β Φ (vs.set j (.slice none 0 0)) := VRs.set2 hv rfl
                      have hv2 := mapO_ok (fz_ok hw'.wr fresh_set 64) hds' hv1
                      have hbn : ∀ u, Bk.close β n (some id) n u = β id u := fun u => by unfold Bk.close; simp
                      have hv3 : VR (.osl n hw0 0 m) (Bk.close β n (some id)) (Fz.close β Φ H1 w' n (some id)) v := by
                        simp only [VR] at q2 ⊢
                        simp only [hbn]
                        exact q2
                      have hv4 := VRs.set2 hv2 (i := j) hv3
                      have hjl : j < vs.length := (List.getElem?_eq_some_iff.1 q1).1
                      have hvj : vs[j] = v := (List.getElem?_eq_some_iff.1 q1).2
                      have hback : (vs.set j (.slice none 0 0)).set j v = vs := by rw [List.set_set, ← hvj, List.set_getElem_self]
                      rw [hback] at hv4
                      refine ⟨_, _, pack_ok hv4, ⟨g1, fun b hb => ?_⟩, g2⟩
                      exact unders_take (hB b hb) (hw'.ids b hb) hn' (ck := some (.row es cs nil)) (fun c hc => by cases hc; exact hcu)
                    · cases h
                  · cases h
                · cases h
              · cases h
          · exact plain h
      refine ⟨key.1, takes_ok (B := fun b' => B b' ∨ b' = n) a.defers dfs H H1 w ⟨hw.wr, fun b' hb => ?_⟩ hx hdr ht fun w' hw' hx' => ?_⟩
      · rcases hb with hb | rfl
        · exact hw.ids b' hb
        · exact hn
      · obtain ⟨vs, q1, q2⟩ := readRes_ok hw'.wr he hrs hds
        exact ⟨_, results_ok q1, key.2 w' ⟨hw'.wr, fun b' hb => hw'.ids b' (.inl hb)⟩ (hw'.ids n (.inr rfl)) hx' vs q2⟩

end
end Go.AM
/- A function's code: entering a range over a function; loops. -/
namespace Go.AM

def RndR (β : Bk) (H : Heap) : Option Nat → Option Nat → Prop
  | none, none => True
  | some l, some k => (∃ c, β l 0 = some (k, c)) ∧ l < H.length
  | _, _ => False

structure CS (P : Program) (G : Nat → Option (List D)) (N : Nat) (B : Nat → Prop) (β0 : Bk) (Φ0 : Fz) (H0 : Heap) (w0 : World) (rnd r : Option Nat) (β : Bk) (Φ : Fz) (s : St) (a : Act) (w : World) : Prop where
  ws : WS P G β Φ B s.H w
  er : ER β Φ s.env a.tmps
  eu : EU s.H.length s.env
  size : N ≤ a.tmps.size
  dr : DR P β s.dfs a.defers
  dlt : ∀ id ∈ s.dfs, id < s.H.length
  ext : Ext β0 Φ0 H0 w0 β Φ s.H w
  rnd : RndR β s.H rnd r

def exC : Ex → Exit
  | .normal => .normal
  | .exit id => .exit id
  | .ret => .ret

def Enters (P : Program) (call : D → List D → Heap → Option (D × Heap)) : Prop :=
  ∀ {f : Nat} {pre caps : List D} {l : Nat} {H : Heap} {r : D × Heap}, call (.func f pre caps) [.yield l] H = some r → EntersAt P f

section
variable {P : Program} {G : Nat → Option (List D)} {β β0 : Bk} {Φ Φ0 : Fz} {b n N : Nat} {B : Nat → Prop} {H H0 : Heap} {w w0 : World} {keep : Option Nat} {env : Env} {a : Act} {rnd r : Option Nat}

theorem RndR.more {β' : Bk} {Φ' : Fz} {H' : Heap} (h : RndR β H rnd r) (hm : More H.length β Φ β' Φ') (hl : H.length ≤ H'.length) : RndR β' H' rnd r := by
  cases rnd <;> cases r <;> first | exact h | skip
  obtain ⟨⟨c, h1⟩, h2⟩ := h
  exact ⟨⟨c, hm.some _ _ _ h2 h1⟩, by omega⟩

/-- The deferred calls' block and the loop's record. -/
theorem newDfr (hw : WS P G β Φ B H w) : ∃ β', WS P G β' Φ B (H ++ [.dfr false]) (w.alloc (.deferred (some []))) ∧ Ext β Φ H w β' Φ (H ++ [.dfr false]) (w.alloc (.deferred (some []))) ∧ β' H.length 0 = some (w.heap.size, 0) := by
  have hg := Grow.alloc w (.deferred (some []))
  obtain ⟨g1, g2⟩ := hw.wr.newChunk (v := 0) (cap := 0) hg (c := .dfr false) ⟨w.heap.size, 0, Bk.put_same _ _ _ _, by simpa using hg.new⟩ (by simp [Chunk.blk, Bk.put_same]) trivial
  exact ⟨_, ⟨g1, fun b hb => (hw.ids b hb).append trivial⟩, g2, Bk.put_same _ _ _ _⟩

theorem newLoop (hw : WS P G β Φ B H w) {L : ALoop} {rec : Loop} (hu : EU H.length L.env) (hd : L.dfr < H.length) (hl : LoopRel P β Φ L rec) :
    ∃ β', WS P G β' Φ B (H ++ [.loop L]) (w.alloc (.loop rec)) ∧ Ext β Φ H w β' Φ (H ++ [.loop L]) (w.alloc (.loop rec)) ∧ β' H.length 0 = some (w.heap.size, 0) := by
  have hg := Grow.alloc w (.loop rec)
  have hm : More H.length β Φ (Bk.put β H.length 0 (w.heap.size, 0)) Φ :=
    ⟨fun id u x hi hx => by rw [Bk.put_id (by omega)]; exact hx, fun id hi hx => by rw [Bk.put_id (by omega)]; exact hx, fun _ _ h => h⟩
  have hun : (Chunk.loop L).unders H.length := ⟨hu, hd⟩
  obtain ⟨g1, g2⟩ := hw.wr.newChunk (v := 0) (cap := 0) hg (c := .loop L) ⟨w.heap.size, 0, rec, Bk.put_same _ _ _ _, by simpa using hg.new, hl.more hun hm⟩ (by simp [Chunk.blk, Bk.put_same]) (Chunk.unders_le (by omega) hun)
  exact ⟨_, ⟨g1, fun b hb => (hw.ids b hb).append (Chunk.unders_le (by omega) hun)⟩, g2, Bk.put_same _ _ _ _⟩

theorem CS.next {s : St} (hs : CS P G N B β0 Φ0 H0 w0 rnd r β Φ s a w) {β' : Bk} {Φ' : Fz} {H' : Heap} {w' : World} (hw : WS P G β' Φ' B H' w') (hx : Ext β Φ s.H w β' Φ' H' w') : CS P G N B β0 Φ0 H0 w0 rnd r β' Φ' ⟨s.env, H', s.dfs⟩ a w' :=
  ⟨hw, hs.er.more hs.eu hx.more, hs.eu.le hx.len, hs.size, hs.dr.more hx.more hs.dlt, fun id hid => Nat.lt_of_lt_of_le (hs.dlt id hid) hx.len, hs.ext.trans hx, hs.rnd.more hx.more hx.len⟩

theorem run_getLoop {l : Nat} {rec : Loop} (h : w.heap[l]? = some (.loop rec)) : (Instr.getLoop l).run P w = .ok rec w := by
  simp [Instr.getLoop, getObj, Sem.run, Sem.run_bind, h, Result.andThen]

theorem run_setLoop {l : Nat} {rec : Loop} (h : w.heap[l]? = some (.loop rec)) (o : Obj) : (setObj l o).run P w = .ok () { w with heap := w.heap.setIfInBounds l o } := by
  simp [setObj, Sem.run, h]

/-- Entering a range over a function. -/
theorem enterLoop_ok {s : St} (hs : CS P G N B β0 Φ0 H0 w0 rnd r β Φ s a w) (hN : N < 65535) {ps : Array Tmp} {asg body : Code} {x y : ACode} (hf : fitsN N ps.toList = true) (hx : CR P N asg x) (hy : CR P N body y) {H1 : Heap} {dfs1 : List Nat} (h : enterLoopA rnd s ps.toList x y = some (H1, dfs1)) (fn : FuncId) :
    ∃ l mark w1 β', (Instr.enterLoop fn a.tmps ps asg body r).run P w = .ok (l, mark) w1 ∧ CS P G N B β0 Φ0 H0 w0 rnd r β' Φ ⟨s.env, H1, dfs1⟩ { a with defers := mark ++ a.defers } w1 ∧ β' (H1.length - 1) 0 = some (l, 0) ∧ 0 < H1.length := by
  cases rnd with
  | none =>
    simp only [enterLoopA, Option.some.injEq, Prod.mk.injEq] at h
    obtain ⟨rfl, rfl⟩ := h
    cases r with
    | some k => exact absurd hs.rnd (by simp [RndR])
    | none =>
      obtain ⟨β1, a1, a2, a3⟩ := newDfr hs.ws
      have hc1 := hs.next a1 a2
      obtain ⟨β2, b1, b2, b3⟩ := newLoop a1 (L := ⟨s.env, ps.toList, x, y, .ready, none, s.H.length⟩) (rec := { state := .ready, pending := none, fn, tmps := a.tmps, params := ps, assign := asg, body, defers := w.heap.size }) hc1.eu (by simp)
        ⟨rfl, rfl, rfl, ⟨N, hN, hs.size, hf, hx, hy⟩, hc1.er, 0, a3⟩
      have hc2 := hc1.next b1 b2
      refine ⟨(w.alloc (.deferred (some []))).heap.size, [{ target := .collected w.heap.size, args := #[] }], (w.alloc (.deferred (some []))).alloc (.loop { state := .ready, pending := none, fn, tmps := a.tmps, params := ps, assign := asg, body, defers := w.heap.size }), β2, ?_, ?_, ?_, by simp⟩
      · rfl
      · refine ⟨hc2.ws, hc2.er, hc2.eu, hc2.size, ?_, fun id hid => ?_, hc2.ext, hc2.rnd⟩
        · exact .inr ⟨s.H.length, s.dfs, w.heap.size, 0, rfl, rfl, b2.more.some _ _ _ (by simp) a3, hc2.dr⟩
        · rcases List.mem_cons.1 hid with rfl | hid
          · simp
          · exact hc2.dlt id hid
      · simpa using b3
  | some l =>
    simp only [enterLoopA] at h
    split at h
    · rename_i L hL
      simp only [Option.some.injEq, Prod.mk.injEq] at h
      obtain ⟨rfl, rfl⟩ := h
      cases r with
      | none => exact absurd hs.rnd (by simp [RndR])
      | some k =>
        obtain ⟨⟨c0, hr1⟩, hr2⟩ := hs.rnd
        obtain ⟨k', c, rec, h1, h2, h3⟩ := hs.ws.wr.ch l _ hL
        rw [hr1] at h1; cases h1
        have hun := hs.ws.wr.unders hL
        obtain ⟨c1, hd⟩ := h3.dfr
        obtain ⟨β2, b1, b2, b3⟩ := newLoop hs.ws (L := ⟨s.env, ps.toList, x, y, .ready, none, L.dfr⟩) (rec := { state := .ready, pending := none, fn, tmps := a.tmps, params := ps, assign := asg, body, defers := rec.defers }) hs.eu hun.2
          ⟨rfl, rfl, rfl, ⟨N, hN, hs.size, hf, hx, hy⟩, hs.er, c1, hd⟩
        have hc2 := hs.next b1 b2
        refine ⟨w.heap.size, [], w.alloc (.loop { state := .ready, pending := none, fn, tmps := a.tmps, params := ps, assign := asg, body, defers := rec.defers }), β2, ?_, ⟨hc2.ws, hc2.er, hc2.eu, hc2.size, hc2.dr, hc2.dlt, hc2.ext, hc2.rnd⟩, by simpa using b3, by simp⟩
        simp [Instr.enterLoop, run_getLoop h2, Sem.run_bind, Result.andThen]
    · cases h

/-! ### A loop, by how many rounds are left -/
theorem wpIn_loopK {F : Fence} {m : Nat} {c : Code} {Q : Exit → Act → World → Prop} (I : Nat → Act → World → Prop) (zero : ∀ a w, ¬ I 0 a w)
    (round : ∀ k a w, I (k + 1) a w → c.wpIn F m P (Exit.then (I k) Q) a w) {k : Nat} {a : Act} {w : World} (h₀ : I k a w) : (Code.loop c).wpIn F m P Q a w := by
  intro b kk cs hro hb hr
  have key : ∀ k a w, I k a w →
      ∃ e a' w', Q e a' w' ∧ ArrivesIn (Machine.fenced P F) P (lone (b.atR a (.code c :: .inLoop c :: kk)) cs w) b kk cs e a' w' := by
    intro k
    induction k with
    | zero => intro a w hI; exact absurd hI (zero a w)
    | succ k ih =>
      intro a w hI
      obtain ⟨e, a₁, w₁, hq, harr⟩ := round k a w hI b (.inLoop c :: kk) cs hro hb hr
      cases e with
      | normal =>
        obtain ⟨e₂, a₂, w₂, hq₂, harr₂⟩ := ih a₁ w₁ hq
        exact ⟨e₂, a₂, w₂, hq₂, .of_steps (StepsIn.trans harr (.one (fenced_calm hb hr rfl) stepR_inLoop)) harr₂⟩
      | exit id => exact ⟨_, a₁, w₁, hq, .pass (x := .inLoop c) rfl (fun _ _ => .inl (by simp)) harr⟩
      | goto l => exact ⟨_, a₁, w₁, hq, .pass (x := .inLoop c) rfl (fun _ _ => .inl (by simp)) harr⟩
      | ret => exact ⟨_, a₁, w₁, hq, .pass (x := .inLoop c) rfl (fun _ _ => .inl (by simp)) harr⟩
      | panic ch => exact ⟨_, a₁, w₁, hq, .pass (x := .inLoop c) rfl (fun _ _ => .inl (by simp)) harr⟩
      | outgrown => exact ⟨_, a₁, w₁, hq, .pass (x := .inLoop c) rfl (fun _ _ => .inl (by simp)) harr⟩
  obtain ⟨e, a', w', hq, harr⟩ := key k a w h₀
  exact ⟨e, a', w', hq, .of_steps (.one (fenced_calm hb hr rfl) stepR_loop) harr⟩

end
end Go.AM
/- A function's code. -/
namespace Go.AM

section
variable {P : Program} {G : Nat → Option (List D)} {β β0 : Bk} {Φ Φ0 : Fz} {b n N : Nat} {B : Nat → Prop} {H H0 : Heap} {w w0 : World} {keep : Option Nat} {env : Env} {a : Act} {rnd r : Option Nat} {call : D → List D → Heap → Option (D × Heap)}

theorem CS.region {s : St} (hs : CS P G N B β0 Φ0 H0 w0 rnd r β Φ s a w) : RS P G N B a.defers β Φ s.H w (fun _ => none) β Φ s.env s.H a w :=
  ⟨hs.ws, hs.er, hs.eu, hs.size, ⟨[], (by simp), rfl⟩, Ext.refl _ _ _ _, fun t s k hk => (by cases hk), fun t t' s s' k hk => (by cases hk)⟩

theorem CS.after {s : St} (hs : CS P G N B β0 Φ0 H0 w0 rnd r β Φ s a w) {κ : Nat → Option (Nat × Nat)} {β' : Bk} {Φ' : Fz} {env' : Env} {H' : Heap} {a' : Act} {w' : World} (h : RS P G N B a.defers β Φ s.H w κ β' Φ' env' H' a' w') : CS P G N B β0 Φ0 H0 w0 rnd r β' Φ' ⟨env', H', s.dfs⟩ a' w' :=
  ⟨h.ws, h.er, h.eu, h.size, (by obtain ⟨hs', q1, q2⟩ := h.dfr; rw [q2]; exact (hs.dr.more h.ext.more hs.dlt).harmless q1), fun id hid => Nat.lt_of_lt_of_le (hs.dlt id hid) h.ext.len, hs.ext.trans h.ext, hs.rnd.more h.ext.more h.ext.len⟩

theorem jump_wp {j : Option AJump} {Q : Exit → Act → World → Prop} {m : Nat} (h : Q (exC (jumpEx j)) a w) : match jumpC j with | none => Q .normal a w | some c => c.wpIn (fen r) m P Q a w := by
  cases j with
  | none => exact h
  | some j =>
    cases j with
    | ret => exact wpIn_ret h
    | exit id => exact wpIn_exit h

theorem busy_conc {s : LState} (h : s ≠ .busy) : (s.conc == LoopState.busy) = false := by
  cases s <;> first | rfl | exact absurd rfl h

/-- The end of a range over a function. -/
theorem endLoop_ok {id l : Nat} {L : ALoop} (hw : WS P G β Φ B H w) (hc : H[id]? = some (.loop L)) (hl : ∃ c, β id 0 = some (l, c)) (hb : L.st ≠ .busy) :
    ∃ w', (Instr.endLoop l).run P w = .ok (jumpC L.pend) w' ∧ WS P G β Φ B (H.set id (.loop { L with st := .exhausted })) w' ∧ Ext β Φ H w β Φ (H.set id (.loop { L with st := .exhausted })) w' := by
  obtain ⟨k, c, rec, h1, h2, h3⟩ := hw.wr.ch id _ hc
  obtain ⟨c', hl⟩ := hl
  rw [h1] at hl; cases hl
  have hlt : l < w.heap.size := (Array.getElem?_eq_some_iff.1 h2).1
  have hturn := set_turn (w := w) (.loop { rec with state := .exhausted }) hlt
  have hun := hw.wr.ids id _ hc
  have hbk : (Chunk.loop L).blk β id = some l := by simp [Chunk.blk, h1]
  obtain ⟨g1, g2⟩ := hw.wr.turn (c' := .loop { L with st := .exhausted }) hc hbk hturn (fun _ _ _ => rfl) (fun _ _ h => h) (fun h => h)
    ⟨l, _, _, h1, hturn.here, ⟨rfl, h3.pend, h3.params, h3.code, h3.env, h3.dfr⟩⟩ (by simp [Chunk.blk, h1]) hun
  refine ⟨_, ?_, ⟨g1, fun b hb => (hw.ids b hb).set hc (fun n h => h)⟩, g2⟩
  simp only [Instr.endLoop, Sem.run_bind, run_getLoop h2, Result.andThen_ok]
  rw [if_neg (by rw [h3.state, busy_conc hb]; simp)]
  simp [run_setLoop h2, h3.pend]

theorem noQuiet_no (pol : Nat → Nat → Option Pol) (i j f : Nat) : noQuiet pol i j ≠ some (.quiet f) := by
  unfold noQuiet
  split
  · simp
  · rename_i h; exact h f

theorem code_ok (hsim : Sim P G call) (hen : Enters P call) (hN : N < 65535) (hb : B b) (hB : ∀ b', B b' → b' ≤ b) {m lf : Nat} :
    ∀ (c : Code) {pol : Nat → Nat → Option Pol} (hq : ∀ i j f, pol i j = some (.quiet f) → r = none ∧ Quiet P f) {ac : ACode}, compC P pol c = some ac → ac.fits N = true → ∀ {Q : Exit → Act → World → Prop} {s s' : St} {ex : Ex} {β : Bk} {Φ : Fz} {a : Act} {w : World}, exec G b call lf rnd ac s = some (ex, s') → CS P G N B β0 Φ0 H0 w0 rnd r β Φ s a w →
      (∀ β' Φ' a' w', CS P G N B β0 Φ0 H0 w0 rnd r β' Φ' s' a' w' → Q (exC ex) a' w') → c.wpIn (fen r) m P Q a w := by
  intro c
  induction c with
  | skip =>
    intro pol hq ac hc hf Q s s' ex β Φ a w he hs hQ
    simp [compC] at hc; subst hc
    simp [exec] at he
    obtain ⟨rfl, rfl⟩ := he
    exact wpIn_skip (hQ _ _ _ _ hs)
  | region id ops draw =>
    intro pol hq ac hc hf Q s s' ex β Φ a w he hs hQ
    cases draw with
    | false =>
      simp only [compC] at hc
      split at hc
      · rename_i l hl
        split at hc
        · rename_i hp
          cases hc
          simp only [exec] at he
          split at he
          · rename_i e h hr
            cases he
            exact region_ok (by omega) hsim hb hB (hq id) hl hp hf hs.region hr fun β' Φ' κ' a' w' hr' => hQ _ _ _ _ (hs.after hr')
          · cases he
        · cases hc
      · cases hc
    | true =>
      simp only [compC] at hc
      split at hc
      · rename_i as has
        split at hc
        · rename_i l hp
          cases hc
          simp only [exec] at he
          split at he
          · rename_i e h fut hr
            cases he
            exact region_draw_ok (by omega) hsim hb hB (hq id) has hp hf hs.region hr fun β' Φ' κ' a' w' hr' => hQ _ _ _ _ (hs.after hr')
          · cases he
        · cases hc
      · cases hc
  | seq x y ihx ihy =>
    intro pol hq ac hc hf Q s s' ex β Φ a w he hs hQ
    simp only [compC] at hc
    split at hc
    · rename_i ax ay hx hy
      cases hc
      simp only [ACode.fits, Bool.and_eq_true] at hf
      simp only [exec] at he
      split at he
      · rename_i s1 h1
        exact wpIn_seq (ihx hq hx hf.1 h1 hs fun β' Φ' a' w' hs' => ihy hq hy hf.2 he hs' hQ)
      · rename_i hne
        refine wpIn_seq (ihx hq hx hf.1 he hs fun β' Φ' a' w' hs' => ?_)
        have := hQ _ _ _ _ hs'
        cases ex with
        | normal => exact absurd he (hne _)
        | exit id => exact this
        | ret => exact this
    · cases hc
  | cond c x y ihx ihy =>
    intro pol hq ac hc hf Q s s' ex β Φ a w he hs hQ
    simp only [compC] at hc
    split at hc
    · rename_i ca ax ay hca hx hy
      cases hc
      simp only [ACode.fits, Bool.and_eq_true] at hf
      simp only [exec] at he
      split at he
      · rename_i t ht
        have hv : a.eval c = .bool t := (ht ▸ evalA_ok hs.ws.wr hs.er hca : VR (.bool t) β Φ (a.eval c)).bool_inv
        refine wpIn_cond hv ?_
        cases t with
        | true => simp only [if_true] at he ⊢; exact ihx hq hx hf.1 he hs hQ
        | false => simp only [Bool.false_eq_true, if_false] at he ⊢; exact ihy hq hy hf.2 he hs hQ
      · cases he
    · cases hc
  | block id x ih =>
    intro pol hq ac hc hf Q s s' ex β Φ a w he hs hQ
    simp only [compC] at hc
    split at hc
    · rename_i ax hx
      cases hc
      simp only [exec] at he
      split at he
      · rename_i id' s1 h1
        refine wpIn_block (ih hq hx hf h1 hs fun β' Φ' a' w' hs' => ?_)
        simp only [exC, Exit.inBlock]
        split at he
        · rename_i hid
          cases he
          rw [if_pos hid]; exact hQ _ _ _ _ hs'
        · rename_i hid
          cases he
          rw [if_neg hid]; exact hQ _ _ _ _ hs'
      · rename_i hne
        refine wpIn_block (ih hq hx hf he hs fun β' Φ' a' w' hs' => ?_)
        have := hQ _ _ _ _ hs'
        cases ex with
        | normal => exact this
        | exit id => exact absurd he (hne _ _)
        | ret => exact this
    · cases hc
  | loop x ih =>
    intro pol hq ac hc hf Q s s' ex β Φ a w he hs hQ
    simp only [compC] at hc
    split at hc
    · rename_i ax hx
      cases hc
      simp only [exec] at he
      refine wpIn_loopK (fun k a w => ∃ s β Φ, CS P G N B β0 Φ0 H0 w0 rnd r β Φ s a w ∧ loopN (exec G b call lf rnd ax) k s = some (ex, s')) ?_ ?_ (k := lf) ⟨s, β, Φ, hs, he⟩
      · rintro a w ⟨s, β, Φ, _, h⟩
        simp [loopN] at h
      · rintro k a w ⟨s, β, Φ, hs, h⟩
        simp only [loopN] at h
        split at h
        · rename_i s1 h1
          exact ih hq hx hf h1 hs fun β' Φ' a' w' hs' => ⟨s1, β', Φ', hs', h⟩
        · rename_i hne
          refine ih hq hx hf h hs fun β' Φ' a' w' hs' => ?_
          have := hQ _ _ _ _ hs'
          cases ex with
          | normal => exact absurd h (hne _)
          | exit id => exact this
          | ret => exact this
    · cases hc
  | rangeFunc g ps asg body iha ihb =>
    intro pol hq ac hc hf Q s s' ex β Φ a w he hs hQ
    simp only [compC] at hc
    split at hc
    · rename_i ga x y hg hx hy
      cases hc
      simp only [ACode.fits, Bool.and_eq_true] at hf
      simp only [exec] at he
      split at he
      · rename_i H1 dfs1 hel
        split at he
        · rename_i f pre caps hga
          split at he
          · rename_i d2 H2 hcall
            split at he
            · rename_i L hL
              split at he
              · cases he
              · rename_i hnb
                simp only [Option.some.injEq, Prod.mk.injEq] at he
                obtain ⟨rfl, rfl⟩ := he
                refine wpIn_rangeFunc fun fn _ => ?_
                obtain ⟨l, mark, w1, β1, h1, h2, h3, h4⟩ := enterLoop_ok hs hN hf.1.1 ⟨hf.1.2, noQuiet pol, noQuiet_no pol, hx⟩ ⟨hf.2, noQuiet pol, noQuiet_no pol, hy⟩ hel fn
                have hv : VR (.func f pre caps) β1 Φ (a.eval g) := by rw [← hga]; exact evalA_ok (a := { a with defers := mark ++ a.defers }) h2.ws.wr h2.er hg
                have hvu : UN H1.length (.func f pre caps) := by rw [← hga]; exact evalA_un (G := G) h2.eu hg
                have hv' := hv
                simp only [VR] at hv'
                obtain ⟨us, vs, hve, hus, hvs⟩ := hv'
                have hy1 : VR (.yield (H1.length - 1)) β1 Φ (.func (.yield l) #[] #[]) := by simp only [VR]; exact ⟨l, 0, h3, rfl⟩
                have hinv := hsim hcall h2.ws hv (vargs := [.func (.yield l) #[] #[]]) ⟨_, _, rfl, hy1, rfl⟩ hvu (fun x hx => by
                  simp only [List.mem_singleton] at hx; subst hx
                  right; simp [D.under, Nat.blt_eq]; omega)
                have hent := hen hcall
                refine ⟨l, mark, w1, { target := .fn (.func f) vs.toArray, args := us.toArray ++ #[.func (.yield l) #[] #[]] }, w1, f, (us.toArray ++ #[.func (.yield l) #[] #[]]) ++ vs.toArray, w1, h1, ?_, fun _ _ => trivial, ?_, fun h => by simp [fen, Fence.wide] at h, ?_⟩
                · have hae : (#[Operand.const (.func (.yield l) #[] #[])] : Array Operand).map a.eval = #[.func (.yield l) #[] #[]] := by
                    simp [Act.eval]
                  simp only [resolve, rangeCall, hve, hae]
                  rfl
                · exact enter_run hent _ _
                · unfold Inv at hinv
                  rw [hve] at hinv
                  have hrun : (do let d ← Deferred.ofValue (.func (.func f) us.toArray vs.toArray) ([Value.func (.yield l) #[] #[]].toArray); invoke d.target d.args : Sem Next).run P w1 = .ok (.enter f ((us.toArray ++ #[.func (.yield l) #[] #[]]) ++ vs.toArray)) w1 := enter_run hent _ _
                  rw [hrun] at hinv
                  refine callsIn_fen hinv fun e w3 hR => ?_
                  cases e with
                  | panicked c => exact hR.elim
                  | outgrown => exact hR.elim
                  | returned v =>
                    obtain ⟨β3, Φ3, r1, r2, r3, _⟩ := hR
                    have hid : H1.length - 1 < H1.length := by omega
                    obtain ⟨w4, e1, e2, e3⟩ := endLoop_ok r2 hL ⟨0, r3.more.some _ _ _ hid h3⟩ hnb
                    refine ⟨_, w4, e1, jump_wp ?_⟩
                    have c3 := (h2.next r2 r3).next e2 e3
                    exact hQ _ _ _ _ c3
            · cases he
          · cases he
        · cases he
      · cases he
    · cases hc
  | exit id =>
    intro pol hq ac hc hf Q s s' ex β Φ a w he hs hQ
    simp [compC] at hc; subst hc
    simp [exec] at he
    obtain ⟨rfl, rfl⟩ := he
    exact wpIn_exit (hQ _ _ _ _ hs)
  | ret =>
    intro pol hq ac hc hf Q s s' ex β Φ a w he hs hQ
    simp [compC] at hc; subst hc
    simp [exec] at he
    obtain ⟨rfl, rfl⟩ := he
    exact wpIn_ret (hQ _ _ _ _ hs)
  | scope x ih => intro pol hq ac hc; simp [compC] at hc
  | label l => intro pol hq ac hc; simp [compC] at hc
  | goto l => intro pol hq ac hc; simp [compC] at hc
  | refuse why => intro pol hq ac hc; simp [compC] at hc

end
end Go.AM
