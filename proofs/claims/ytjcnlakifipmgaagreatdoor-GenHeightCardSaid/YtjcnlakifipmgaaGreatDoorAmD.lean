/- The abstract machine: regions. -/
import Derived.Test.YtjcnlakifipmgaaGreatDoorAmC
import Derived.OrdersIn
import Derived.RangeFuncLeaves
set_option linter.unusedVariables false
set_option linter.unusedSimpArgs false
set_option linter.unnecessarySimpa false
set_option maxRecDepth 100000
/- What a region keeps: bases, temporaries, holes; what a call is asked. -/
namespace Go.AM

/-! ### Temporaries -/
theorem Env.get_node_zero (l : Env) (v : D) (r : Env) : (Env.node l v r).get 0 = v := rfl

theorem beq_even (m : Nat) : Nat.beq (m % 2) 0 = decide (m % 2 = 0) := by
  rcases Nat.mod_two_eq_zero_or_one m with h | h <;> rw [h] <;> rfl

theorem Env.nil_get (m : Nat) : Env.nil.get m = .undef := by cases m <;> rfl

theorem Env.get_succ (l : Env) (v : D) (r : Env) (m : Nat) : (Env.node l v r).get (m + 1) = if m % 2 = 0 then l.get (m / 2) else r.get (m / 2) := by
  simp only [Env.get, beq_even, decide_eq_true_eq]

theorem Env.set_succ (f : Nat) (l : Env) (x : D) (r : Env) (n : Nat) (v : D) : Env.set (f + 1) (.node l x r) (n + 1) v = if n % 2 = 0 then .node (Env.set f l (n / 2) v) x r else .node l x (Env.set f r (n / 2) v) := by
  simp only [Env.set, beq_even, decide_eq_true_eq]

theorem Env.set_succ_nil (f : Nat) (n : Nat) (v : D) : Env.set (f + 1) .nil (n + 1) v = if n % 2 = 0 then .node (Env.set f .nil (n / 2) v) .undef .nil else .node .nil .undef (Env.set f .nil (n / 2) v) := by
  simp only [Env.set, beq_even, decide_eq_true_eq]

theorem Env.set_get : ∀ (f : Nat) (e : Env) (t u : Nat) (v : D), t + 1 < 2 ^ f → (Env.set f e t v).get u = if u = t then v else e.get u
  | 0, e, t, u, v, h => by simp at h
  | f + 1, e, 0, u, v, h => by
    cases e with
    | nil => cases u with
      | zero => simp [Env.set, Env.get]
      | succ m => simp [Env.set, Env.get, Env.nil_get]
    | node l x r => cases u with
      | zero => simp [Env.set, Env.get]
      | succ m => simp [Env.set, Env.get]
  | f + 1, e, n + 1, u, v, h => by
    have hn : n / 2 + 1 < 2 ^ f := by rw [Nat.pow_succ] at h; omega
    have key : ∀ (e : Env) (m : Nat), (Env.set f e (n / 2) v).get m = if m = n / 2 then v else e.get m := fun e m => Env.set_get f e (n / 2) m v hn
    have node : ∀ (l : Env) (x : D) (r : Env), (if n % 2 = 0 then Env.node (Env.set f l (n / 2) v) x r else .node l x (Env.set f r (n / 2) v)).get u = if u = n + 1 then v else (Env.node l x r).get u := by
      intro l x r
      by_cases hp : n % 2 = 0
      · rw [if_pos hp]
        cases u with
        | zero => rw [if_neg (by omega)]; rfl
        | succ m =>
          rw [Env.get_succ, Env.get_succ, key]
          by_cases hm : m % 2 = 0
          · rw [if_pos hm, if_pos hm]
            by_cases he : m = n
            · subst he; simp
            · rw [if_neg (by omega), if_neg (by omega)]
          · rw [if_neg hm, if_neg hm, if_neg (by omega)]
      · rw [if_neg hp]
        cases u with
        | zero => rw [if_neg (by omega)]; rfl
        | succ m =>
          rw [Env.get_succ, Env.get_succ, key]
          by_cases hm : m % 2 = 0
          · rw [if_pos hm, if_pos hm, if_neg (by omega)]
          · rw [if_neg hm, if_neg hm]
            by_cases he : m = n
            · subst he; simp
            · rw [if_neg (by omega), if_neg (by omega)]
    cases e with
    | nil =>
      rw [Env.set_succ_nil, node]
      congr 1
      cases u with
      | zero => rfl
      | succ m => rw [Env.get_succ, Env.nil_get, Env.nil_get]; simp
    | node l x r => rw [Env.set_succ, node]

theorem Env.put_get {e : Env} {t : Nat} (u : Nat) (v : D) (h : t < 65535) : (e.put t v).get u = if u = t then v else e.get u :=
  Env.set_get 16 e t u v (by omega)

theorem ER.put {β : Bk} {Φ : Fz} {env : Env} {a : Act} {t : Nat} {d : D} {v : Value} (h : ER β Φ env a.tmps) (ht : t < 65535) (hb : t < a.tmps.size) (hv : VR d β Φ v) : ER β Φ (env.put t d) (a.put (some t) v).tmps := by
  intro u
  rw [Env.put_get u d ht]
  simp only [Act.put]
  split
  · rename_i e; subst e; simp [Array.getD, hb, hv]
  · rename_i e
    have : (a.tmps.setIfInBounds t v).getD u undef = a.tmps.getD u undef := by
      simp only [Array.getD_eq_getD_getElem?, Array.getElem?_setIfInBounds]
      rw [if_neg (fun e' => e e'.symm)]
    rw [this]; exact h u

theorem EU.put {n : Nat} {env : Env} {t : Nat} {d : D} (h : EU n env) (ht : t < 65535) (hd : UN n d) : EU n (env.put t d) := by
  intro u
  rw [Env.put_get u d ht]
  split
  · exact hd
  · exact h u

/-! ### Bases -/
def Ids (b : Nat) (H : Heap) : Prop := b ≤ H.length ∧ ∀ id (c : Chunk), H[id]? = some c → c.unders (if id < b then b else H.length)

section
variable {P : Program} {G : Nat → Option (List D)} {β : Bk} {Φ : Fz} {b : Nat} {H : Heap} {w : World} {env : Env} {a : Act} {call : D → List D → Heap → Option (D × Heap)}

theorem WR.rebase {b' : Nat} (h : WR P G β Φ b H w) (hi : Ids b' H) : WR P G β Φ b' H w :=
  ⟨h.ch, h.fz, h.apart, h.inj, h.dom, hi.1, hi.2, h.glob⟩

theorem WR.idsOf (h : WR P G β Φ b H w) : Ids b H := ⟨h.base, h.ids⟩

theorem WR.idsZero (h : WR P G β Φ b H w) : Ids 0 H := ⟨Nat.zero_le _, fun id c hc => by simpa using h.unders hc⟩

theorem WR.idsAll (h : WR P G β Φ b H w) : Ids H.length H := ⟨Nat.le_refl _, fun id c hc => by simpa using h.unders hc⟩

theorem storable_base {b' id : Nat} {vs : List D} (h1 : b' ≤ b) (h2 : b ≤ H.length) (h : storable b H id vs = true) : storable b' H id vs = true := by
  simp only [storable, Bool.and_eq_true] at h ⊢
  refine ⟨?_, h.2⟩
  have h := h.1
  by_cases hb : id < b
  · rw [if_pos hb] at h
    by_cases hb' : id < b'
    · rw [if_pos hb']; exact h
    · rw [if_neg hb']; exact D.unders_le _ (by omega) h
  · rw [if_neg hb] at h
    rw [if_neg (by omega)]; exact h

theorem reserve_len : ∀ {res : List (Nat × Nat)} {H H' : Heap} {cs cs' : List D}, reserve H cs res = some (H', cs') → H.length ≤ H'.length
  | [], _, _, _, _, h => by simp [reserve] at h; rw [h.1]; exact Nat.le_refl _
  | (off, es) :: r, H, H', cs, cs', h => by
    simp only [reserve] at h
    split at h
    · split at h
      · have := reserve_len h; simp at this; omega
      · cases h
    · exact reserve_len h

theorem storeD_base {b' n : Nat} {p v : D} {H' : Heap} (h1 : b' ≤ b) (h2 : b ≤ H.length) (h : storeD b H n p v = some H') : storeD b' H n p v = some H' := by
  unfold storeD at h ⊢
  split at h
  · rename_i hn
    rw [if_pos hn]
    split at h
    · split at h
      · rename_i hc
        split at h
        · rename_i hl
          split at h
          · rename_i hst
            simp only [hc, if_pos hl, if_pos (storable_base h1 h2 hst)]
            exact h
          · cases h
        · cases h
      · cases h
    · split at h
      · rename_i hc
        split at h
        · rename_i hw
          split at h
          · rename_i hl
            split at h
            · rename_i hst
              simp only [hc, if_pos hw, if_pos hl, if_pos (storable_base h1 h2 hst)]
              exact h
            · cases h
          · cases h
        · cases h
      · cases h
    · cases h
  · cases h

theorem appendD_base {b' es bytes m : Nat} {x : D} {ys : List D} {r : D × Heap} (h1 : b' ≤ b) (h2 : b ≤ H.length) (h : appendD b H es bytes x ys m = some r) : appendD b' H es bytes x ys m = some r := by
  unfold appendD at h ⊢
  split at h
  · split at h
    · rename_i hm; simp only [if_pos hm]; exact h
    · rename_i hm
      split at h
      · rename_i hh; simp only [if_neg hm, if_pos (⟨hh.1, storable_base h1 h2 hh.2.1, hh.2.2⟩ : m * bytes ≤ maxBytes ∧ storable b' H H.length ys = true ∧ m ≤ maxBytes)]; exact h
      · cases h
  · split at h
    · rename_i hm; simp only [if_pos hm]; exact h
    · rename_i hm
      split at h
      · rename_i hh; simp only [if_neg hm, if_pos (⟨hh.1, storable_base h1 h2 hh.2.1, hh.2.2⟩ : m * bytes ≤ maxBytes ∧ storable b' H H.length ys = true ∧ m ≤ maxBytes)]; exact h
      · cases h
  · rename_i id hw n
    split at h
    · rename_i es' cs nil hc
      split at h
      · rename_i hh
        rw [if_pos ⟨hh.1, hh.2.1, hh.2.2.1, hh.2.2.2.1, hh.2.2.2.2.1, hh.2.2.2.2.2.1, storable_base h1 h2 hh.2.2.2.2.2.2⟩]
        exact h
      · cases h
    · cases h
  · cases h

theorem step_base {b' : Nat} {ao : AOp} {r : D × Heap} (h1 : b' ≤ b) (h2 : b ≤ H.length) (h : step G b call env H ao = some r) : step G b' call env H ao = some r := by
  cases ao
  case boxB n x res =>
    simp only [step] at h ⊢
    split at h
    · rename_i hl
      rw [if_pos hl]
      split at h
      · rename_i H1 cs hr
        split at h
        · rename_i hst
          rw [if_pos (storable_base h1 (Nat.le_trans h2 (reserve_len hr)) hst)]
          exact h
        · cases h
      · cases h
    · cases h
  case bslR es zs n ps =>
    simp only [step] at h ⊢
    split at h
    · split at h
      · rename_i hst; rw [if_pos (storable_base h1 h2 hst)]; exact h
      · cases h
    · cases h
  case store n p v =>
    simp only [step] at h ⊢
    split at h
    · rename_i hst; rw [storeD_base h1 h2 hst]; exact h
    · cases h
  case fill n v =>
    simp only [step] at h ⊢
    split at h
    · exact h
    · split at h
      · rename_i hl
        rw [if_pos hl]
        split at h
        · rename_i H1 cs hr
          split at h
          · rename_i hst
            rw [if_pos (storable_base h1 (Nat.le_trans h2 (reserve_len hr)) hst)]
            exact h
          · cases h
        · cases h
      · cases h
  case append es bytes x y =>
    simp only [step] at h ⊢
    split at h
    · exact appendD_base h1 h2 h
    · cases h
  case appendS bytes x y =>
    simp only [step] at h ⊢
    split at h
    · exact appendD_base h1 h2 h
    · cases h
  case copy es x y =>
    simp only [step, copyD] at h ⊢
    split at h
    · split at h
      · split at h
        · rename_i q; rw [if_pos q]; exact h
        · rename_i q
          rw [if_neg q]
          split at h
          · split at h
            · rename_i hst; simp only [storeD_base h1 h2 hst]; exact h
            · cases h
          · cases h
      · cases h
    · cases h
  all_goals exact h

theorem Ext.ofDrawn (β : Bk) (Φ : Fz) (H : Heap) (w : World) (n : Nat) : Ext β Φ H w β Φ H { w with drawn := n } :=
  ⟨More.refl _ _ _, Nat.le_refl _, rfl, rfl, rfl, Nat.le_refl _, fun _ _ _ => rfl, fun _ h => .inl h, fun _ _ h => .inl h⟩

end

/-! ### What a call is asked -/
def fen (r : Option Nat) : Fence := { Fence.wide with round := r }

/-- An ending by a value. -/
def ret (R : Value → World → Prop) : Ending → World → Prop
  | .returned v, w => R v w
  | _, _ => False

def InvR (P : Program) (R : Value → World → Prop) : Result Next → Prop
  | .ok (.value v) w' => R v w'
  | .ok (.enter f args) w' => CallsIn Fence.wide 0 P f args w' (ret R)
  | .ok (.round l f tmps assign body) w' => RoundIn Fence.wide 0 P l f tmps assign body w' (ret R)
  | _ => False

def Inv (P : Program) (vf : Value) (vargs : Array Value) (w : World) (R : Value → World → Prop) : Prop :=
  InvR P R ((do let d ← Deferred.ofValue vf vargs; invoke d.target d.args : Sem Next).run P w)

theorem callsIn_fen {r : Option Nat} {n : Nat} {P : Program} {f : FuncId} {args : Array Value} {w : World} {R R' : Ending → World → Prop} (h : CallsIn Fence.wide 0 P f args w R) (hr : ∀ e w', R e w' → R' e w') : CallsIn (fen r) n P f args w R' :=
  ⟨trivial, fun cs _ => let ⟨e, w', fr, q, s, x⟩ := h.2 cs (room_wide _); ⟨e, w', fr, hr _ _ q, s, x⟩⟩

theorem roundIn_fen {r : Option Nat} {n : Nat} {P : Program} {l : Nat} {f : FuncId} {tmps : Array Value} {assign body : Code} {w : World} {R R' : Ending → World → Prop} (h : RoundIn Fence.wide 0 P l f tmps assign body w R) (hr : ∀ e w', R e w' → R' e w') :
    RoundIn (fen r) n P l f tmps assign body w R' :=
  ⟨trivial, fun c cs _ => let ⟨e, w', q, s⟩ := h.2 c cs (room_wide _); ⟨e, w', hr _ _ q, s⟩⟩

/-- A function that is entered when it is called. -/
def EntersAt (P : Program) (f : Nat) : Prop := ∃ fn, P.funcs[f]? = some fn ∧ (fn.name == "runtime.NumGoroutine") = false ∧ fn.body.isNone = false

/-- A function that, deferred, does nothing where nothing has panicked. -/
def Quiet (P : Program) (g : Nat) : Prop :=
  EntersAt P g ∧ ∀ (args : Array Value) (w : World), CallsDIn Fence.wide 0 P g args .returning w (fun e u' w' => (∃ v, e = .returned v) ∧ settle u' = .returning ∧ (w.heap.size ≤ w'.heap.size ∧ ∀ k, k < w.heap.size → w'.heap[k]? = w.heap[k]?) ∧ w'.os = w.os ∧ w'.tape = w.tape ∧ w'.output = w.output)

def Harmless (P : Program) (d : Deferred) : Prop := ∃ f vs us, d = { target := .fn (.func f) vs, args := us } ∧ Quiet P f

/-- Below: bases that a call or an operation keeps. -/
structure WS (P : Program) (G : Nat → Option (List D)) (β : Bk) (Φ : Fz) (B : Nat → Prop) (H : Heap) (w : World) : Prop where
  wr : WR P G β Φ 0 H w
  ids : ∀ b, B b → Ids b H

/-- The abstract call is the machine's. -/
def Sim (P : Program) (G : Nat → Option (List D)) (call : D → List D → Heap → Option (D × Heap)) : Prop :=
  ∀ {d : D} {args : List D} {H : Heap} {d' : D} {H' : Heap}, call d args H = some (d', H') →
    ∀ {β : Bk} {Φ : Fz} {w : World} {vf : Value} {vargs : List Value} {B : Nat → Prop}, WS P G β Φ B H w → VR d β Φ vf → VRs args β Φ vargs → UN H.length d → (∀ x ∈ args, UN H.length x) →
      Inv P vf vargs.toArray w fun v w' => ∃ β' Φ', VR d' β' Φ' v ∧ WS P G β' Φ' B H' w' ∧ Ext β Φ H w β' Φ' H' w' ∧ UN H'.length d'

end Go.AM
/- One operation of a region. -/
namespace Go.AM

structure HoleAt (β : Bk) (Φ : Fz) (H : Heap) (z : Nat) (tmps : Array Value) (w : World) (t s k : Nat) : Prop where
  tmp : tmps.getD t undef = .pointer (some ⟨k, 0, none⟩)
  cells : ∃ cur e, w.heap[k]? = some (.cells cur e (0, 0)) ∧ cur.size = s
  dead : ¬ live β H k
  loose : Φ k = none
  new : z ≤ k

structure RS (P : Program) (G : Nat → Option (List D)) (N : Nat) (B : Nat → Prop) (ds : List Deferred) (β0 : Bk) (Φ0 : Fz) (H0 : Heap) (w0 : World) (κ : Nat → Option (Nat × Nat)) (β : Bk) (Φ : Fz) (env : Env) (H : Heap) (a : Act) (w : World) : Prop where
  ws : WS P G β Φ B H w
  er : ER β Φ env a.tmps
  eu : EU H.length env
  size : N ≤ a.tmps.size
  dfr : ∃ hs, (∀ d ∈ hs, Harmless P d) ∧ a.defers = hs ++ ds
  ext : Ext β0 Φ0 H0 w0 β Φ H w
  hole : ∀ t s k, κ t = some (s, k) → HoleAt β Φ H w0.heap.size a.tmps w t s k
  inj : ∀ t t' s s' k, κ t = some (s, k) → κ t' = some (s', k) → t = t'

def Holes.set (κ : Nat → Option (Nat × Nat)) (t : Nat) (x : Option (Nat × Nat)) : Nat → Option (Nat × Nat) := fun u => if u = t then x else κ u

section
variable {P : Program} {G : Nat → Option (List D)} {β : Bk} {Φ : Fz} {b N : Nat} {B : Nat → Prop} {ds : List Deferred} {β0 : Bk} {Φ0 : Fz} {H0 H : Heap} {w0 w : World} {κ : Nat → Option (Nat × Nat)} {env : Env} {a : Act} {call : D → List D → Heap → Option (D × Heap)}

theorem put_getD {a : Act} {t u : Nat} {v : Value} (h : u ≠ t) : (a.put (some t) v).tmps.getD u undef = a.tmps.getD u undef := by
  simp only [Act.put, Array.getD_eq_getD_getElem?, Array.getElem?_setIfInBounds]
  rw [if_neg (fun e' => h e'.symm)]

theorem put_getD_same {a : Act} {t : Nat} {v : Value} (h : t < a.tmps.size) : (a.put (some t) v).tmps.getD t undef = v := by
  simp [Act.put, Array.getD, h]

theorem put_size {a : Act} {dst : Option Nat} {v : Value} : (a.put dst v).tmps.size = a.tmps.size := by
  cases dst <;> simp [Act.put]

theorem put_dfr {a : Act} {dst : Option Nat} {v : Value} : (a.put dst v).defers = a.defers := by
  cases dst <;> rfl

theorem HoleAt.keep {z : Nat} {tmps tmps' : Array Value} {t s k : Nat} {β' : Bk} {Φ' : Fz} {H' : Heap} {w' : World} (h : HoleAt β Φ H z tmps w t s k) (hx : Ext β Φ H w β' Φ' H' w') (ht : tmps'.getD t undef = tmps.getD t undef) : HoleAt β' Φ' H' z tmps' w' t s k := by
  obtain ⟨cur, e, hc, hs⟩ := h.cells
  have hk : k < w.heap.size := (Array.getElem?_eq_some_iff.1 hc).1
  refine ⟨by rw [ht]; exact h.tmp, ⟨cur, e, by rw [hx.same k hk h.dead]; exact hc, hs⟩, fun hl => ?_, ?_, h.new⟩
  · rcases hx.fresh k hl with h' | h'
    · exact h.dead h'
    · omega
  · cases hf : Φ' k with
    | none => rfl
    | some o =>
      rcases hx.fzn k o hf with h' | h' | h'
      · rw [h.loose] at h'; cases h'
      · exact absurd h' h.dead
      · omega

theorem RS.next (hN : N ≤ 65535) (hs : RS P G N B ds β0 Φ0 H0 w0 κ β Φ env H a w) {d : D} {v : Value} {w' : World} {β' : Bk} {Φ' : Fz} {H' : Heap} (hv : VR d β' Φ' v) (hw : WS P G β' Φ' B H' w') (hx : Ext β Φ H w β' Φ' H' w') (hu : UN H'.length d)
    {dst : Option Nat} (hd : ∀ t, dst = some t → t < N ∧ κ t = none) : RS P G N B ds β0 Φ0 H0 w0 κ β' Φ' (putO env dst d) H' (a.put dst v) w' := by
  have he : ER β' Φ' env a.tmps := hs.er.more hs.eu hx.more
  have hu' : EU H'.length env := hs.eu.le hx.len
  cases dst with
  | none => exact ⟨hw, he, hu', hs.size, hs.dfr, hs.ext.trans hx, fun t s k hk => (hs.hole t s k hk).keep hx rfl, hs.inj⟩
  | some t =>
    obtain ⟨h1, h2⟩ := hd t rfl
    have hlt : t < 65535 := by omega
    have hsz := hs.size
    refine ⟨hw, he.put hlt (by omega) hv, hu'.put hlt hu, by rw [put_size]; exact hsz, hs.dfr, hs.ext.trans hx, fun u s k hk => (hs.hole u s k hk).keep hx (put_getD ?_), hs.inj⟩
    rintro rfl; rw [h2] at hk; cases hk

/-- A plain step, bases and all. -/
theorem step_ws (hw : WS P G β Φ B H w) (hb : B b) (hB : ∀ b', B b' → b' ≤ b) (he : ER β Φ env a.tmps) (hu : EU H.length env) {o : Oper} {pol : Option Pol} {ao : AOp} (hc : compOp P pol o.op = some ao) (hp : ao.plain = true)
    {d : D} {H' : Heap} (hs : step G b call env H ao = some (d, H')) :
    ∃ r v w' β' Φ', (execOp a.eval o).run P w = .ok r w' ∧ (r = .value v ∨ r = .skip ∧ v = undef) ∧ VR d β' Φ' v ∧ WS P G β' Φ' B H' w' ∧ Ext β Φ H w β' Φ' H' w' ∧ UN H'.length d := by
  obtain ⟨⟨r, v, w', β', Φ', h1, h2, h3, h4, h5⟩, h6⟩ := step_ok (hw.wr.rebase (hw.ids b hb)) he hu hc hp hs
  refine ⟨r, v, w', β', Φ', h1, h2, h3, ⟨h4.rebase h4.idsZero, fun b' hb' => ?_⟩, h5, h6⟩
  obtain ⟨⟨_, _, _, _, _, _, _, _, g4, _⟩, _⟩ := step_ok (hw.wr.rebase (hw.ids b' hb')) he hu hc hp (step_base (hB b' hb') (hw.ids b hb).1 hs)
  exact g4.idsOf

/-! ### Guards -/
theorem guard_ok {ops : Array Oper} {g : Option (Nat × Bool)} {o : Oper} {x : Bool} (hg : guardT ops o.guard = some g) (hx : wantedA env g = some x) (he : ER β Φ env a.tmps) : Region.wanted o (yielded ops a.tmps) = x := by
  unfold guardT at hg
  unfold Region.wanted
  split at hg
  · rename_i e; cases hg; rw [e]; simp [wantedA] at hx; simp [hx]
  · rename_i j q e
    split at hg
    · rename_i t ht
      cases hg
      rw [e]
      simp only [wantedA] at hx
      have hv := he t
      split at hx
      · rename_i y hy
        cases hx
        rw [hy] at hv
        have hv := hv.bool_inv
        have hget : a.tmps[t]? = some (.bool y) := by
          simp only [Array.getD_eq_getD_getElem?] at hv
          cases hh : a.tmps[t]? with
          | none => rw [hh] at hv; simp [undef] at hv
          | some v => rw [hh] at hv; simp at hv; rw [hv]
        simp only [yielded, ht, Option.bind_some, hget]
        cases y <;> cases q <;> rfl
      · rename_i hy
        cases hx
        rw [hy] at hv
        simp only [VR] at hv
        obtain ⟨vs, hv, hvs⟩ := hv
        simp only [VRs] at hvs
        subst hvs
        have : yielded ops a.tmps j = none := by
          simp only [yielded, ht, Option.bind_some]
          simp only [Array.getD_eq_getD_getElem?] at hv
          cases hh : a.tmps[t]? with
          | none => rfl
          | some v => rw [hh] at hv; simp at hv; rw [hv]
        simp only [this]; rfl
      · cases hx
    · cases hg

theorem comp_no_defer {pol : Option Pol} {op : Op} {ao : AOp} (h : compOp P pol op = some ao) : ∀ c, op ≠ .defer c := by
  rintro c rfl; simp [compOp] at h

theorem wp_val {r : Option Nat} {n : Nat} {o : Oper} {x : Next} {v : Value} {w' : World} {K : Act → World → Prop} {Q : Exit → Act → World → Prop} (hnd : ∀ c, o.op ≠ .defer c) (hr : (execOp a.eval o).run P w = .ok x w') (hx : x = .value v ∨ x = .skip ∧ v = undef) (hK : K (a.put o.dst v) w') :
    o.wpIn (fen r) n P a w K Q := by
  refine ⟨fun _ _ => trivial, ?_⟩
  rw [Oper.semAt_eq _ _ _ hnd, hr]
  rcases hx with rfl | ⟨rfl, rfl⟩
  · exact hK
  · exact hK

/-- What an operation's compiled form is. -/
structure Comped (P : Program) (r : Option Nat) (ops : Array Oper) (o : Oper) (ao : AOper) : Prop where
  guard : guardT ops o.guard = some ao.guard
  op : (∃ pol, (compOp P pol o.op).getD .bad = ao.op) ∨ ∃ c x f xa, o.op = .defer c ∧ c.callee = .value x ∧ c.args = #[] ∧ compA x = some xa ∧ ao.op = .dfrop f xa ∧ r = none ∧ Quiet P f
  dst : (∀ s v, ao.op ≠ .fill s v) → ao.dst = o.dst
  fill : ∀ s v, ao.op = .fill s v → o.dst = none ∧ ∃ ty t x, o.op = .store ty (.tmp t) x ∧ ao.dst = some t ∧ sizeT P ty = some s ∧ compA x = some v.arg

theorem comped {r : Option Nat} {pol : Option Pol} {ops : Array Oper} {o : Oper} {ao : AOper} (hq : ∀ f, pol = some (.quiet f) → r = none ∧ Quiet P f) (h : compOper P pol ops o = some ao) : Comped P r ops o ao := by
  unfold compOper at h
  split at h
  · rename_i g hg
    split at h
    · rename_i f c hdf
      unfold isDfr at hdf
      split at hdf
      · rename_i c' f' hop
        cases hdf
        split at h
        · rename_i ad had
          cases h
          unfold compDfr at had
          split at had
          · rename_i x hx
            split at had
            · rename_i hsz
              split at had
              · rename_i xa hxa
                cases had
                obtain ⟨q1, q2⟩ := hq f rfl
                exact ⟨hg, .inr ⟨c, x, f, xa, hop, hx, Array.eq_empty_of_size_eq_zero hsz, hxa, rfl, q1, q2⟩, fun _ => rfl, fun s v e => by cases e⟩
              · cases had
            · cases had
          · cases had
        · cases h
      · cases hdf
    · split at h
      · rename_i n v ty t x he ho
        split at h
        · rename_i hd
          cases h
          have he' : compOp P pol o.op = some (.fill n v) := by
            cases hh : compOp P pol o.op with
            | none => rw [hh] at he; cases he
            | some y => rw [hh] at he; simpa using he
          refine ⟨hg, .inl ⟨pol, he⟩, fun hf => absurd rfl (hf n v), fun s v' hsv => ?_⟩
          cases hsv
          refine ⟨hd, ty, t, x, ho, rfl, ?_⟩
          rw [ho] at he'
          simp only [compOp] at he'
          split at he'
          · rename_i h1 h2 h3
            split at he'
            · cases he'; exact ⟨h1, h3⟩
            · cases he'; exact ⟨h1, h3⟩
            · cases he'
          · cases he'
        · cases h
      · cases h
      · rename_i op hop hno _
        cases h
        refine ⟨hg, .inl ⟨pol, rfl⟩, fun _ => rfl, fun s v hsv => ?_⟩
        exact (hno s v hsv).elim
  · cases h

/-- A plain operation. -/
theorem op_plain (hN : N ≤ 65535) {r : Option Nat} {n i : Nat} {ops : Array Oper} {o : Oper} {ao : AOper} {K : Act → World → Prop} {Q : Exit → Act → World → Prop} (hi : ops[i]? = some o) (hrs : RS P G N B ds β0 Φ0 H0 w0 κ β Φ env H a w) (hb : B b) (hB : ∀ b', B b' → b' ≤ b)
    (hc : Comped P r ops o ao) (hp : ao.op.plain = true) (hd : ∀ t, ao.dst = some t → t < N ∧ κ t = none) {d : D} {H' : Heap} (hrun : runOp G b call env H ao = some (d, H'))
    (hK : ∀ β' Φ' v w', RS P G N B ds β0 Φ0 H0 w0 κ β' Φ' (putO env ao.dst d) H' (a.put o.dst v) w' → K (a.put o.dst v) w') : wpOpIn (fen r) n P ops Q i K a w := by
  have hdst : ao.dst = o.dst := hc.dst (fun s v e => by rw [e] at hp; cases hp)
  rw [hdst] at hd hK
  unfold wpOpIn
  simp only [hi]
  unfold runOp at hrun
  split at hrun
  · rename_i hwt
    rw [if_pos (guard_ok hc.guard hwt hrs.er)]
    obtain ⟨pol, hop⟩ := hc.op.resolve_right (fun ⟨_, _, _, _, _, _, _, _, e, _⟩ => by rw [e] at hp; cases hp)
    have hop' : compOp P pol o.op = some ao.op := by
      cases hh : compOp P pol o.op with
      | none => rw [hh] at hop; simp at hop; rw [← hop] at hp; cases hp
      | some y => rw [hh] at hop; simpa using hop
    obtain ⟨x, v, w', β', Φ', h1, h2, h3, h4, h5, h6⟩ := step_ws hrs.ws hb hB hrs.er hrs.eu hop' hp hrun
    exact wp_val (comp_no_defer hop') h1 h2 (hK β' Φ' v w' (hrs.next hN h3 h4 h5 h6 hd))
  · rename_i hwt
    cases hrun
    rw [if_neg (by rw [guard_ok hc.guard hwt hrs.er]; simp)]
    exact ⟨fun _ _ => trivial, hK β Φ undef w (hrs.next hN (VR_undef _ _) hrs.ws (Ext.refl _ _ _ _) (.inr rfl) hd)⟩
  · cases hrun

theorem compBin_isBin {op : BinOp} {t : TypeId} {x y : Arg} {ao : AOp} (h : compBin P op t x y = some ao) : ao.plain = true := by
  unfold compBin at h
  repeat' split at h
  all_goals first | (cases h; rfl) | cases h

theorem compConv_plain {s t : TypeId} {x : Arg} {ao : AOp} (h : compConv P s t x = some ao) : ao.plain = true := by
  unfold compConv at h
  repeat' split at h
  all_goals first | (cases h; rfl) | cases h

theorem compB_plain {bi : Builtin} {ts : List TypeId} {xs : List Operand} {ao : AOp} (h : compB P bi ts xs = some ao) : ao.plain = true := by
  unfold compB at h
  repeat' split at h
  all_goals first | (cases h; rfl) | cases h

/-- What is compiled to what is no plain operation. -/
theorem unplain {pol : Option Pol} {op : Op} {ao : AOp} (h : compOp P pol op = some ao) (hp : ao.plain = false) :
    (∃ c fo f as, op = .call c ∧ c.callee = .value fo ∧ compA fo = some f ∧ compAs c.args.toList = some as ∧ ao = .call f as) ∨
    (∃ e s by_ zs, op = .alloc e ∧ zeroT P e = some (s, by_, zs) ∧ ao = .hole s) ∨ (∃ s v, ao = .fill s v) := by
  cases op
  case call c =>
    simp only [compOp] at h
    split at h
    · rw [compB_plain h] at hp; cases hp
    · rename_i f hf
      split at h
      · rename_i h1 h2
        cases h
        exact .inl ⟨c, f, _, _, rfl, hf, h1, h2, rfl⟩
      · cases h
    · cases h
  case alloc e =>
    simp only [compOp] at h
    split at h
    · rename_i s by_ zs hz
      split at h
      · cases h; exact .inr (.inl ⟨e, s, by_, zs, rfl, hz, rfl⟩)
      · cases h; cases hp
    · cases h
  case store t p v =>
    simp only [compOp] at h
    split at h
    · split at h
      · cases h; exact .inr (.inr ⟨_, _, rfl⟩)
      · cases h; exact .inr (.inr ⟨_, _, rfl⟩)
      · cases h; cases hp
    · cases h
  case binOp op t x y ty =>
    simp only [compOp] at h
    split at h
    · rw [compBin_isBin h] at hp; cases hp
    · cases h
  case convert s t x =>
    simp only [compOp] at h
    split at h
    · rw [compConv_plain h] at hp; cases hp
    · cases h
  case makeFunc fn first caps =>
    cases fn <;> simp only [compOp] at h
    all_goals (repeat' split at h)
    all_goals first | (cases h; cases hp; done) | cases h
  case makeMap t r =>
    cases r <;> simp only [compOp] at h
    all_goals (repeat' split at h)
    all_goals first | (cases h; cases hp; done) | cases h
  case lookup t m k ok =>
    cases ok <;> simp only [compOp] at h
    all_goals (repeat' split at h)
    all_goals first | (cases h; cases hp; done) | cases h
  all_goals simp only [compOp] at h
  all_goals (repeat' split at h)
  all_goals first | (cases h; cases hp; done) | cases h

/-- A call. -/
theorem op_call (hN : N ≤ 65535) (hsim : Sim P G call) {r : Option Nat} {n i : Nat} {ops : Array Oper} {o : Oper} {ao : AOper} {K : Act → World → Prop} {Q : Exit → Act → World → Prop} (hi : ops[i]? = some o) (hrs : RS P G N B ds β0 Φ0 H0 w0 κ β Φ env H a w)
    (hc : Comped P r ops o ao) {f : Arg} {as : List Arg} (hao : ao.op = .call f as) (hd : ∀ t, ao.dst = some t → t < N ∧ κ t = none) {d : D} {H' : Heap} (hrun : runOp G b call env H ao = some (d, H'))
    (hK : ∀ β' Φ' v w', RS P G N B ds β0 Φ0 H0 w0 κ β' Φ' (putO env ao.dst d) H' (a.put o.dst v) w' → K (a.put o.dst v) w') : wpOpIn (fen r) n P ops Q i K a w := by
  have hdst : ao.dst = o.dst := hc.dst (fun s v e => by rw [e] at hao; cases hao)
  rw [hdst] at hd hK
  unfold wpOpIn
  simp only [hi]
  unfold runOp at hrun
  split at hrun
  · rename_i hwt
    rw [if_pos (guard_ok hc.guard hwt hrs.er)]
    obtain ⟨pol, hop⟩ := hc.op.resolve_right (fun ⟨_, _, _, _, _, _, _, _, e, _⟩ => by rw [e] at hao; cases hao)
    have hop' : compOp P pol o.op = some (.call f as) := by
      cases hh : compOp P pol o.op with
      | none => rw [hh, hao] at hop; cases hop
      | some y => rw [hh, hao] at hop; simpa using hop
    rcases unplain hop' rfl with ⟨c, fo, f', as', h1, h2, h3, h4, h5⟩ | ⟨_, _, _, _, _, _, h⟩ | ⟨_, _, h⟩
    · cases h5
      rw [hao] at hrun
      simp only [step] at hrun
      have hargs : ∀ {xs : List Operand} {as : List Arg}, compAs xs = some as → ∀ x ∈ evalAs G env as, UN H.length x := fun h => evalAs_un hrs.eu h
      have hinv := hsim hrun hrs.ws (evalA_ok hrs.ws.wr hrs.er h3) (evalAs_ok hrs.ws.wr hrs.er h4) (evalA_un hrs.eu h3) (hargs h4)
      have hex : execOp a.eval o = (do let d ← Deferred.ofValue (a.eval fo) ((c.args.toList.map a.eval).toArray); invoke d.target d.args : Sem Next) := by
        unfold execOp
        rw [h1]
        simp only [resolve, h2]
        rw [args_of (a := a) (c := c) rfl]
      refine ⟨fun _ _ => trivial, ?_⟩
      rw [Oper.semAt_eq _ _ _ (comp_no_defer hop'), hex]
      unfold Inv at hinv
      have fin : ∀ v w', (∃ β' Φ', VR d β' Φ' v ∧ WS P G β' Φ' B H' w' ∧ Ext β Φ H w β' Φ' H' w' ∧ UN H'.length d) → K (a.put o.dst v) w' := by
        rintro v w' ⟨β', Φ', g1, g2, g3, hun⟩
        exact hK β' Φ' v w' (hrs.next hN g1 g2 g3 hun hd)
      revert hinv
      generalize Sem.run P (do let d ← Deferred.ofValue (a.eval fo) ((c.args.toList.map a.eval).toArray); invoke d.target d.args : Sem Next) w = res
      intro hinv
      unfold InvR at hinv
      split at hinv
      · exact fin _ _ hinv
      · refine ⟨fun h => by simp [fen, Fence.wide] at h, callsIn_fen hinv fun e w'' he => ?_⟩
        cases e with
        | returned v => exact fin _ _ he
        | panicked c => exact he.elim
        | outgrown => exact he.elim
      · refine ⟨fun h => by simp [fen, Fence.wide] at h, roundIn_fen hinv fun e w'' he => ?_⟩
        cases e with
        | returned v => exact fin _ _ he
        | panicked c => exact he.elim
        | outgrown => exact he.elim
      · exact hinv.elim
    · cases h
    · cases h
  · rename_i hwt
    cases hrun
    rw [if_neg (by rw [guard_ok hc.guard hwt hrs.er]; simp)]
    exact ⟨fun _ _ => trivial, hK β Φ undef w (hrs.next hN (VR_undef _ _) hrs.ws (Ext.refl _ _ _ _) (.inr rfl) hd)⟩
  · cases hrun

/-- A call is deferred. -/
theorem op_dfr (hN : N ≤ 65535) {r : Option Nat} {n i : Nat} {ops : Array Oper} {o : Oper} {ao : AOper} {K : Act → World → Prop} {Q : Exit → Act → World → Prop} (hi : ops[i]? = some o) (hrs : RS P G N B ds β0 Φ0 H0 w0 κ β Φ env H a w)
    (hc : Comped P r ops o ao) {f : Nat} {x : Arg} (hao : ao.op = .dfrop f x) (hd : ∀ t, ao.dst = some t → t < N ∧ κ t = none) {d : D} {H' : Heap} (hrun : runOp G b call env H ao = some (d, H'))
    (hK : ∀ β' Φ' a' w', RS P G N B ds β0 Φ0 H0 w0 κ β' Φ' (putO env ao.dst d) H' a' w' → K a' w') : wpOpIn (fen r) n P ops Q i K a w := by
  have hdst : ao.dst = o.dst := hc.dst (fun s v e => by rw [e] at hao; cases hao)
  rw [hdst] at hd hK
  unfold wpOpIn
  simp only [hi]
  unfold runOp at hrun
  split at hrun
  · rename_i hwt
    rw [if_pos (guard_ok hc.guard hwt hrs.er)]
    rcases hc.op with ⟨pol, hop⟩ | ⟨c, y, f', xa, h1, h2, h3, h4, h5, rfl, h6⟩
    · exfalso
      rw [hao] at hop
      cases hh : compOp P pol o.op with
      | none => rw [hh] at hop; cases hop
      | some z =>
        rw [hh] at hop
        simp at hop
        subst hop
        rcases unplain hh rfl with ⟨_, _, _, _, _, _, _, _, h⟩ | ⟨_, _, _, _, _, _, h⟩ | ⟨_, _, h⟩ <;> cases h
    · rw [hao] at h5 hrun
      cases h5
      simp only [step] at hrun
      split at hrun
      · rename_i g pre cs hx
        split at hrun
        · rename_i hgf
          cases hrun
          have hgf : g = f := by simpa [Nat.beq_eq] using hgf
          subst hgf
          have hv := evalA_ok (G := G) hrs.ws.wr hrs.er h4
          rw [hx] at hv
          simp only [VR] at hv
          obtain ⟨us, vs, e, _, _⟩ := hv
          have hex : (execOp a.eval o).run P w = .ok (.defer { target := .fn (.func g) vs.toArray, args := us.toArray ++ #[] }) w := by
            unfold execOp
            rw [h1]
            have hae : (#[] : Array Operand).map a.eval = #[] := by simp
            simp only [resolve, h2, h3, e, hae]
            rfl
          refine ⟨fun _ _ => trivial, ?_⟩
          have hsem : Oper.semAt (fen none).round a.eval o = execOp a.eval o := rfl
          rw [hsem, hex]
          have hh : Harmless P { target := .fn (.func g) vs.toArray, args := us.toArray ++ #[] } := ⟨g, _, _, rfl, h6⟩
          obtain ⟨hs, q1, q2⟩ := hrs.dfr
          have hrs' : RS P G N B ds β0 Φ0 H0 w0 κ β Φ env H { a with defers := { target := .fn (.func g) vs.toArray, args := us.toArray ++ #[] } :: a.defers } w :=
            ⟨hrs.ws, hrs.er, hrs.eu, hrs.size, ⟨_ :: hs, fun d hd => by
              rcases List.mem_cons.1 hd with rfl | hd
              · exact hh
              · exact q1 d hd, by rw [List.cons_append, ← q2]⟩, hrs.ext, hrs.hole, hrs.inj⟩
          exact hK β Φ _ w (hrs'.next hN (VR_undef _ _) hrs.ws (Ext.refl _ _ _ _) (.inr rfl) hd)
        · cases hrun
      · cases hrun
  · rename_i hwt
    cases hrun
    rw [if_neg (by rw [guard_ok hc.guard hwt hrs.er]; simp)]
    exact ⟨fun _ _ => trivial, hK β Φ _ w (hrs.next hN (VR_undef _ _) hrs.ws (Ext.refl _ _ _ _) (.inr rfl) hd)⟩
  · cases hrun

end
end Go.AM
/- Holes of a region: a variable that is made and filled within it. -/
namespace Go.AM

section
variable {P : Program} {G : Nat → Option (List D)} {β : Bk} {Φ : Fz} {b N : Nat} {B : Nat → Prop} {ds : List Deferred} {β0 : Bk} {Φ0 : Fz} {H0 H : Heap} {w0 w : World} {κ : Nat → Option (Nat × Nat)} {env : Env} {a : Act} {call : D → List D → Heap → Option (D × Heap)}

theorem Ids.append {b : Nat} {c : Chunk} (h : Ids b H) (hc : c.unders (H.length + 1)) : Ids b (H ++ [c]) := by
  refine ⟨by simp; have := h.1; omega, fun i x hx => ?_⟩
  rcases append_some hx with h1 | ⟨h1, h2⟩
  · have := h.2 i x h1
    split
    · rename_i h3; rwa [if_pos h3] at this
    · rename_i h3; rw [if_neg h3] at this; exact Chunk.unders_le (by simp) this
  · subst h2
    have := h.1
    rw [if_neg (by omega)]
    simpa using hc

/-- A new block that nothing names yet. -/
theorem WR.grow (h : WR P G β Φ b H w) {w' : World} {o : Obj} (hg : Grow w w' o) : WR P G β Φ b H w' ∧ Ext β Φ H w β Φ H w' := by
  refine ⟨⟨fun id c hc => ?_, fun k o' hk => ?_, h.apart, h.inj, h.dom, h.base, h.ids, h.glob⟩, ⟨More.refl _ _ _, Nat.le_refl _, hg.os, hg.tape, hg.output, by rw [hg.size]; omega, fun k hk _ => hg.old hk, fun k hk => .inl hk, fun k o' hk => .inl hk⟩⟩
  · exact (h.ch id c hc).more (h.unders hc) (lt_of_some hc) (More.refl _ _ _) (fun _ => rfl) (fun k hk => hg.old (h.blk_lt hc hk))
  · rw [hg.old (h.fz_lt hk)]; exact h.fz k o' hk

/-- A block that nothing names turns, and then stays as it is. -/
theorem WR.freeze (h : WR P G β Φ b H w) {w' : World} {k : Nat} {o : Obj} (ht : Turn w w' k o) (hd : ¬ live β H k) (hl : Φ k = none) : WR P G β (Fz.put Φ k o) b H w' := by
  have hm : More H.length β Φ β (Fz.put Φ k o) := ⟨fun _ _ _ _ h => h, fun _ _ h => h, Fz.put_more o hl⟩
  refine ⟨fun id c hc => ?_, fun j o' hj => ?_, fun id c j hc hj => ?_, h.inj, h.dom, h.base, h.ids, fun g cs hgc => ?_⟩
  · refine (h.ch id c hc).more (h.unders hc) (lt_of_some hc) hm (fun _ => rfl) (fun j hj => ht.other j ?_)
    rintro rfl; exact hd ⟨id, c, hc, hj⟩
  · unfold Fz.put at hj
    split at hj
    · rename_i e; subst e; cases hj; exact ht.here
    · rename_i e; rw [ht.other j e]; exact h.fz j o' hj
  · unfold Fz.put
    rw [if_neg (by rintro rfl; exact hd ⟨id, c, hc, hj⟩)]
    exact h.apart id c j hc hj
  · obtain ⟨cur, e, fr, h1, h2⟩ := h.glob g cs hgc
    exact ⟨cur, e, fr, Fz.put_more o hl _ _ h1, FRs.more cs (Fz.put_more o hl) h2⟩

theorem not_live_size (h : WR P G β Φ b H w) : ¬ live β H w.heap.size := by
  rintro ⟨id, c, h1, h2⟩
  have := h.blk_lt h1 h2
  omega

theorem fz_size (h : WR P G β Φ b H w) : Φ w.heap.size = none := by
  cases hx : Φ w.heap.size with
  | none => rfl
  | some x => exact absurd (h.fz_lt hx) (by omega)

/-- A hole is made. -/
theorem op_hole (hN : N ≤ 65535) {r : Option Nat} {n i : Nat} {ops : Array Oper} {o : Oper} {ao : AOper} {K : Act → World → Prop} {Q : Exit → Act → World → Prop} (hi : ops[i]? = some o) (hrs : RS P G N B ds β0 Φ0 H0 w0 κ β Φ env H a w)
    (hc : Comped P r ops o ao) {s t : Nat} (hao : ao.op = .hole s) (hgd : ao.guard = none) (hdst : ao.dst = some t) (ht : t < N) (hκ : κ t = none)
    (hK : ∀ β' Φ' v w' k, RS P G N B ds β0 Φ0 H0 w0 (Holes.set κ t (some (s, k))) β' Φ' (env.put t .undef) H (a.put o.dst v) w' → K (a.put o.dst v) w') : wpOpIn (fen r) n P ops Q i K a w := by
  have hd : ao.dst = o.dst := hc.dst (fun s v e => by rw [e] at hao; cases hao)
  rw [hdst] at hd
  unfold wpOpIn
  simp only [hi]
  have hwt : wantedA env ao.guard = some true := by rw [hgd]; rfl
  rw [if_pos (guard_ok hc.guard hwt hrs.er)]
  obtain ⟨pol, hop⟩ := hc.op.resolve_right (fun ⟨_, _, _, _, _, _, _, _, e, _⟩ => by rw [e] at hao; cases hao)
  have hop' : compOp P pol o.op = some (.hole s) := by
    cases hh : compOp P pol o.op with
    | none => rw [hh, hao] at hop; cases hop
    | some y => rw [hh, hao] at hop; simpa using hop
  rcases unplain hop' rfl with ⟨_, _, _, _, _, _, _, _, h⟩ | ⟨e, s', by_, zs, h1, h2, h3⟩ | ⟨_, _, h⟩
  · cases h
  · cases h3
    obtain ⟨i, z, hi', hzz, _, _, hcz, _, _⟩ := zeroT_ok h2
    have hg := Grow.alloc w (.cells z.cells e)
    obtain ⟨g1, g2⟩ := hrs.ws.wr.grow hg
    refine wp_val (x := .value (.pointer (some ⟨w.heap.size, 0, none⟩))) (v := .pointer (some ⟨w.heap.size, 0, none⟩)) (w' := w.alloc (.cells z.cells e)) (comp_no_defer hop') ?_ (.inl rfl) (hK β Φ _ _ w.heap.size ?_)
    · unfold execOp; rw [h1]
      have := run_zeroT (w := w) hi' hzz
      simp [Instr.alloc, this, newVar, newRow]
    · have hsz := hrs.size
      have hlt : t < 65535 := by omega
      rw [← hd]
      refine ⟨⟨g1, hrs.ws.ids⟩, (hrs.er.more hrs.eu g2.more).put hlt (by omega) (by trivial), hrs.eu.put hlt (.inl rfl), by rw [put_size]; exact hsz, hrs.dfr, hrs.ext.trans g2, fun u s' k hk => ?_, fun u u' s1 s2 k hk hk' => ?_⟩
      · unfold Holes.set at hk
        split at hk
        · rename_i e'; subst e'; cases hk
          exact ⟨put_getD_same (by omega), ⟨_, _, hg.new, hcz⟩, not_live_size hrs.ws.wr, fz_size hrs.ws.wr, hrs.ext.size⟩
        · rename_i e'; exact (hrs.hole u s' k hk).keep g2 (put_getD e')
      · have hk1 : ∀ u s', κ u = some (s', k) → k < w.heap.size := fun u s' hk => by
          obtain ⟨_, _, hc, _⟩ := (hrs.hole u s' k hk).cells
          exact (Array.getElem?_eq_some_iff.1 hc).1
        unfold Holes.set at hk hk'
        split at hk <;> split at hk'
        · rename_i e1 e2; rw [e1, e2]
        · cases hk; exact absurd (hk1 _ _ hk') (by omega)
        · cases hk'; exact absurd (hk1 _ _ hk) (by omega)
        · exact hrs.inj u u' s1 s2 k hk hk'
  · cases h

/-- A hole is filled. -/
theorem op_fill (hN : N ≤ 65535) {r : Option Nat} {n i : Nat} {ops : Array Oper} {o : Oper} {ao : AOper} {K : Act → World → Prop} {Q : Exit → Act → World → Prop} (hi : ops[i]? = some o) (hrs : RS P G N B ds β0 Φ0 H0 w0 κ β Φ env H a w)
    (hc : Comped P r ops o ao) {s t k : Nat} {x : Fil} (hao : ao.op = .fill s x) (hbx : x.box = none) (hgd : ao.guard = none) (hdst : ao.dst = some t) (ht : t < N) (hκ : κ t = some (s, k)) {d : D} {H' : Heap} (hrun : runOp G b call env H ao = some (d, H'))
    (hK : ∀ Φ' v w', RS P G N B ds β0 Φ0 H0 w0 (Holes.set κ t none) β Φ' (env.put t d) H' (a.put o.dst v) w' → K (a.put o.dst v) w') : wpOpIn (fen r) n P ops Q i K a w := by
  obtain ⟨hd, ty, t', y, hop, hdst', hsz, hy⟩ := hc.fill s x hao
  rw [hdst] at hdst'; cases hdst'
  unfold wpOpIn
  simp only [hi]
  have hwt : wantedA env ao.guard = some true := by rw [hgd]; rfl
  rw [if_pos (guard_ok hc.guard hwt hrs.er)]
  unfold runOp at hrun
  rw [hwt, hao] at hrun
  simp only [step, hbx] at hrun
  split at hrun
  · rename_i hh
    cases hrun
    obtain ⟨hlen, hun, hon⟩ := hh
    have hv := VR.cells hon (evalA_ok hrs.ws.wr hrs.er hy)
    have hl : (a.eval y).cells.size = s := by rw [← hlen, ← VRs.length hv]; simp
    have hho := hrs.hole t s k hκ
    obtain ⟨cur, e, hcell, hcs⟩ := hho.cells
    have hrun := run_storeCells_at P k 0 e (a.eval y).cells.toList 0 cur w hcell (by simp; omega) (ones_cells hon hv)
    simp only [Nat.add_zero, Nat.zero_add] at hrun
    have hturn := setRow_turn w k cur (cur.toList.take 0 ++ (a.eval y).cells.toList ++ cur.toList.drop (a.eval y).cells.toList.length).toArray e (0, 0) hcell
    have harr : (cur.toList.take 0 ++ (a.eval y).cells.toList ++ cur.toList.drop (a.eval y).cells.toList.length).toArray = (a.eval y).cells := by
      rw [List.drop_of_length_le (by simp; omega)]; simp
    rw [harr] at hturn hrun
    have hst := run_storeAt (v := a.eval y) hsz hl hrun
    refine wp_val (x := .skip) (v := undef) (w' := w.setRow k (a.eval y).cells) (fun c => by rw [hop]; simp) ?_ (.inr ⟨rfl, rfl⟩) (hK (Fz.put Φ k (.cells (a.eval y).cells e (0, 0))) _ _ ?_)
    · unfold execOp; rw [hop]
      have ht' : a.eval (.tmp t) = .pointer (some ⟨k, 0, none⟩) := hho.tmp
      simp [ht', hst]
    · rw [hd]
      have hm := Fz.put_more (Obj.cells (a.eval y).cells e (0, 0)) hho.loose
      have hmore : More H.length β Φ β (Fz.put Φ k (.cells (a.eval y).cells e (0, 0))) := ⟨fun _ _ _ _ h => h, fun _ _ h => h, hm⟩
      have hsize := hrs.size
      have hlt : t < 65535 := by omega
      have hvd : VR (.fptr (evalA G env x.arg).cells) β (Fz.put Φ k (.cells (a.eval y).cells e (0, 0))) (a.tmps.getD t undef) := by
        simp only [VR]
        refine ⟨⟨k, 0, none⟩, hho.tmp, .inr ⟨(a.eval y).cells, e, (0, 0), by simp [Fz.put], rfl, ?_⟩⟩
        refine FRs_of_VRs (VRs.more _ (D.unders_le _ (Nat.zero_le _) hun) hmore hv) hun (fun j u hj => ?_)
        simpa using hj
      have her : ER β (Fz.put Φ k (.cells (a.eval y).cells e (0, 0))) env a.tmps := hrs.er.more hrs.eu hmore
      refine ⟨⟨hrs.ws.wr.freeze hturn hho.dead hho.loose, hrs.ws.ids⟩, ?_, hrs.eu.put hlt (.inr rfl), hsize, hrs.dfr, ?_, fun u s' k' hk => ?_, fun u u' s1 s2 k' hk hk' => ?_⟩
      · intro u
        rw [Env.put_get u _ hlt]
        split
        · rename_i e'; subst e'; exact hvd
        · exact her u
      · have hx := hrs.ext
        refine ⟨⟨hx.more.some, hx.more.none, fun b o hb => hm _ _ (hx.more.fz b o hb)⟩, hx.len, hturn.os.trans hx.os, hturn.tape.trans hx.tape, hturn.output.trans hx.output, by rw [hturn.size]; exact hx.size, fun j hj hl => ?_, hx.fresh, fun j o' hj => ?_⟩
        · rw [hturn.other j (by have := hho.new; omega)]; exact hx.same j hj hl
        · unfold Fz.put at hj
          split at hj
          · rename_i e'; subst e'; exact .inr (.inr hho.new)
          · exact hx.fzn j o' hj
      · unfold Holes.set at hk
        split at hk
        · cases hk
        · rename_i e'
          have h1 := hrs.hole u s' k' hk
          have hne : k' ≠ k := fun e2 => e' (hrs.inj u t s' s k (e2 ▸ hk) hκ)
          obtain ⟨c1, c2, c3, c4⟩ := h1.cells
          exact ⟨h1.tmp, ⟨c1, c2, by rw [hturn.other k' hne]; exact c3, c4⟩, h1.dead, by unfold Fz.put; rw [if_neg hne]; exact h1.loose, h1.new⟩
      · unfold Holes.set at hk hk'
        split at hk
        · cases hk
        · split at hk'
          · cases hk'
          · exact hrs.inj u u' s1 s2 k' hk hk'
  · cases hrun

/-- A block that nothing names turns, and a new chunk lies in it from then. -/
theorem WR.adopt (h : WR P G β Φ b H w) {w' : World} {k cap : Nat} {o : Obj} (ht : Turn w w' k o) (hd : ¬ live β H k) (hl : Φ k = none) {c : Chunk}
    (hc : ChR P (Bk.put β H.length 0 (k, cap)) Φ w' H.length c) (hb : c.blk (Bk.put β H.length 0 (k, cap)) H.length = some k) (hu : c.unders (H.length + 1)) :
    WR P G (Bk.put β H.length 0 (k, cap)) Φ b (H ++ [c]) w' ∧ More H.length β Φ (Bk.put β H.length 0 (k, cap)) Φ ∧ (∀ j, live (Bk.put β H.length 0 (k, cap)) (H ++ [c]) j → live β H j ∨ j = k) := by
  have hold : ∀ i u, i < H.length → Bk.put β H.length 0 (k, cap) i u = β i u := fun i u hi => Bk.put_id (by omega)
  have hm : More H.length β Φ (Bk.put β H.length 0 (k, cap)) Φ :=
    ⟨fun id u x hi hx => by rw [hold id u hi]; exact hx, fun id hi hx => by rw [hold id 0 hi]; exact hx, fun _ _ h => h⟩
  have hbl : ∀ id (c : Chunk), H[id]? = some c → c.blk (Bk.put β H.length 0 (k, cap)) id = c.blk β id := fun id c hc => by
    cases c <;> simp [Chunk.blk, hold _ _ (lt_of_some hc)]
  refine ⟨⟨fun id c' hc' => ?_, fun j o' hj => ?_, fun id c' j hc' hj => ?_, fun id c' id' c'' j hc' hc'' hj hj' => ?_, fun id u hi => ?_, ?_, fun id c' hc' => ?_, h.glob⟩, hm, ?_⟩
  · rcases append_some hc' with h1 | ⟨h1, h2⟩
    · refine (h.ch id c' h1).more (h.unders h1) (lt_of_some h1) hm (fun u => hold id u (lt_of_some h1)) (fun j hj => ht.other j ?_)
      rintro rfl; exact hd ⟨id, c', h1, hj⟩
    · subst h1; subst h2; exact hc
  · rw [ht.other j (by rintro rfl; rw [hl] at hj; cases hj)]; exact h.fz j o' hj
  · rcases append_some hc' with h1 | ⟨h1, h2⟩
    · rw [hbl id c' h1] at hj; exact h.apart id c' j h1 hj
    · subst h1; subst h2; rw [hb] at hj; cases hj; exact hl
  · rcases append_some hc' with h1 | ⟨h1, h2⟩ <;> rcases append_some hc'' with g1 | ⟨g1, g2⟩
    · rw [hbl id c' h1] at hj; rw [hbl id' c'' g1] at hj'; exact h.inj id c' id' c'' j h1 g1 hj hj'
    · subst g1; subst g2; rw [hb] at hj'; cases hj'; rw [hbl id c' h1] at hj; exact absurd ⟨id, c', h1, hj⟩ hd
    · subst h1; subst h2; rw [hb] at hj; cases hj; rw [hbl id' c'' g1] at hj'; exact absurd ⟨id', c'', g1, hj'⟩ hd
    · rw [h1, g1]
  · simp only [List.length_append, List.length_singleton] at hi
    rw [Bk.put_id (by omega)]; exact h.dom id u (by omega)
  · have := h.base; simp; omega
  · rcases append_some hc' with h1 | ⟨h1, h2⟩
    · have := h.ids id c' h1
      split
      · rename_i h3; rwa [if_pos h3] at this
      · rename_i h3; rw [if_neg h3] at this; exact Chunk.unders_le (by simp) this
    · subst h2
      have := h.base
      rw [if_neg (by omega)]
      simpa using hu
  · rintro j ⟨id, c', h1, h2⟩
    rcases append_some h1 with g1 | ⟨g1, g2⟩
    · rw [hbl id c' g1] at h2; exact .inl ⟨id, c', g1, h2⟩
    · subst g1; subst g2; rw [hb] at h2; cases h2; exact .inr rfl

/-- A hole is filled as a box. -/
theorem op_fillB (hN : N ≤ 65535) {r : Option Nat} {n i : Nat} {ops : Array Oper} {o : Oper} {ao : AOper} {K : Act → World → Prop} {Q : Exit → Act → World → Prop} (hi : ops[i]? = some o) (hrs : RS P G N B ds β0 Φ0 H0 w0 κ β Φ env H a w)
    (hc : Comped P r ops o ao) {s t k : Nat} {x : Fil} {res : List (Nat × Nat)} (hao : ao.op = .fill s x) (hbx : x.box = some res) (hgd : ao.guard = none) (hdst : ao.dst = some t) (ht : t < N) (hκ : κ t = some (s, k)) {d : D} {H' : Heap} (hrun : runOp G b call env H ao = some (d, H'))
    (hK : ∀ β' Φ' v w', RS P G N B ds β0 Φ0 H0 w0 (Holes.set κ t none) β' Φ' (env.put t d) H' (a.put o.dst v) w' → K (a.put o.dst v) w') : wpOpIn (fen r) n P ops Q i K a w := by
  obtain ⟨hd, ty, t', y, hop, hdst', hsz, hy⟩ := hc.fill s x hao
  rw [hdst] at hdst'; cases hdst'
  unfold wpOpIn
  simp only [hi]
  have hwt : wantedA env ao.guard = some true := by rw [hgd]; rfl
  rw [if_pos (guard_ok hc.guard hwt hrs.er)]
  unfold runOp at hrun
  rw [hwt, hao] at hrun
  simp only [step, hbx] at hrun
  split at hrun
  · rename_i hlen
    split at hrun
    · rename_i H1 cs hr
      split at hrun
      · rename_i hst
        cases hrun
        have ho' : D.ones cs = true := by simp only [storable, Bool.and_eq_true] at hst; exact hst.2
        have ho := reserve_ones hr ho'
        have hun : D.unders H.length (evalA G env x.arg).cells = true := by
          rcases evalA_un (G := G) hrs.eu hy with hun | hun
          · rw [hun] at ho; simp [D.cells, D.ones, D.one] at ho
          · exact D.under_cells hun
        have hv := VR.cells ho (evalA_ok hrs.ws.wr hrs.er hy)
        obtain ⟨w1, w2, w3, w4, w5⟩ := reserve_ok hrs.ws.wr hv hun ho hr
        have hids : ∀ b', B b' → Ids b' H1 := fun b' hb' => (reserve_ok (hrs.ws.wr.rebase (hrs.ws.ids b' hb')) hv hun ho hr).1.idsOf
        have hl : (a.eval y).cells.size = s := by rw [← hlen, ← VRs.length hv]; simp
        have hho0 := hrs.hole t s k hκ
        have hho := hho0.keep w2 (tmps' := a.tmps) rfl
        obtain ⟨cur, e, hcell, hcs⟩ := hho.cells
        have hrun := run_storeCells_at P k 0 e (a.eval y).cells.toList 0 cur w hcell (by simp; omega) (ones_cells ho hv)
        simp only [Nat.add_zero, Nat.zero_add] at hrun
        have hturn := setRow_turn w k cur (cur.toList.take 0 ++ (a.eval y).cells.toList ++ cur.toList.drop (a.eval y).cells.toList.length).toArray e (0, 0) hcell
        have harr : (cur.toList.take 0 ++ (a.eval y).cells.toList ++ cur.toList.drop (a.eval y).cells.toList.length).toArray = (a.eval y).cells := by
          rw [List.drop_of_length_le (by simp; omega)]; simp
        rw [harr] at hturn hrun
        have hsto := run_storeAt (v := a.eval y) hsz hl hrun
        have hm0 : More H1.length β Φ (Bk.put β H1.length 0 (k, 0)) Φ :=
          ⟨fun id u x hi hx => by rw [Bk.put_id (by omega)]; exact hx, fun id hi hx => by rw [Bk.put_id (by omega)]; exact hx, fun _ _ h => h⟩
        have hcu : (Chunk.box cs).unders (H1.length + 1) := D.unders_le _ (Nat.le_succ _) w4
        obtain ⟨g1, g2, g3⟩ := w1.adopt (cap := 0) hturn hho.dead hho.loose (c := .box cs) ⟨w5, k, 0, _, e, Bk.put_same _ _ _ _, hturn.here, VRs.more cs w4 hm0 w3⟩ (by simp [Chunk.blk, Bk.put_same]) hcu
        refine wp_val (x := .skip) (v := undef) (w' := w.setRow k (a.eval y).cells) (fun c => by rw [hop]; simp) ?_ (.inr ⟨rfl, rfl⟩) (hK (Bk.put β H1.length 0 (k, 0)) Φ _ _ ?_)
        · unfold execOp; rw [hop]
          have ht' : a.eval (.tmp t) = .pointer (some ⟨k, 0, none⟩) := hho.tmp
          simp [ht', hsto]
        · rw [hd]
          have hsize := hrs.size
          have hlt : t < 65535 := by omega
          have her : ER (Bk.put β H1.length 0 (k, 0)) Φ env a.tmps := (hrs.er.more hrs.eu w2.more).more (hrs.eu.le w2.len) g2
          have hx := hrs.ext.trans w2
          refine ⟨⟨g1, fun b' hb' => (hids b' hb').append hcu⟩, ?_, (hrs.eu.le (by simp; have := w2.len; omega)).put hlt (.inr (by simp [D.under, Nat.blt_eq])), hsize, hrs.dfr, ?_, fun u s' k' hk => ?_, fun u u' s1 s2 k' hk hk' => ?_⟩
          · intro u
            rw [Env.put_get u _ hlt]
            split
            · rename_i e'; subst e'
              simp only [VR]
              exact ⟨k, 0, Bk.put_same _ _ _ _, hho.tmp⟩
            · exact her u
          · refine ⟨hx.more.trans hx.len g2, by simp; have := hx.len; omega, hturn.os.trans hx.os, hturn.tape.trans hx.tape, hturn.output.trans hx.output, by rw [hturn.size]; exact hx.size, fun j hj hl => ?_, fun j hj => ?_, fun j o' hj => hx.fzn j o' hj⟩
            · rw [hturn.other j (by have := hho.new; omega)]; exact hx.same j hj hl
            · rcases g3 j hj with h1 | rfl
              · exact hx.fresh j h1
              · exact .inr hho.new
          · unfold Holes.set at hk
            split at hk
            · cases hk
            · rename_i e'
              have h1 := (hrs.hole u s' k' hk).keep w2 (tmps' := a.tmps) rfl
              have hne : k' ≠ k := fun e2 => e' (hrs.inj u t s' s k (e2 ▸ hk) hκ)
              obtain ⟨c1, c2, c3, c4⟩ := h1.cells
              refine ⟨h1.tmp, ⟨c1, c2, by rw [hturn.other k' hne]; exact c3, c4⟩, fun hl => ?_, h1.loose, h1.new⟩
              rcases g3 k' hl with h2 | h2
              · exact h1.dead h2
              · exact hne h2
          · unfold Holes.set at hk hk'
            split at hk
            · cases hk
            · split at hk'
              · cases hk'
              · exact hrs.inj u u' s1 s2 k' hk hk'
      · cases hrun
    · cases hrun
  · cases hrun

end
end Go.AM
/- A region in the text's order. -/
namespace Go.AM

/-- The list of the holes, and the holes. -/
def Pd (p : List (Nat × Nat)) (κ : Nat → Option (Nat × Nat)) : Prop := ∀ t, (κ t).map (·.1) = pget p t

theorem pget_cons (t s u : Nat) (p : List (Nat × Nat)) : pget ((t, s) :: p) u = if u = t then some s else pget p u := by
  simp only [pget, Nat.beq_eq]
  by_cases h : t = u
  · subst h; simp
  · rw [if_neg h, if_neg (fun e => h e.symm)]

theorem pget_del : ∀ (p : List (Nat × Nat)) (t u : Nat), pget (pdel p t) u = if u = t then none else pget p u
  | [], t, u => by simp [pdel, pget]
  | (x, s) :: r, t, u => by
    simp only [pdel, Nat.beq_eq]
    by_cases h : x = t
    · rw [if_pos h, pget_del r t u, pget_cons]
      subst h
      by_cases hu : u = x
      · simp [hu]
      · simp [hu]
    · rw [if_neg h, pget_cons, pget_cons, pget_del r t u]
      by_cases hu : u = x
      · subst hu; rw [if_pos rfl, if_neg h]; simp
      · rw [if_neg hu, if_neg hu]

theorem Pd.hole {p : List (Nat × Nat)} {κ : Nat → Option (Nat × Nat)} (h : Pd p κ) (t s k : Nat) : Pd ((t, s) :: p) (Holes.set κ t (some (s, k))) := by
  intro u
  rw [pget_cons]
  unfold Holes.set
  by_cases hu : u = t
  · rw [if_pos hu, if_pos hu]; rfl
  · rw [if_neg hu, if_neg hu]; exact h u

theorem Pd.fill {p : List (Nat × Nat)} {κ : Nat → Option (Nat × Nat)} (h : Pd p κ) (t : Nat) : Pd (pdel p t) (Holes.set κ t none) := by
  intro u
  rw [pget_del]
  unfold Holes.set
  by_cases hu : u = t
  · rw [if_pos hu, if_pos hu]; rfl
  · rw [if_neg hu, if_neg hu]; exact h u

theorem Pd.none {p : List (Nat × Nat)} {κ : Nat → Option (Nat × Nat)} (h : Pd p κ) {t : Nat} (hp : (pget p t).isNone = true) : κ t = none := by
  have := h t
  rw [Option.isNone_iff_eq_none] at hp
  rw [hp] at this
  simpa using this

theorem Pd.some {p : List (Nat × Nat)} {κ : Nat → Option (Nat × Nat)} (h : Pd p κ) {t s : Nat} (hp : pget p t = some s) : ∃ k, κ t = some (s, k) := by
  have := h t
  rw [hp] at this
  cases hk : κ t with
  | none => rw [hk] at this; cases this
  | some x => rw [hk] at this; simp at this; exact ⟨x.2, by rw [← this]⟩

theorem fits_lt {o : AOper} {N : Nat} (h : o.fits N = true) {t : Nat} (ht : o.dst = some t) : t < N := by
  unfold AOper.fits at h
  rw [ht] at h
  simpa [Nat.blt_eq] using h

section
variable {P : Program} {G : Nat → Option (List D)} {β : Bk} {Φ : Fz} {b N : Nat} {B : Nat → Prop} {ds : List Deferred} {β0 : Bk} {Φ0 : Fz} {H0 H : Heap} {w0 w : World} {κ : Nat → Option (Nat × Nat)} {env : Env} {a : Act} {call : D → List D → Heap → Option (D × Heap)}

theorem hole_run {o : AOper} {s : Nat} (ho : o.op = .hole s) (hg : o.guard = none) {d : D} {H' : Heap} (h : runOp G b call env H o = some (d, H')) : d = .undef ∧ H' = H := by
  unfold runOp at h
  rw [hg, ho] at h
  simp only [wantedA, step] at h
  cases h; exact ⟨rfl, rfl⟩

theorem bad_run {o : AOper} {d : D} {H' : Heap} (ho : o.op = .bad) (h : runOp G b call env H o = some (d, H')) : d = .tup [] ∧ H' = H ∧ wantedA env o.guard = some false := by
  unfold runOp at h
  split at h
  · rw [ho] at h; simp [step] at h
  · rename_i hw; cases h; exact ⟨rfl, rfl, hw⟩
  · cases h

/-- An operation that is not carried out. -/
theorem op_skipped (hN : N ≤ 65535) {r : Option Nat} {n i : Nat} {ops : Array Oper} {o : Oper} {ao : AOper} {K : Act → World → Prop} {Q : Exit → Act → World → Prop} (hi : ops[i]? = some o) (hrs : RS P G N B ds β0 Φ0 H0 w0 κ β Φ env H a w)
    (hc : Comped P r ops o ao) (hdst : ao.dst = o.dst) (hd : ∀ t, ao.dst = some t → t < N ∧ κ t = none) (hwt : wantedA env ao.guard = some false)
    (hK : ∀ β' Φ' v w', RS P G N B ds β0 Φ0 H0 w0 κ β' Φ' (putO env ao.dst (.tup [])) H (a.put o.dst v) w' → K (a.put o.dst v) w') : wpOpIn (fen r) n P ops Q i K a w := by
  rw [hdst] at hd hK
  unfold wpOpIn
  simp only [hi]
  rw [if_neg (by rw [guard_ok hc.guard hwt hrs.er]; simp)]
  exact ⟨fun _ _ => trivial, hK β Φ undef w (hrs.next hN (VR_undef _ _) hrs.ws (Ext.refl _ _ _ _) (.inr rfl) hd)⟩

/-- An operation, of whatever kind. -/
theorem op_any (hN : N ≤ 65535) (hsim : Sim P G call) {r : Option Nat} {n i : Nat} {ops : Array Oper} {o : Oper} {ao : AOper} {K : Act → World → Prop} {Q : Exit → Act → World → Prop} (hi : ops[i]? = some o) (hrs : RS P G N B ds β0 Φ0 H0 w0 κ β Φ env H a w) (hb : B b) (hB : ∀ b', B b' → b' ≤ b)
    (hc : Comped P r ops o ao) (hf : ao.fits N = true) {d : D} {H' : Heap} (hrun : runOp G b call env H ao = some (d, H'))
    (hh : ∀ s, ao.op = .hole s → ao.guard = none ∧ ∃ t, ao.dst = some t ∧ κ t = none)
    (hfl : ∀ s x, ao.op = .fill s x → ao.guard = none ∧ ∃ t k, ao.dst = some t ∧ κ t = some (s, k))
    (hel : (∀ s, ao.op ≠ .hole s) → (∀ s x, ao.op ≠ .fill s x) → ∀ t, ao.dst = some t → κ t = none)
    (hK : ∀ β' Φ' κ' a' w', RS P G N B ds β0 Φ0 H0 w0 κ' β' Φ' (putO env ao.dst d) H' a' w' →
      (∀ s t, ao.op = .hole s → ao.dst = some t → ∃ k, κ' = Holes.set κ t (some (s, k))) → (∀ s x t, ao.op = .fill s x → ao.dst = some t → κ' = Holes.set κ t none) → ((∀ s, ao.op ≠ .hole s) → (∀ s x, ao.op ≠ .fill s x) → κ' = κ) →
      K a' w') : wpOpIn (fen r) n P ops Q i K a w := by
  have plain : (∀ s, ao.op ≠ .hole s) → (∀ s x, ao.op ≠ .fill s x) → ∀ β' Φ' v w', RS P G N B ds β0 Φ0 H0 w0 κ β' Φ' (putO env ao.dst d) H' (a.put o.dst v) w' → K (a.put o.dst v) w' :=
    fun h1 h2 β' Φ' v w' hr => hK β' Φ' κ _ w' hr (fun s t e => absurd e (h1 s)) (fun s x t e => absurd e (h2 s x)) (fun _ _ => rfl)
  have hd : (∀ s, ao.op ≠ .hole s) → (∀ s x, ao.op ≠ .fill s x) → ∀ t, ao.dst = some t → t < N ∧ κ t = none := fun h1 h2 t ht => ⟨fits_lt hf ht, hel h1 h2 t ht⟩
  cases hop : ao.op
  case hole s =>
    obtain ⟨hg, t, ht, hκ⟩ := hh s hop
    obtain ⟨rfl, rfl⟩ := hole_run hop hg hrun
    refine op_hole hN hi hrs hc hop hg ht (fits_lt hf ht) hκ fun β' Φ' v w' k hr => ?_
    refine hK β' Φ' _ _ w' (by rw [ht]; exact hr) (fun s' t' e1 e2 => ?_) (fun s' x t' e => by rw [hop] at e; cases e) (fun h => absurd hop (h s))
    rw [hop] at e1; cases e1; rw [ht] at e2; cases e2; exact ⟨k, rfl⟩
  case fill s x =>
    obtain ⟨hg, t, k, ht, hκ⟩ := hfl s x hop
    cases hbx : x.box with
    | none =>
      have hH : H' = H := by
        unfold runOp at hrun
        rw [hg, hop] at hrun
        simp only [wantedA, step, hbx] at hrun
        split at hrun
        · cases hrun; rfl
        · cases hrun
      subst hH
      refine op_fill hN hi hrs hc hop hbx hg ht (fits_lt hf ht) hκ hrun fun Φ' v w' hr => ?_
      refine hK β Φ' _ _ w' (by rw [ht]; exact hr) (fun s' t' e => by rw [hop] at e; cases e) (fun s' x' t' e1 e2 => ?_) (fun _ h => absurd hop (h s x))
      rw [ht] at e2; cases e2; rfl
    | some res =>
      refine op_fillB hN hi hrs hc hop hbx hg ht (fits_lt hf ht) hκ hrun fun β' Φ' v w' hr => ?_
      refine hK β' Φ' _ _ w' (by rw [ht]; exact hr) (fun s' t' e => by rw [hop] at e; cases e) (fun s' x' t' e1 e2 => ?_) (fun _ h => absurd hop (h s x))
      rw [ht] at e2; cases e2; rfl
  case call f as =>
    have h1 : ∀ s, ao.op ≠ .hole s := fun s e => by rw [hop] at e; cases e
    have h2 : ∀ s x, ao.op ≠ .fill s x := fun s x e => by rw [hop] at e; cases e
    exact op_call hN hsim hi hrs hc hop (hd h1 h2) hrun (plain h1 h2)
  case dfrop f x =>
    have h1 : ∀ s, ao.op ≠ .hole s := fun s e => by rw [hop] at e; cases e
    have h2 : ∀ s x, ao.op ≠ .fill s x := fun s x e => by rw [hop] at e; cases e
    exact op_dfr hN hi hrs hc hop (hd h1 h2) hrun (fun β' Φ' a' w' hr => hK β' Φ' κ a' w' hr (fun s t e => absurd e (h1 s)) (fun s x t e => absurd e (h2 s x)) (fun _ _ => rfl))
  case bad =>
    have h1 : ∀ s, ao.op ≠ .hole s := fun s e => by rw [hop] at e; cases e
    have h2 : ∀ s x, ao.op ≠ .fill s x := fun s x e => by rw [hop] at e; cases e
    obtain ⟨rfl, rfl, hw⟩ := bad_run hop hrun
    exact op_skipped hN hi hrs hc (hc.dst h2) (hd h1 h2) hw (plain h1 h2)
  all_goals
    have h1 : ∀ s, ao.op ≠ .hole s := fun s e => by rw [hop] at e; cases e
    have h2 : ∀ s x, ao.op ≠ .fill s x := fun s x e => by rw [hop] at e; cases e
    exact op_plain hN hi hrs hb hB hc (by rw [hop]; rfl) (hd h1 h2) hrun (plain h1 h2)

theorem compOpers_cons {rr : Option Nat} {pol : Nat → Option Pol} (hq : ∀ i f, pol i = some (.quiet f) → rr = none ∧ Quiet P f) {ops : Array Oper} {i : Nat} {o : Oper} {r : List Oper} {l : List AOper} (h : compOpers P pol ops i (o :: r) = some l) :
    ∃ x xs, l = x :: xs ∧ Comped P rr ops o x ∧ compOpers P pol ops (i + 1) r = some xs := by
  simp only [compOpers] at h
  split at h
  · rename_i x hx
    split at h
    · rename_i xs hxs
      cases h
      exact ⟨x, xs, rfl, comped (hq i) hx, hxs⟩
    · cases h
  · cases h

theorem seq_ok (hN : N ≤ 65535) (hsim : Sim P G call) {r : Option Nat} {n : Nat} {ops : Array Oper} {Q : Exit → Act → World → Prop} (hb : B b) (hB : ∀ b', B b' → b' ≤ b) {pol : Nat → Option Pol} (hq : ∀ i f, pol i = some (.quiet f) → r = none ∧ Quiet P f) :
    ∀ (os : List Oper) (j : Nat) (as : List AOper) (p : List (Nat × Nat)) (κ : Nat → Option (Nat × Nat)) (β : Bk) (Φ : Fz) (env : Env) (H : Heap) (a : Act) (w : World) (env' : Env) (H' : Heap),
      ops.toList.drop j = os → compOpers P pol ops j os = some as → pendOK p as = true → fitsL N as = true → RS P G N B ds β0 Φ0 H0 w0 κ β Φ env H a w → Pd p κ → runOps G b call as env H = some (env', H') →
      (∀ β' Φ' κ' a' w', RS P G N B ds β0 Φ0 H0 w0 κ' β' Φ' env' H' a' w' → Q .normal a' w') → wpOpsIn (fen r) n P ops Q (List.range' j os.length) a w := by
  intro os
  induction os with
  | nil =>
    intro j as p κ β Φ env H a w env' H' _ hc _ _ hrs _ hrun hQ
    simp [compOpers] at hc; subst hc
    simp [runOps] at hrun
    obtain ⟨rfl, rfl⟩ := hrun
    exact hQ _ _ _ _ _ hrs
  | cons o os ih =>
    intro j as p κ β Φ env H a w env' H' hdrop hc hp hf hrs hpd hrun hQ
    obtain ⟨x, xs, rfl, hcx, hcxs⟩ := compOpers_cons hq hc
    simp only [fitsL, Bool.and_eq_true] at hf
    have hi : ops[j]? = some o := by
      have := congrArg (fun l => l[0]?) hdrop
      simpa using this
    have hdrop' : ops.toList.drop (j + 1) = os := by
      have := congrArg (fun l => l.drop 1) hdrop
      simpa [List.drop_drop, Nat.add_comm] using this
    simp only [runOps] at hrun
    split at hrun
    · rename_i d H1 hr1
      rw [List.length_cons, List.range'_succ, wpOpsIn_cons]
      simp only [pendOK] at hp
      split at hp
      · rename_i s hop
        split at hp
        · rename_i t ht
          simp only [Bool.and_eq_true] at hp
          obtain ⟨⟨p1, p2⟩, p3⟩ := hp
          refine op_any hN hsim hi hrs hb hB hcx hf.1 hr1 (fun s' e => ⟨by simpa using p1, t, ht, hpd.none p2⟩) (fun s' x' e => by rw [hop] at e; cases e) (fun h => absurd hop (h s)) fun β' Φ' κ' a' w' hr k1 k2 k3 => ?_
          obtain ⟨k, rfl⟩ := k1 s t hop ht
          exact ih (j + 1) xs _ _ β' Φ' _ H1 _ w' env' H' hdrop' hcxs p3 hf.2 hr (hpd.hole t s k) hrun hQ
        · cases hp
      · rename_i s x' hop
        split at hp
        · rename_i t ht
          simp only [Bool.and_eq_true] at hp
          obtain ⟨⟨p1, p2⟩, p3⟩ := hp
          split at p2
          · rename_i s' hs'
            have : s' = s := by simpa [Nat.beq_eq] using p2
            subst this
            obtain ⟨k, hk⟩ := hpd.some hs'
            refine op_any hN hsim hi hrs hb hB hcx hf.1 hr1 (fun s' e => by rw [hop] at e; cases e) (fun s'' x'' e => ?_) (fun _ h => absurd hop (h _ _)) fun β' Φ' κ' a' w' hr k1 k2 k3 => ?_
            · rw [hop] at e; cases e; exact ⟨by simpa using p1, t, k, ht, hk⟩
            · have := k2 s' x' t hop ht
              subst this
              exact ih (j + 1) xs _ _ β' Φ' _ H1 _ w' env' H' hdrop' hcxs p3 hf.2 hr (hpd.fill t) hrun hQ
          · cases p2
        · cases hp
      · rename_i hn1 hn2
        simp only [Bool.and_eq_true] at hp
        obtain ⟨p1, p2⟩ := hp
        refine op_any hN hsim hi hrs hb hB hcx hf.1 hr1 (fun s e => absurd e (hn1 s)) (fun s x' e => absurd e (hn2 s x')) (fun _ _ t ht => ?_) fun β' Φ' κ' a' w' hr k1 k2 k3 => ?_
        · rw [ht] at p1; exact hpd.none p1
        · have := k3 hn1 hn2
          subst this
          exact ih (j + 1) xs _ _ β' Φ' _ H1 _ w' env' H' hdrop' hcxs p2 hf.2 hr hpd hrun hQ
    · cases hrun

/-- A region in the text's order. -/
theorem region_ok (hN : N ≤ 65535) (hsim : Sim P G call) {r : Option Nat} {n id : Nat} {ops : Array Oper} {Q : Exit → Act → World → Prop} (hb : B b) (hB : ∀ b', B b' → b' ≤ b) {pol : Nat → Option Pol} (hq : ∀ i f, pol i = some (.quiet f) → r = none ∧ Quiet P f) {as : List AOper}
    (hc : compOpers P pol ops 0 ops.toList = some as) (hp : pendOK [] as = true) (hf : fitsL N as = true) (hrs : RS P G N B ds β0 Φ0 H0 w0 (fun _ => none) β Φ env H a w) {env' : Env} {H' : Heap} (hrun : runOps G b call as env H = some (env', H'))
    (hQ : ∀ β' Φ' κ' a' w', RS P G N B ds β0 Φ0 H0 w0 κ' β' Φ' env' H' a' w' → Q .normal a' w') : (Code.region id ops false).wpIn (fen r) n P Q a w := by
  refine wpIn_region ?_
  rw [List.range_eq_range']
  have := seq_ok hN hsim (r := r) (n := n) (ops := ops) (Q := Q) hb hB hq ops.toList 0 as [] (fun _ => none) β Φ env H a w env' H' (by simp) hc hp hf hrs (fun _ => rfl) hrun hQ
  simpa using this

end
end Go.AM
