/- Shortening, in plain terms. -/
import Derived.Test.YtjcnlakifipmgaaGreatDoorWalkG
import Derived.Test.YtjcnlakifipmgaaGreatDoorWalkH
import Derived.Test.YtjcnlakifipmgaaGreatDoorWalkJ
set_option linter.unusedVariables false
set_option linter.unusedSimpArgs false
set_option linter.unnecessarySimpa false
set_option maxRecDepth 100000
/- Which instructions can come to be done. -/
namespace Go.AM.T
section
variable {X : Ctx}
inductive Rch (l : List Instr) : Nat → Prop
  | zero : Rch l 0
  | go {i : Nat} (h : i < l.length) : Rch l i → l[i].op ∈ goesL → Rch l l[i].a.toNat
  | next {i : Nat} (h : i < l.length) : Rch l i → l[i].op ∉ endsL → Rch l (i + 1)
theorem Rch.lt {l : List Instr} (hg : Good l) : ∀ {i}, Rch l i → i < l.length
  | _, .zero => hg.pos
  | _, .go h _ q => by have := hg.go _ h q; omega
  | _, .next h _ q => hg.next _ h q
/-- Marks that hold what can be reached, and are closed, are just what can be reached. -/
theorem closed_all {l : List Instr} (hg : Good l) {m : List Bool} (hm : m.length = l.length) (h0 : m[0]? = some true)
    (hc : ∀ i (h : i < l.length), m[i]? = some true → (l[i].op ∈ goesL → m[l[i].a.toNat]? = some true) ∧ (l[i].op ∉ endsL → m[i + 1]? = some true)) : ∀ {i}, Rch l i → m[i]? = some true
  | _, .zero => h0
  | _, .go h r q => (hc _ h (closed_all hg hm h0 hc r)).1 q
  | _, .next h r q => (hc _ h (closed_all hg hm h0 hc r)).2 q

theorem ins_ld {f : Nl} {l : List Instr} {k : Nat} (h : k < l.length) : (Instr.cellsL l).drop (k * 3) = l[k].cells ++ Instr.rest l k := Instr.cellsL_drop h
/-- The marks with which the search goes on. -/
structure Srch (l : List Instr) (m : List Bool) (s : List Int) : Prop where
  len : m.length = l.length
  rng : ∀ x ∈ s, 0 ≤ x ∧ x < l.length ∧ Rch l x.toNat
  mrk : ∀ i, m[i]? = some true → Rch l i
  cls : ∀ i (h : i < l.length), m[i]? = some true → (l[i].op ∈ goesL → m[l[i].a.toNat]? = some true ∨ l[i].a ∈ s) ∧ (l[i].op ∉ endsL → m[i + 1]? = some true ∨ ((i + 1 : Nat) : Int) ∈ s)
  zer : m[0]? = some true ∨ (0 : Int) ∈ s
def pushes (x : Instr) (i : Nat) : List Int := (if x.op ∈ goesL then [x.a] else []) ++ (if x.op ∈ endsL then [] else [((i + 1 : Nat) : Int)])
theorem Srch.skip {l : List Instr} {m : List Bool} {s : List Int} {i : Nat} (h : Srch l m (s ++ [(i : Int)])) (hm : m[i]? = some true) : Srch l m s := by
  refine ⟨h.len, fun x hx => h.rng x (by simp [hx]), h.mrk, fun j hj hjm => ?_, ?_⟩
  · obtain ⟨c1, c2⟩ := h.cls j hj hjm
    refine ⟨fun hg => ?_, fun he => ?_⟩
    · rcases c1 hg with c | c
      · exact .inl c
      · rcases List.mem_append.1 c with c | c
        · exact .inr c
        · left; have : l[j].a = (i : Int) := by simpa using c
          rw [this]; simpa using hm
    · rcases c2 he with c | c
      · exact .inl c
      · rcases List.mem_append.1 c with c | c
        · exact .inr c
        · left; have : ((j + 1 : Nat) : Int) = (i : Int) := by simpa using c
          have : j + 1 = i := by omega
          rw [this]; exact hm
  · rcases h.zer with c | c
    · exact .inl c
    · rcases List.mem_append.1 c with c | c
      · exact .inr c
      · left; have : (0 : Int) = (i : Int) := by simpa using c
        have : i = 0 := by omega
        rw [← this]; exact hm
theorem Srch.mark {l : List Instr} (hg : Good l) {m : List Bool} {s : List Int} {i : Nat} (hi : i < l.length) (h : Srch l m (s ++ [(i : Int)])) : Srch l (m.set i true) (s ++ pushes l[i] i) := by
  have hri : Rch l i := by simpa using (h.rng (i : Int) (by simp)).2.2
  have hset : ∀ j, (m.set i true)[j]? = some true ↔ (j = i ∨ m[j]? = some true) := fun j => by
    rw [List.getElem?_set]
    by_cases hj : i = j
    · subst hj; simp [h.len, hi]
    · rw [if_neg hj]; constructor
      · exact fun q => .inr q
      · rintro (q | q)
        · exact absurd q.symm hj
        · exact q
  refine ⟨by rw [List.length_set]; exact h.len, fun x hx => ?_, fun j hj => ?_, fun j hj hjm => ?_, ?_⟩
  · rcases List.mem_append.1 hx with hx | hx
    · exact h.rng x (by simp [hx])
    · unfold pushes at hx
      rcases List.mem_append.1 hx with hx | hx
      · split at hx
        · rename_i hgo
          obtain rfl : x = l[i].a := by simpa using hx
          obtain ⟨q1, q2⟩ := hg.go i hi hgo
          exact ⟨q1, q2, .go hi hri hgo⟩
        · simp at hx
      · split at hx
        · simp at hx
        · rename_i hen
          obtain rfl : x = ((i + 1 : Nat) : Int) := by simpa using hx
          have := hg.next i hi hen
          exact ⟨by omega, by omega, by rw [Int.toNat_natCast]; exact .next hi hri hen⟩
  · rcases (hset j).1 hj with rfl | q
    · exact hri
    · exact h.mrk j q
  · rcases (hset j).1 hjm with rfl | q
    · refine ⟨fun q => .inr (by unfold pushes; simp [q]), fun q => .inr (by unfold pushes; simp [q])⟩
    · obtain ⟨c1, c2⟩ := h.cls j hj q
      refine ⟨fun q => ?_, fun q => ?_⟩
      · rcases c1 q with c | c
        · exact .inl ((hset _).2 (.inr c))
        · rcases List.mem_append.1 c with c | c
          · exact .inr (by simp [c])
          · left; have : l[j].a = (i : Int) := by simpa using c
            rw [hset, this]; left; simp
      · rcases c2 q with c | c
        · exact .inl ((hset _).2 (.inr c))
        · rcases List.mem_append.1 c with c | c
          · exact .inr (by simp only [List.mem_append]; exact .inl c)
          · left; have : ((j + 1 : Nat) : Int) = (i : Int) := by simpa using c
            rw [hset]; left; omega
  · rcases h.zer with c | c
    · exact .inl ((hset _).2 (.inr c))
    · rcases List.mem_append.1 c with c | c
      · exact .inr (by simp [c])
      · left; have : (0 : Int) = (i : Int) := by simpa using c
        rw [hset]; left; omega
theorem Srch.done {l : List Instr} (hg : Good l) {m : List Bool} (h : Srch l m []) : m.length = l.length ∧ ∀ i, m[i]? = some true ↔ Rch l i := by
  refine ⟨h.len, fun i => ⟨h.mrk i, fun r => ?_⟩⟩
  refine closed_all hg h.len (by rcases h.zer with c | c; exact c; simp at c) (fun j hj hjm => ?_) r
  obtain ⟨c1, c2⟩ := h.cls j hj hjm
  exact ⟨fun q => by rcases c1 q with c | c; exact c; simp at c, fun q => by rcases c2 q with c | c; exact c; simp at c⟩
end
end Go.AM.T
/- Which instructions can come to be done: the program's search. -/
namespace Go.AM.T
section
variable {X : Ctx}
theorem peep_reach (hX : CX X) (H : Heap) (f : Nl) (l : List Instr) (hg : Good l) :
    ∃ d H', callΩ X (.func n_peep_reach [] []) [SL f (Instr.cellsL l) l.length] H = some (d, H') ∧ ((∃ m : List Bool, d = .fsl (boolsD m) l.length ∧ m.length = l.length ∧ ∀ i, m[i]? = some true ↔ Rch l i) ∧ H' = H) := by
  refine p_peep_reach hX (by simp) ?_
  have hpos := hg.pos
  have htop := hg.top
  have hm : l.length ≤ maxBytes := by unfold maxBytes; omega
  simp [a_peep_reach_B, Env.ofArgs, List.nil_append, List.append_nil, hm, storable, copies_bool]
  have s0 : Srch l (List.replicate l.length false) [0] := ⟨by simp, fun x hx => by
    obtain rfl : x = 0 := by simpa using hx
    exact ⟨by omega, by omega, .zero⟩, fun i hi => by simp [List.getElem?_replicate] at hi, fun i hi q => by simp [List.getElem?_replicate] at q, .inr (by simp)⟩
  refine YS_ind (fun (q : List Bool × List Int × List Int) e H' => H' = H ++ [.row 1 (boolsD q.1) false, .row 1 (intsD (q.2.1 ++ q.2.2)) false] ∧ Srch l q.1 q.2.1 ∧ (q.2.1 ++ q.2.2).length ≤ 1 + 2 * q.1.count true ∧
    e.get 0 = SL f (Instr.cellsL l) l.length ∧ e.get 3 = .osl H.length l.length 0 l.length ∧ e.get 4 = .osl (H.length + 1) (q.2.1 ++ q.2.2).length 0 q.2.1.length) (fun q => 3 * q.1.count false + q.2.1.length) ?_ (List.replicate l.length false, [0], []) (by simp; exact s0)
  rintro ⟨m, s, rest⟩ e H' ⟨rfl, hs, hb, g0, g3, g4⟩ L ih
  simp only at *
  have hml := hs.len
  have hct : m.count true ≤ l.length := by rw [← hml]; exact List.count_le_length
  rcases List.eq_nil_or_concat s with rfl | ⟨s', x, rfl⟩
  · obtain ⟨q1, q2⟩ := hs.done hg
    have ht : List.take l.length (boolsD m) = boolsD m := List.take_of_length_le (by simp [q1])
    simp [a_peep_reach_L0, g0, g3, g4, FinR, FinP, finish, fz_osl, q1, ht]
    exact ⟨m, rfl, q1, q2⟩
  · rw [List.concat_eq_append] at *
    obtain ⟨x0, x1, hrx⟩ := hs.rng x (by simp)
    obtain ⟨i, rfl⟩ : ∃ i : Nat, x = i := ⟨x.toNat, by omega⟩
    have hi : i < l.length := by omega
    have hi' : i < m.length := by omega
    have e1 : IntKind.i64.wrap ((s'.length : Int) + 1 - 1) = s'.length := by rw [wrap_i64 (by omega) (by simp only [List.length_append] at hb; omega)]; omega
    have e2 : (0 : Int) < (s'.length : Int) + 1 := by omega
    have e3 : (s'.length : Int) < (s'.length : Int) + 1 := by omega
    have e4 : (s'.length : Int) ≤ (s'.length : Int) + 1 := by omega
    have hld : loadD false 1 (List.drop s'.length (intsD (s' ++ [(i : Int)] ++ rest))) = some (.int .i64 i) := by
      have := loadD_map (f := D.int .i64) (l := s' ++ [(i : Int)] ++ rest) (k := s'.length) (by simp)
      simpa using this
    simp at hld e1
    have hmi : loadD false 1 (List.drop i (boolsD m)) = some (.bool m[i]) := loadD_map hi'
    have hil : ¬ l.length ≤ i := by omega
    by_cases hmk : m[i] = true
    · rw [hmk] at hmi
      simp [a_peep_reach_L0, g0, g3, g4, e1, e2, e3, e4, hld, sliceD, natArg, hil, hi, hml, hmi]
      refine ih (m, s', (i : Int) :: rest) _ _ (by simp) ?_
      simp [g0, g3]
      refine ⟨hs.skip (by rw [List.getElem?_eq_getElem hi', hmk]), ?_⟩
      simp only [List.length_append, List.length_cons, List.length_nil] at hb; omega
    · have hm0 : m[i] = false := by simpa using hmk
      rw [hm0] at hmi
      have hsb := set_bool (m := m) (i := i) (x := true) hi'
      have hb2 := hb
      simp only [List.length_append, List.length_cons, List.length_nil] at hb2
      have hct2 : (m.set i true).count true = m.count true + 1 := by
        rw [List.count_set hi']; simp [hm0]
      have hct3 : (m.set i true).count false = m.count false - 1 := by
        rw [List.count_set hi']; simp [hm0]
      have hct4 : 0 < m.count false := by
        rw [List.count_pos_iff]; rw [← hm0]; exact List.getElem_mem hi'
      have hct5 : (m.set i true).count true ≤ l.length := by rw [← hml]; simpa using List.count_le_length (l := m.set i true) (a := true)
      have hnext := hs.mark hg hi
      have hi1 : i + 1 ≤ l.length := by omega
      have w1 : IntKind.i64.wrap ((i : Int) + 1) = (i : Int) + 1 := wrap_i64 (by omega) (by omega)
      have hgo := fun H => code_Goes hX l[i].op H
      have hen := fun H => code_Ends hX l[i].op H
      have ap1 (M : List D) (y : Int) := append1 (b := H.length) (H := H ++ [.row 1 M false, .row 1 (intsD (s' ++ (i : Int) :: rest)) false]) (id := H.length + 1) (s := s') (rest := (i : Int) :: rest) (y := y) (by simp) (by simp; omega)
      have ap2 (M : List D) (x y : Int) := append1 (b := H.length) (H := H ++ [.row 1 M false, .row 1 (intsD (s' ++ [x] ++ rest)) false]) (id := H.length + 1) (s := s' ++ [x]) (rest := rest) (y := y) (by simp) (by simp; omega)
      simp at ap1 ap2
      by_cases c1 : l[i].op ∈ goesL
      · by_cases c2 : l[i].op ∈ endsL
        · simp [a_peep_reach_L0, g0, g3, g4, e1, e2, e3, e4, hld, sliceD, natArg, hil, hi, hi1, hml, hmi, hsb, Instr.cellsL_drop hi, hgo, hen, c1, c2, w1, elems, ap1, ap2]
          refine ih (m.set i true, s' ++ [l[i].a], rest) _ _ ?_ ?_
          · simp; omega
          simp [g0, g3]
          simp [pushes, c1, c2] at hnext
          exact ⟨hnext, by omega⟩
        · simp [a_peep_reach_L0, g0, g3, g4, e1, e2, e3, e4, hld, sliceD, natArg, hil, hi, hi1, hml, hmi, hsb, Instr.cellsL_drop hi, hgo, hen, c1, c2, w1, elems, ap1, ap2]
          refine ih (m.set i true, s' ++ [l[i].a] ++ [((i + 1 : Nat) : Int)], rest.tail) _ _ ?_ ?_
          · simp; omega
          simp [g0, g3]
          simp [pushes, c1, c2] at hnext
          exact ⟨hnext, by omega⟩
      · by_cases c2 : l[i].op ∈ endsL
        · simp [a_peep_reach_L0, g0, g3, g4, e1, e2, e3, e4, hld, sliceD, natArg, hil, hi, hi1, hml, hmi, hsb, Instr.cellsL_drop hi, hgo, hen, c1, c2, w1, elems]
          refine ih (m.set i true, s', (i : Int) :: rest) _ _ ?_ ?_
          · simp; omega
          simp [g0, g3]
          simp [pushes, c1, c2] at hnext
          exact ⟨hnext, by omega⟩
        · simp [a_peep_reach_L0, g0, g3, g4, e1, e2, e3, e4, hld, sliceD, natArg, hil, hi, hi1, hml, hmi, hsb, Instr.cellsL_drop hi, hgo, hen, c1, c2, w1, elems, ap1]
          refine ih (m.set i true, s' ++ [((i + 1 : Nat) : Int)], rest) _ _ ?_ ?_
          · simp; omega
          simp [g0, g3]
          simp [pushes, c1, c2] at hnext
          exact ⟨hnext, by omega⟩
end
end Go.AM.T
/- Shortening, in plain terms. -/
namespace Go.AM.T
section
variable {X : Ctx}
/-- How many of the first are so. -/
def cntP (p : Nat → Bool) : Nat → Nat
  | 0 => 0
  | i + 1 => cntP p i + if p i then 1 else 0
def mvI (to : Nat → Nat) (x : Instr) : Instr := if x.op ∈ goesL then .mk x.op (to x.a.toNat) x.b else x
def keepF (to : Nat → Nat) (p : Nat → Bool) : Nat → List Instr → List Instr
  | _, [] => []
  | i, x :: r => if p i then mvI to x :: keepF to p (i + 1) r else keepF to p (i + 1) r
def keepS (l : List Instr) (p : Nat → Bool) : List Instr := keepF (cntP p) p 0 l
theorem mvI_op (to : Nat → Nat) (x : Instr) : (mvI to x).op = x.op := by unfold mvI; split <;> rfl
theorem mvI_b (to : Nat → Nat) (x : Instr) : (mvI to x).b = x.b := by unfold mvI; split <;> rfl
theorem mvI_go {to : Nat → Nat} {x : Instr} (h : x.op ∈ goesL) : (mvI to x).a = to x.a.toNat := by unfold mvI; rw [if_pos h]; rfl
theorem mvI_no {to : Nat → Nat} {x : Instr} (h : x.op ∉ goesL) : mvI to x = x := by unfold mvI; rw [if_neg h]
section
variable {p : Nat → Bool}
theorem cntP_mono {i j : Nat} (h : i ≤ j) : cntP p i ≤ cntP p j := by
  induction j with
  | zero => obtain rfl : i = 0 := by omega
            exact Nat.le_refl _
  | succ j ih =>
    rcases Nat.lt_or_eq_of_le h with q | rfl
    · have := ih (by omega); simp only [cntP]; omega
    · exact Nat.le_refl _
theorem cntP_lt {i j : Nat} (h : i < j) (hp : p i = true) : cntP p i < cntP p j := by
  have := cntP_mono (p := p) (i := i + 1) (j := j) h
  simp only [cntP, hp, if_true] at this
  omega
theorem cntP_le (i : Nat) : cntP p i ≤ i := by
  induction i with
  | zero => exact Nat.le_refl _
  | succ i ih => simp only [cntP]; split <;> omega
theorem cntP_full {n : Nat} (h : cntP p n = n) : ∀ i, i < n → p i = true ∧ cntP p i = i := by
  induction n with
  | zero => intro i hi; omega
  | succ n ih =>
    simp only [cntP] at h
    have := cntP_le (p := p) n
    split at h
    · rename_i hp
      intro i hi
      rcases Nat.lt_succ_iff_lt_or_eq.1 hi with q | rfl
      · exact ih (by omega) i q
      · exact ⟨hp, by omega⟩
    · omega
theorem keepF_len (to : Nat → Nat) : ∀ (l : List Instr) (i : Nat), (keepF to p i l).length + cntP p i = cntP p (i + l.length)
  | [], i => by simp [keepF]
  | x :: r, i => by
    have ih := keepF_len to r (i + 1)
    rw [show i + (x :: r).length = i + 1 + r.length by simp; omega, ← ih]
    simp only [keepF, cntP]
    split <;> simp <;> omega
theorem keepF_get (to : Nat → Nat) : ∀ (l : List Instr) (i j : Nat) (hj : j < l.length), p (i + j) = true → (keepF to p i l)[cntP p (i + j) - cntP p i]? = some (mvI to l[j])
  | [], _, _, hj, _ => by simp at hj
  | x :: r, i, 0, _, hp => by
    have hp' : p i = true := hp
    simp [keepF, hp']
  | x :: r, i, j + 1, hj, hp => by
    have hp' : p (i + 1 + j) = true := by rw [show i + 1 + j = i + (j + 1) by omega]; exact hp
    have ih := keepF_get to r (i + 1) j (by simpa using hj) hp'
    rw [show i + 1 + j = i + (j + 1) by omega] at ih
    have hm := cntP_mono (p := p) (i := i + 1) (j := i + (j + 1)) (by omega)
    have e1 : cntP p (i + 1) = cntP p i + if p i then 1 else 0 := rfl
    generalize cntP p (i + (j + 1)) = c at ih hm ⊢
    rw [e1] at ih hm
    simp only [keepF]
    split
    · rename_i h0
      simp only [h0, if_true] at ih hm
      rw [show c - cntP p i = (c - (cntP p i + 1)) + 1 by omega, List.getElem?_cons_succ, ih]; rfl
    · rename_i h0
      have h0' : p i = false := by simpa using h0
      simp only [h0'] at ih
      simpa using ih
theorem keepF_mem (to : Nat → Nat) : ∀ (l : List Instr) (i : Nat) (y : Instr), y ∈ keepF to p i l → ∃ x ∈ l, y = mvI to x
  | [], _, _, h => by simp [keepF] at h
  | x :: r, i, y, h => by
    simp only [keepF] at h
    split at h
    · rcases List.mem_cons.1 h with rfl | h
      · exact ⟨x, by simp, rfl⟩
      · obtain ⟨z, hz, e⟩ := keepF_mem to r _ y h
        exact ⟨z, by simp [hz], e⟩
    · obtain ⟨z, hz, e⟩ := keepF_mem to r _ y h
      exact ⟨z, by simp [hz], e⟩
theorem cntP_onto {n k : Nat} (h : k < cntP p n) : ∃ j, j < n ∧ p j = true ∧ cntP p j = k := by
  induction n with
  | zero => simp [cntP] at h
  | succ n ih =>
    by_cases q : k < cntP p n
    · obtain ⟨j, h1, h2⟩ := ih q; exact ⟨j, by omega, h2⟩
    · simp only [cntP] at h
      split at h
      · rename_i hp; exact ⟨n, by omega, hp, by omega⟩
      · omega
end
section
variable {l : List Instr} {p : Nat → Bool}
theorem keepS_len : (keepS l p).length = cntP p l.length := by
  have := keepF_len (p := p) (cntP p) l 0
  simpa [keepS, cntP] using this
theorem keepS_get {j : Nat} (hj : j < l.length) (hp : p j = true) : (keepS l p)[cntP p j]? = some (mvI (cntP p) l[j]) := by
  have := keepF_get (p := p) (cntP p) l 0 j hj (by simpa using hp)
  simpa [keepS, cntP] using this
theorem keepS_at {k : Nat} (h : k < (keepS l p).length) : ∃ (j : Nat) (hj : j < l.length), p j = true ∧ cntP p j = k ∧ (keepS l p)[k] = mvI (cntP p) l[j] := by
  obtain ⟨j, h1, h2, h3⟩ := cntP_onto (p := p) (n := l.length) (by rw [← keepS_len]; exact h)
  have := keepS_get h1 h2
  rw [h3, List.getElem?_eq_getElem h] at this
  exact ⟨j, h1, h2, h3, Option.some.inj this⟩
theorem keepS_good (hg : Good l) (ha : ∀ i (h : i < l.length), p i = true → l[i].op ∈ goesL → cntP p l[i].a.toNat < cntP p l.length)
    (hb : ∀ i (h : i < l.length), p i = true → l[i].op ∉ endsL → ∃ j, i < j ∧ j < l.length ∧ p j = true) (hc : ∃ i, i < l.length ∧ p i = true) : Good (keepS l p) := by
  refine ⟨?_, ?_, fun k hk => ?_, fun k hk hgo => ?_, fun k hk he => ?_⟩
  · obtain ⟨i, h1, h2⟩ := hc
    rw [keepS_len]
    have := cntP_lt h1 h2
    omega
  · rw [keepS_len]
    have := cntP_le (p := p) l.length
    have := hg.top
    omega
  · obtain ⟨j, hj, h1, h2, h3⟩ := keepS_at hk
    rw [h3, mvI_op]; exact hg.ops j hj
  · obtain ⟨j, hj, h1, h2, h3⟩ := keepS_at hk
    rw [h3, mvI_op] at hgo
    have := ha j hj h1 hgo
    have hl := keepS_len (l := l) (p := p)
    rw [h3, mvI_go hgo]; omega
  · obtain ⟨j, hj, h1, h2, h3⟩ := keepS_at hk
    rw [h3, mvI_op] at he
    obtain ⟨j', q1, q2, q3⟩ := hb j hj h1 he
    have q4 := cntP_lt q1 h1
    have q5 := cntP_lt q2 q3
    rw [keepS_len]; omega
theorem keepS_id (hg : Good l) (h : ∀ i, i < l.length → p i = true) (hc : cntP p l.length = l.length) : keepS l p = l := by
  have hf := cntP_full hc
  refine List.ext_getElem (by rw [keepS_len, hc]) fun i h1 h2 => ?_
  have h3 := keepS_get h2 (h i h2)
  rw [(hf i h2).2, List.getElem?_eq_getElem h1] at h3
  rw [Option.some.inj h3]
  by_cases q : l[i].op ∈ goesL
  · have := hg.go i h2 q
    refine Instr.ext_all ⟨mvI_op _ _, ?_, mvI_b _ _⟩
    rw [mvI_go q, (hf l[i].a.toNat (by omega)).2]; omega
  · exact mvI_no q
end
noncomputable instance (l : List Instr) (i : Nat) : Decidable (Rch l i) := Classical.propDecidable _
noncomputable def rchB (l : List Instr) (i : Nat) : Bool := decide (Rch l i)
def jnx (l : List Instr) (i : Nat) : Bool := match l[i]? with
  | some x => !(decide (x.op = 5) && decide (x.a = (i : Int) + 1))
  | none => true
noncomputable def liveS (l : List Instr) : List Instr := keepS l (rchB l)
def hopS (l : List Instr) : List Instr := keepS l (jnx l)
/-- Without what can't be done, and without jumps to the next one. -/
noncomputable def onceS (l : List Instr) : List Instr := hopS (liveS (thr l))
section
variable {l : List Instr}
theorem live_good (hg : Good l) : Good (liveS l) := by
  refine keepS_good hg (fun i h hp hgo => ?_) (fun i h hp he => ?_) ⟨0, hg.pos, ?_⟩
  · have hr : Rch l i := of_decide_eq_true hp
    have h1 := hg.go i h hgo
    exact cntP_lt (by omega) (decide_eq_true (Rch.go h hr hgo))
  · have hr : Rch l i := of_decide_eq_true hp
    exact ⟨i + 1, by omega, hg.next i h he, decide_eq_true (Rch.next h hr he)⟩
  · exact decide_eq_true Rch.zero
theorem jnx_last (hg : Good l) : jnx l (l.length - 1) = true := by
  have hp := hg.pos
  unfold jnx
  rw [List.getElem?_eq_getElem (by omega)]
  simp only [Bool.not_eq_true', Bool.and_eq_false_iff, decide_eq_false_iff_not]
  by_cases q : (l[l.length - 1]'(by omega)).op = 5
  · right
    have := hg.go (l.length - 1) (by omega) (by rw [q]; simp [goesL])
    omega
  · exact .inl q
theorem hop_good (hg : Good l) : Good (hopS l) := by
  have hp := hg.pos
  have hj := jnx_last hg
  refine keepS_good hg (fun i h _ hgo => ?_) (fun i h _ he => ?_) ⟨l.length - 1, by omega, hj⟩
  · have h1 := hg.go i h hgo
    have h2 := cntP_mono (p := jnx l) (i := l[i].a.toNat) (j := l.length - 1) (by omega)
    have h3 := cntP_lt (p := jnx l) (i := l.length - 1) (j := l.length) (by omega) hj
    omega
  · have := hg.next i h he
    exact ⟨l.length - 1, by omega, by omega, hj⟩
theorem once_good (hg : Good l) : Good (onceS l) := hop_good (live_good hg.thr)
theorem once_le (hg : Good l) : (onceS l).length ≤ l.length := by
  unfold onceS hopS liveS
  rw [keepS_len]
  refine Nat.le_trans (cntP_le _) ?_
  rw [keepS_len]
  refine Nat.le_trans (cntP_le _) ?_
  rw [thr_len]; exact Nat.le_refl _
theorem once_same (hg : Good l) (h : (onceS l).length = l.length) : onceS l = thr l ∧ (∀ i, i < l.length → Rch (thr l) i) ∧ ∀ i, i < l.length → jnx (thr l) i = true := by
  unfold onceS hopS at h
  rw [keepS_len] at h
  have h1 := cntP_le (p := jnx (liveS (thr l))) (liveS (thr l)).length
  have h2 : (liveS (thr l)).length ≤ l.length := by
    unfold liveS; rw [keepS_len, ← thr_len l]; exact cntP_le _
  have h3 : cntP (rchB (thr l)) (thr l).length = (thr l).length := by
    have : (liveS (thr l)).length = l.length := by omega
    unfold liveS at this
    rw [keepS_len] at this
    rw [this, thr_len]
  have h4 := cntP_full h3
  have h5 : liveS (thr l) = thr l := keepS_id hg.thr (fun i hi => (h4 i hi).1) h3
  rw [h5] at h
  have h6 : cntP (jnx (thr l)) (thr l).length = (thr l).length := by rw [h, thr_len]
  have h7 := cntP_full h6
  refine ⟨?_, fun i hi => of_decide_eq_true (h4 i (by rw [thr_len]; exact hi)).1, fun i hi => (h7 i (by rw [thr_len]; exact hi)).1⟩
  unfold onceS hopS
  rw [h5]
  exact keepS_id hg.thr (fun i hi => (h7 i hi).1) h6
theorem cntP_all {p : Nat → Bool} {n : Nat} (h : ∀ i, i < n → p i = true) : cntP p n = n := by
  induction n with
  | zero => rfl
  | succ n ih => simp only [cntP, ih fun i hi => h i (by omega), h n (by omega), if_true]
theorem once_stay (hg : Good l) (h1 : thr l = l) (h2 : ∀ i, i < l.length → Rch l i) (h3 : ∀ i, i < l.length → jnx l i = true) : onceS l = l := by
  have e2 : ∀ i, i < l.length → rchB l i = true := fun i hi => decide_eq_true (h2 i hi)
  unfold onceS hopS liveS
  rw [h1, keepS_id hg e2 (cntP_all e2), keepS_id hg h3 (cntP_all h3)]
theorem once_next (hg : Good l) (h : (onceS l).length = l.length) : onceS (onceS l) = onceS l := by
  obtain ⟨e, h1, h2⟩ := once_same hg h
  rw [e]
  exact once_stay hg.thr (thr_thr hg) (fun i hi => h1 i (by rwa [thr_len] at hi)) (fun i hi => h2 i (by rwa [thr_len] at hi))
theorem once_fix (hg : Good l) (h : onceS l = l) : thr l = l ∧ (∀ i, i < l.length → Rch l i) ∧ ∀ i, i < l.length → jnx l i = true := by
  obtain ⟨e, h1, h2⟩ := once_same hg (by rw [h])
  have e' : thr l = l := e.symm.trans h
  rw [e'] at h1 h2
  exact ⟨e', h1, h2⟩
end
end
end Go.AM.T
/- What is shortened may be; shortened again it stays. -/
namespace Go.AM.T
section
variable {X : Ctx}
theorem lim_snd (op : Int) (n c : Nat) : (limS op n c).2 = (limS op 0 0).2 := by
  unfold limS
  by_cases h1 : op = 1
  · simp [h1]
  · by_cases h2 : op = 28
    · simp [h2]
    · by_cases h3 : op ∈ goesL
      · simp [h1, h2, h3]
      · simp [h1, h2, h3]
theorem mayS_free {op a b : Int} {n c : Nat} (h : op ∉ goesL) (h1 : op ≠ 1) : mayS op a b n c = mayS op a b 0 0 := by
  have h28 : ¬ op = 28 := fun q => h (by rw [q]; simp [goesL])
  unfold mayS limS
  simp only [if_neg h1, if_neg h28, if_neg h]
def Fit (x : Instr) : Prop := (0 ≤ x.op ∧ x.op < 46) ∧ (x.op ∈ goesL → 0 ≤ x.b ∧ x.b ≤ (limS x.op 0 0).2) ∧ (x.op ∉ goesL → x.op ≠ 1 → mayS x.op x.a x.b 0 0 = true) ∧ (x.op = 1 → x.b = 0)
def FitC (n : Nat) (l : List Instr) : Prop := ∀ x ∈ l, Fit x ∧ (x.op = 1 → 0 ≤ x.a ∧ x.a < n)
theorem one_no {x : Instr} (h : x.op = 1) : x.op ∉ goesL := by rw [h]; simp [goesL]
theorem mayS_one {a b : Int} {n c : Nat} : mayS 1 a b n c = true ↔ (0 ≤ a ∧ a < c) ∧ b = 0 := by
  unfold mayS limS
  simp
  omega
theorem fit_of {c : Code} (h : chkC c = 0) : FitC c.consts.length c.instrs := by
  intro x hx
  obtain ⟨h1, h2⟩ := (chkC_zero.1 h).2.2.2.1 x hx
  refine ⟨⟨h1, fun q => ?_, fun q q1 => ?_, fun q => ?_⟩, fun q => ?_⟩
  · rw [mayS_goes q] at h2
    simp only [Bool.and_eq_true, decide_eq_true_eq] at h2
    rw [lim_snd] at h2
    exact h2.2
  · rw [← mayS_free q q1]; exact h2
  · rw [q] at h2; exact (mayS_one.1 h2).2
  · rw [q] at h2; exact (mayS_one.1 h2).1
theorem last_ends {l : List Instr} (hg : Good l) : lastOp l ∈ endsL := by
  have hp := hg.pos
  rw [lastOp_eq hp]
  by_cases q : (l[l.length - 1]'(by omega)).op ∈ endsL
  · exact q
  · have := hg.next _ _ q
    omega
theorem chk_of {f g : Nl} {l : List Instr} {ks : List Val} (hg : Good l) (hf : FitC ks.length l) (hk : ks.length ≤ 4096) (hv : ∀ v ∈ ks, chkS v = 0) : chkC (.mk f l g ks) = 0 := by
  rw [chkC_zero]
  refine ⟨hg.top, hk, hg.pos, ?_, hv, last_ends hg⟩
  show ∀ x ∈ l, (0 ≤ x.op ∧ x.op < 46) ∧ mayS x.op x.a x.b l.length ks.length = true
  intro x hx
  obtain ⟨⟨h1, h2, h3, h4⟩, h5⟩ := hf x hx
  refine ⟨h1, ?_⟩
  by_cases q : x.op ∈ goesL
  · rw [mayS_goes q]
    obtain ⟨i, hi, e⟩ := List.getElem_of_mem hx
    have := hg.go i hi (by rw [e]; exact q)
    rw [e] at this
    have := h2 q
    simp only [Bool.and_eq_true, decide_eq_true_eq]
    rw [lim_snd]
    omega
  · by_cases q1 : x.op = 1
    · rw [q1, mayS_one]; exact ⟨h5 q1, h4 q1⟩
    · rw [mayS_free q q1]; exact h3 q q1
section
variable {l : List Instr} {n : Nat}
theorem FitC.thr (h : FitC n l) : FitC n (thr l) := by
  intro x hx
  obtain ⟨y, hy, rfl⟩ := List.mem_map.1 hx
  obtain ⟨⟨h1, h2, h3, h4⟩, h5⟩ := h y hy
  by_cases q : y.op ∈ goesL
  · unfold Fit
    rw [thrI_op, thrI_b]
    exact ⟨⟨h1, h2, fun w => absurd q w, h4⟩, fun w => absurd q (one_no w)⟩
  · rw [thrI_no q]; exact ⟨⟨h1, h2, h3, h4⟩, h5⟩
theorem FitC.keep (h : FitC n l) (p : Nat → Bool) : FitC n (keepS l p) := by
  intro x hx
  obtain ⟨y, hy, rfl⟩ := keepF_mem _ _ _ _ hx
  obtain ⟨⟨h1, h2, h3, h4⟩, h5⟩ := h y hy
  by_cases q : y.op ∈ goesL
  · unfold Fit
    rw [mvI_op, mvI_b]
    exact ⟨⟨h1, h2, fun w => absurd q w, h4⟩, fun w => absurd q (one_no w)⟩
  · rw [mvI_no q]; exact ⟨⟨h1, h2, h3, h4⟩, h5⟩
theorem FitC.once (h : FitC n l) : FitC n (onceS l) := (h.thr.keep _).keep _
end
/-! Pooled. -/
theorem poolG_at (cs : List Val) : ∀ (l : List Instr) (ws : List Val) (i : Nat) (h : i < l.length), ∃ y, (poolG cs l ws).1[i]? = some y ∧ y.op = l[i].op ∧ y.b = l[i].b ∧ (l[i].op ≠ 1 → y = l[i]) ∧ (l[i].op = 1 → 0 ≤ y.a ∧ y.a < (poolG cs l ws).2.length)
  | [], _, _, h => by simp at h
  | x :: r, ws, i, h => by
    simp only [poolG]
    by_cases h1 : x.op = 1
    · rw [if_pos h1]
      cases i with
      | zero =>
        refine ⟨_, rfl, rfl, rfl, fun q => absurd h1 q, fun _ => ⟨?_, ?_⟩⟩
        · show (0 : Int) ≤ (ix _ _ : Nat); omega
        · obtain ⟨t, e⟩ := poolG_pre cs r (addW (cAt cs x.a) ws)
          obtain ⟨q, _⟩ := addW_ix (cAt cs x.a) ws
          show ((ix _ _ : Nat) : Int) < _
          rw [e, List.length_append]; omega
      | succ i => exact poolG_at cs r _ i (by simpa using h)
    · rw [if_neg h1]
      cases i with
      | zero => exact ⟨_, rfl, rfl, rfl, fun _ => rfl, fun q => absurd q h1⟩
      | succ i => exact poolG_at cs r ws i (by simpa using h)
/-- The same but for which constants are named. -/
structure Lk (l l' : List Instr) : Prop where
  len : l'.length = l.length
  op : ∀ i (h : i < l.length) (h' : i < l'.length), l'[i].op = l[i].op
  eq : ∀ i (h : i < l.length) (h' : i < l'.length), l[i].op ≠ 1 → l'[i] = l[i]
theorem poolG_lk (cs : List Val) (l : List Instr) (ws : List Val) : Lk l (poolG cs l ws).1 := by
  refine ⟨poolG_len _ _ _, fun i h h' => ?_, fun i h h' q => ?_⟩
  · obtain ⟨y, e, h1, _⟩ := poolG_at cs l ws i h
    rw [List.getElem?_eq_getElem h'] at e
    rw [Option.some.inj e]; exact h1
  · obtain ⟨y, e, _, _, h1, _⟩ := poolG_at cs l ws i h
    rw [List.getElem?_eq_getElem h'] at e
    rw [Option.some.inj e]; exact h1 q
section
variable {l l' : List Instr}
theorem Lk.go (h : Lk l l') {i : Nat} (hi : i < l.length) (hi' : i < l'.length) (hg : l'[i].op ∈ goesL) : l'[i] = l[i] :=
  h.eq i hi hi' fun q => by rw [h.op i hi hi', q] at hg; simp [goesL] at hg
theorem Lk.good (h : Lk l l') (hg : Good l) : Good l' := by
  have hl := h.len
  refine ⟨by rw [hl]; exact hg.pos, by rw [hl]; exact hg.top, fun i hi => ?_, fun i hi q => ?_, fun i hi q => ?_⟩
  · rw [h.op i (by omega) hi]; exact hg.ops i (by omega)
  · have e := h.go (by omega) hi q
    rw [e] at q ⊢
    have := hg.go i (by omega) q
    omega
  · rw [h.op i (by omega) hi] at q
    have := hg.next i (by omega) q
    omega
theorem Lk.land (h : Lk l l') (m : List Bool) (i : Nat) : landS l' m i = landS l m i := by
  have hl := h.len
  induction m, i using landS.induct l with
  | case1 m i h1 h2 ih =>
    have h1' : i < l'.length ∧ i < m.length := ⟨by omega, h1.2⟩
    have e : l'[i] = l[i] := h.eq i h1.1 h1'.1 (by rw [h2.1]; omega)
    rw [landS, landS, dif_pos h1, dif_pos h1', if_pos h2, if_pos (by rw [e]; exact h2), e]
    exact ih
  | case2 m i h1 h2 =>
    have h1' : i < l'.length ∧ i < m.length := ⟨by omega, h1.2⟩
    rw [landS, landS, dif_pos h1, dif_pos h1', if_neg h2, if_neg]
    rw [h.op i h1.1 h1'.1]; exact h2
  | case3 m i h1 =>
    rw [landS, landS, dif_neg h1, dif_neg]
    rw [hl]; exact h1
theorem Lk.thr (h : Lk l l') (ht : thr l = l) : T.thr l' = l' := by
  have hl := h.len
  refine List.ext_getElem (thr_len _) fun i h1 h2 => ?_
  rw [thr_get]
  have hi : i < l.length := by omega
  by_cases q : l'[i].op ∈ goesL
  · have e := h.go hi h2 q
    rw [e] at q ⊢
    have e2 : (T.thr l)[i]'(by rw [thr_len]; exact hi) = l[i] := by simp only [ht]
    rw [thr_get] at e2
    conv => rhs; rw [← e2]
    refine Instr.ext_all ⟨by rw [thrI_op, thrI_op], ?_, by rw [thrI_b, thrI_b]⟩
    rw [thrI_go q, thrI_go q, h.land, show noM l' = noM l by simp [noM, hl]]
  · rw [thrI_no q]
theorem Lk.rch (h : Lk l l') {i : Nat} (hr : Rch l i) : Rch l' i := by
  induction hr with
  | zero => exact .zero
  | go hi _ q ih =>
    have hi' := hi
    rw [← h.len] at hi'
    have e := h.eq _ hi hi' (fun w => one_no w q)
    have := Rch.go hi' ih (by rw [e]; exact q)
    rw [e] at this
    exact this
  | next hi _ q ih =>
    have hi' := hi
    rw [← h.len] at hi'
    exact Rch.next hi' ih (by rw [h.op _ hi hi']; exact q)
theorem Lk.jn (h : Lk l l') {i : Nat} (hi : i < l.length) (hj : jnx l i = true) : jnx l' i = true := by
  have hi' := hi
  rw [← h.len] at hi'
  unfold jnx at hj ⊢
  rw [List.getElem?_eq_getElem hi] at hj
  rw [List.getElem?_eq_getElem hi']
  simp only at hj ⊢
  by_cases q : l[i].op = 1
  · rw [h.op i hi hi', q]; simp
  · rw [h.eq i hi hi' q]; exact hj
theorem Lk.stay (h : Lk l l') (hg : Good l) (ho : onceS l = l) : onceS l' = l' ∧ (∀ i, i < l'.length → Rch l' i) ∧ ∀ i, i < l'.length → jnx l' i = true := by
  obtain ⟨h1, h2, h3⟩ := once_fix hg ho
  have hl := h.len
  have r1 : ∀ i, i < l'.length → Rch l' i := fun i hi => h.rch (h2 i (by omega))
  have r2 : ∀ i, i < l'.length → jnx l' i = true := fun i hi => h.jn (by omega) (h3 i (by omega))
  exact ⟨once_stay (h.good hg) (h.thr h1) r1 r2, r1, r2⟩
end
theorem ix_congr {v v2 : Val} {u u2 : List Val} (hv : nrm v2 = nrm v) (hu : u2.map nrm = u.map nrm) : ix v2 u2 = ix v u := by
  have hl : u2.length = u.length := by simpa using congrArg List.length hu
  have hget : ∀ j (h : j < u.length), nrm (u2[j]'(by omega)) = nrm u[j] := fun j h => by
    have h1 : (u2.map nrm)[j]'(by simp; omega) = (u.map nrm)[j]'(by simpa using h) := by simp only [hu]
    simpa using h1
  rcases Nat.lt_or_ge (ix v u) u.length with q | q
  · refine ix_eq (by omega) ?_ fun j hj => ?_
    · rw [hv, hget _ q]; exact ix_lt q
    · obtain ⟨h1, h2⟩ := ix_not hj
      rw [hv, hget j h1]; exact h2
  · have hq : ix v u = u.length := Nat.le_antisymm (ix_le _ _) q
    rw [hq, ← hl]
    refine ix_none fun j hj => ?_
    obtain ⟨h1, h2⟩ := ix_not (v := v) (ws := u) (j := j) (by omega)
    rw [hv, hget j (by omega)]; exact h2
theorem addW_congr {v v2 : Val} {u u2 : List Val} (hv : nrm v2 = nrm v) (hu : u2.map nrm = u.map nrm) : (addW v2 u2).map nrm = (addW v u).map nrm := by
  have hl : u2.length = u.length := by simpa using congrArg List.length hu
  unfold addW
  rw [ix_congr hv hu, hl]
  split
  · exact hu
  · simp [hu, nrm_cl, hv]
theorem cAt_app {A t : List Val} {k : Nat} (h : k < A.length) : cAt (A ++ t) (k : Int) = A[k] := by
  unfold cAt
  rw [Int.toNat_natCast, List.getElem?_append_left h, List.getElem?_eq_getElem h]; rfl
theorem pool_pool (cs W : List Val) : ∀ (r : List Instr) (u u2 : List Val), u2.map nrm = u.map nrm → (poolG cs r u).2 = W → (poolG W (poolG cs r u).1 u2).1 = (poolG cs r u).1 ∧ (poolG W (poolG cs r u).1 u2).2.map nrm = W.map nrm
  | [], u, u2, hu, hW => by
    simp only [poolG] at hW ⊢
    exact ⟨trivial, by rw [← hW]; exact hu⟩
  | x :: r, u, u2, hu, hW => by
    simp only [poolG] at hW ⊢
    by_cases h1 : x.op = 1
    · simp only [if_pos h1] at hW ⊢
      simp only [poolG]
      have e1 : (Instr.mk x.op (ix (cAt cs x.a) u) x.b).op = 1 := h1
      rw [if_pos e1]
      obtain ⟨t, e⟩ := poolG_pre cs r (addW (cAt cs x.a) u)
      obtain ⟨q1, q2⟩ := addW_ix (cAt cs x.a) u
      have hcW : nrm (cAt W (Instr.mk x.op (ix (cAt cs x.a) u) x.b).a) = nrm (cAt cs x.a) := by
        have : cAt W (Instr.mk x.op (ix (cAt cs x.a) u) x.b).a = (addW (cAt cs x.a) u)[ix (cAt cs x.a) u] := by
          rw [← hW, e]; exact cAt_app q1
        rw [this, ← q2]
      rw [ix_congr hcW hu]
      obtain ⟨g1, g2⟩ := pool_pool cs W r (addW (cAt cs x.a) u) (addW (cAt W (Instr.mk x.op (ix (cAt cs x.a) u) x.b).a) u2) (addW_congr hcW hu) hW
      refine ⟨?_, g2⟩
      simp only
      rw [g1]
      rfl
    · simp only [if_neg h1] at hW ⊢
      simp only [poolG]
      rw [if_neg h1]
      obtain ⟨g1, g2⟩ := pool_pool cs W r u u2 hu hW
      exact ⟨by simp only; rw [g1], g2⟩
theorem pig : ∀ (m : Nat) (l : List Nat), l.Nodup → (∀ x ∈ l, x < m) → l.length ≤ m
  | 0, l, _, h => by
    cases l with
    | nil => simp
    | cons x r => have := h x (by simp); omega
  | m + 1, l, hn, h => by
    have ih := pig m (l.erase m) (hn.erase m) fun x hx => by
      obtain ⟨h1, h2⟩ := hn.mem_erase_iff.1 hx
      have := h x h2
      omega
    have e := List.length_erase (a := m) (l := l)
    split at e <;> omega
end
end Go.AM.T
/- What is pooled may be. -/
namespace Go.AM.T
section
variable {X : Ctx}
section
variable {cs : List Val} {l : List Instr}
theorem pool_fit (h : FitC cs.length l) : FitC (poolG cs l []).2.length (poolG cs l []).1 := by
  intro y hy
  obtain ⟨i, hi, rfl⟩ := List.getElem_of_mem hy
  have hil : i < l.length := by rwa [poolG_len] at hi
  obtain ⟨y, e, h1, h2, h3, h4⟩ := poolG_at cs l [] i hil
  rw [List.getElem?_eq_getElem hi] at e
  rw [Option.some.inj e]
  obtain ⟨⟨f1, f2, f3, f4⟩, f5⟩ := h l[i] (by simp)
  by_cases q : l[i].op = 1
  · have hy1 : y.op = 1 := by rw [h1, q]
    refine ⟨⟨by rw [h1]; exact f1, fun w => absurd w (one_no hy1), fun _ w => absurd hy1 w, fun _ => by rw [h2]; exact f4 q⟩, fun _ => h4 q⟩
  · rw [h3 q]; exact ⟨⟨f1, f2, f3, f4⟩, fun w => absurd w q⟩
theorem cAt_mem {a : Int} (h : 0 ≤ a ∧ a < cs.length) : cAt cs a ∈ cs := by
  have ha : a.toNat < cs.length := by omega
  unfold cAt
  rw [List.getElem?_eq_getElem ha]
  exact List.getElem_mem ha
theorem pool_of (h : FitC cs.length l) {w : Val} (hw : w ∈ (poolG cs l []).2) : ∃ v ∈ cs, w = cl v := by
  rcases poolG_mem _ _ _ _ hw with q | ⟨x, hx, x1, rfl⟩
  · simp at q
  · exact ⟨_, cAt_mem ((h x hx).2 x1), rfl⟩
theorem pool_dst : Dst (poolG cs l []).2 := poolG_dst _ _ _ (by intro i j _ hj; simp at hj)
theorem pool_count (h : FitC cs.length l) : (poolG cs l []).2.length ≤ cs.length := by
  have hd : Dst (poolG cs l []).2 := pool_dst
  have hm := fun w hw => pool_of (w := w) h hw
  generalize (poolG cs l []).2 = ws at *
  have hf : ∀ w ∈ ws, ix w cs < cs.length := fun w hw => by
    obtain ⟨v, hv, rfl⟩ := hm w hw
    rcases Nat.lt_or_ge (ix (cl v) cs) cs.length with q | q
    · exact q
    · obtain ⟨j, hj, e⟩ := List.getElem_of_mem hv
      obtain ⟨_, q2⟩ := ix_not (v := cl v) (ws := cs) (j := j) (by omega)
      exact absurd (by rw [nrm_cl, e]) q2
  have hn : (ws.map fun w => ix w cs).Nodup := by
    rw [List.Nodup, List.pairwise_iff_getElem]
    intro i j hi hj hij
    have hi' : i < ws.length := by simpa using hi
    have hj' : j < ws.length := by simpa using hj
    simp only [List.getElem_map]
    intro q
    have e1 := ix_lt (hf ws[i] (by simp))
    have e2 := ix_lt (hf ws[j] (by simp))
    have e3 : cs[ix ws[i] cs]'(hf _ (by simp)) = cs[ix ws[j] cs]'(hf _ (by simp)) := by simp only [q]
    rw [e3] at e1
    exact hd i j hij hj' (e2.trans e1.symm)
  have := pig cs.length (ws.map fun w => ix w cs) hn (fun x hx => by
    obtain ⟨w, hw, rfl⟩ := List.mem_map.1 hx
    exact hf w hw)
  simpa using this
theorem pool_okN {f : Nl} (hf : f ≠ .emp) (hg : Good l) (h : FitC cs.length l) (hk : cs.length ≤ 4096) (hv : ∀ v ∈ cs, v.wf) : okN (.mk f (poolG cs l []).1 .nil (poolG cs l []).2) := by
  have hc := pool_count h
  refine ⟨⟨?_, ?_, fun w hw => ?_⟩, hf, by simp [Code.constsF], fun w hw => ?_⟩
  · show ((poolG cs l []).1.length : Int) ≤ _
    rw [poolG_len]; have := hg.top; omega
  · show ((poolG cs l []).2.length : Int) ≤ _
    omega
  · obtain ⟨v, hv', rfl⟩ := pool_of h hw
    exact wf_of (nrm_cl v) (hv v hv')
  · obtain ⟨v, hv', rfl⟩ := pool_of h hw
    exact nE_cl v
theorem pool_chk {f : Nl} (hg : Good l) (h : FitC cs.length l) (hk : cs.length ≤ 4096) (hv : ∀ v ∈ cs, chkS v = 0) : chkC (.mk f (poolG cs l []).1 .nil (poolG cs l []).2) = 0 := by
  have hc := pool_count h
  refine chk_of ((poolG_lk cs l []).good hg) (pool_fit h) (by omega) fun w hw => ?_
  obtain ⟨v, hv', rfl⟩ := pool_of h hw
  rw [chkS_of (nrm_cl v)]; exact hv v hv'
end
end
end Go.AM.T
