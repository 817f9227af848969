/- What is held to; where a jump lands. -/
import Derived.Test.YtjcnlakifipmgaaGreatDoorWalkF
set_option linter.unusedVariables false
set_option linter.unusedSimpArgs false
set_option linter.unnecessarySimpa false
set_option maxRecDepth 100000
/- What instructions are held to. -/
namespace Go.AM.T
section
variable {X : Ctx}
/-- What a code that may be is held to. -/
structure Good (l : List Instr) : Prop where
  pos : 0 < l.length
  top : l.length ≤ 16384
  ops : ∀ i (h : i < l.length), 0 ≤ l[i].op ∧ l[i].op < 46
  go : ∀ i (h : i < l.length), l[i].op ∈ goesL → 0 ≤ l[i].a ∧ l[i].a < l.length
  next : ∀ i (h : i < l.length), l[i].op ∉ endsL → i + 1 < l.length
theorem instrsE_zero {n c : Nat} : ∀ {l : List Instr}, instrsE n c l = 0 → ∀ x ∈ l, (0 ≤ x.op ∧ x.op < 46) ∧ mayS x.op x.a x.b n c = true
  | [], _, x, hx => by simp at hx
  | y :: r, h, x, hx => by
    simp only [instrsE] at h
    split at h
    · cases h
    · rename_i h1
      split at h
      · cases h
      · rename_i h2
        rcases List.mem_cons.1 hx with rfl | hx
        · exact ⟨Decidable.not_not.1 h1, by simpa using h2⟩
        · exact instrsE_zero h x hx
theorem good_of {c : Code} (h : chkC c = 0) : Good c.instrs ∧ chksS c.consts = 0 ∧ c.consts.length ≤ 4096 ∧ instrsE c.instrs.length c.consts.length c.instrs = 0 := by
  unfold chkC at h
  split at h
  · cases h
  · rename_i h1
    split at h
    · cases h
    · rename_i h2
      split at h
      · rename_i h3; exact absurd h h3
      · rename_i h3
        split at h
        · rename_i h4; exact absurd h h4
        · rename_i h4
          split at h
          · rename_i h5
            have h3' := Decidable.not_not.1 h3
            have hall := instrsE_zero h3'
            refine ⟨⟨by omega, by omega, fun i hi => (hall _ (by simp)).1, fun i hi hg => ?_, fun i hi he => ?_⟩, Decidable.not_not.1 h4, by omega, h3'⟩
            · have hm := (hall (c.instrs[i]) (by simp)).2
              unfold mayS at hm
              have h16 : ¬ c.instrs[i].op = 16 := by intro q; rw [q] at hg; simp [goesL] at hg
              rw [if_neg h16] at hm
              simp only [Bool.and_eq_true, decide_eq_true_eq] at hm
              have hl : (limS c.instrs[i].op c.instrs.length c.consts.length).1 = (c.instrs.length : Int) - 1 := by
                unfold limS
                have h1 : ¬ c.instrs[i].op = 1 := by intro q; rw [q] at hg; simp [goesL] at hg
                rw [if_neg h1]
                split
                · rfl
                · rfl
              rw [hl] at hm
              omega
            · rw [lastOp_eq (by omega)] at h5
              by_cases q : i + 1 < c.instrs.length
              · exact q
              · have e : i = c.instrs.length - 1 := by omega
                subst e
                exact absurd h5 he
          · cases h
abbrev boolsD (l : List Bool) : List D := l.map D.bool
abbrev intsD (l : List Int) : List D := l.map (D.int .i64)
theorem append1 {b : Nat} {H : Heap} {id : Nat} {s rest : List Int} {y : Int} (h : H[id]? = some (.row 1 (intsD (s ++ rest)) false)) (hl : (s ++ rest).length ≤ 100000) :
    appendD b H 1 8 (.osl id (s ++ rest).length 0 s.length) [D.int .i64 y] 1 = some (.osl id (s ++ [y] ++ rest.tail).length 0 (s.length + 1), H.set id (.row 1 (intsD (s ++ [y] ++ rest.tail)) false)) := by
  have hl' := hl
  rw [List.length_append] at hl'
  cases rest with
  | nil =>
    have := appendD_full (b := b) (H := H) (id := id) (hw := (s ++ []).length) (es := 1) (bytes := 8) (m := 1) (ys := [D.int .i64 y]) (cs := intsD (s ++ [])) (nil := false) (n := s.length) h (by simp) (by simp) (by simp) (by unfold maxBytes; omega) (by unfold maxBytes; omega) storable_i (by omega)
    rw [this]; simp
  | cons r0 r =>
    simp only [appendD, h]
    rw [if_pos ⟨trivial, by simp, by simp, by simp, by unfold maxBytes; omega, by unfold maxBytes; omega, storable_i⟩, if_neg (by omega), if_neg (by simp), if_pos (by simp)]
    congr 3
    · simp
    · congr 2
      simp [splice, List.drop_append]
theorem copies_bool (n : Nat) : copies [D.bool false] n = boolsD (List.replicate n false) := by
  induction n with
  | zero => rfl
  | succ n ih => simp only [copies, ih, List.replicate_succ]; rfl
theorem set_bool {m : List Bool} {i : Nat} {x : Bool} (h : i < m.length) : List.take i (boolsD m) ++ D.bool x :: List.drop (i + 1) (boolsD m) = boolsD (m.set i x) := by
  have := splice_set (cs := boolsD m) (i := i) (x := .bool x) (by simpa using h)
  simpa using this

theorem Instr.u_a (x : Instr) (r : List D) : loadD false 1 (x.cells ++ r).tail = some (.int .i64 x.a) := by rw [Instr.cells_eq]; simp [loadD]
end
end Go.AM.T
/- Where a jump lands: both ways. -/
namespace Go.AM.T
section
variable {X : Ctx}
/-- Jumps followed from `i`, but for those that have been seen. -/
def landS (l : List Instr) (m : List Bool) (i : Nat) : Nat :=
  if h : i < l.length ∧ i < m.length then
    if l[i].op = 5 ∧ m[i]? = some false then landS l (m.set i true) l[i].a.toNat else i
  else i
termination_by m.count false
decreasing_by
  rename_i h2
  rw [List.count_set h.2]
  have h3 : m[i] = false := by
    have := h2.2
    rw [List.getElem?_eq_getElem h.2] at this
    simpa using this
  have : 0 < m.count false := by rw [List.count_pos_iff, ← h3]; exact List.getElem_mem h.2
  simp [h3]; omega
theorem mapGet_set (n k : Int) (x : Bool) : ∀ es : List (Int × Bool), mapGet k (mapSet n x es) = if k = n then x else mapGet k es
  | [] => by simp [mapSet, mapGet]
  | (a, v) :: r => by
    simp only [mapSet]
    split
    · rename_i h; subst h; simp only [mapGet]; split <;> simp_all
    · simp only [mapGet, mapGet_set n k x r]; split <;> split <;> simp_all
theorem law27_num (hX : CX X) (n : Int) (H : Heap) : callΩ X (.func n_bolterlaw27_num [] []) [.int .i64 n] H = some (.int .i64 n, H) := by
  refine c_bolterlaw27_num hX (by simp) ?_
  simp [a_bolterlaw27_num_B, Env.ofArgs, List.nil_append, List.append_nil, FinR, FinP, finish, fz_osl]
end
end Go.AM.T
