/- What is held to; where a jump lands. -/
import Derived.Test.YtjcnlakifipmgaaGreatDoorWalkF
set_option linter.unusedVariables false
set_option linter.unusedSimpArgs false
set_option linter.unnecessarySimpa false
set_option maxRecDepth 100000
/- What instructions are held to. -/
namespace Go.AM.T
section
variable {X : Ctx}
/-- What a code that may be is held to. -/
structure Good (l : List Instr) : Prop where
  pos : 0 < l.length
  top : l.length ≤ 16384
  ops : ∀ i (h : i < l.length), 0 ≤ l[i].op ∧ l[i].op < 46
  go : ∀ i (h : i < l.length), l[i].op ∈ goesL → 0 ≤ l[i].a ∧ l[i].a < l.length
  next : ∀ i (h : i < l.length), l[i].op ∉ endsL → i + 1 < l.length
theorem instrsE_zero {n c : Nat} : ∀ {l : List Instr}, instrsE n c l = 0 → ∀ x ∈ l, (0 ≤ x.op ∧ x.op < 46) ∧ mayS x.op x.a x.b n c = true
  | [], _, x, hx => by simp at hx
  | y :: r, h, x, hx => by
    simp only [instrsE] at h
    split at h
    · cases h
    · rename_i h1
      split at h
      · cases h
      · rename_i h2
        rcases List.mem_cons.1 hx with rfl | hx
        · exact ⟨Decidable.not_not.1 h1, by simpa using h2⟩
        · exact instrsE_zero h x hx
theorem good_of {c : Code} (h : chkC c = 0) : Good c.instrs ∧ chksS c.consts = 0 ∧ c.consts.length ≤ 4096 ∧ instrsE c.instrs.length c.consts.length c.instrs = 0 := by
  unfold chkC at h
  split at h
  · cases h
  · rename_i h1
    split at h
    · cases h
    · rename_i h2
      split at h
      · rename_i h3; exact absurd h h3
      · rename_i h3
        split at h
        · rename_i h4; exact absurd h h4
        · rename_i h4
          split at h
          · rename_i h5
            have h3' := Decidable.not_not.1 h3
            have hall := instrsE_zero h3'
            refine ⟨⟨by omega, by omega, fun i hi => (hall _ (by simp)).1, fun i hi hg => ?_, fun i hi he => ?_⟩, Decidable.not_not.1 h4, by omega, h3'⟩
            · have hm := (hall (c.instrs[i]) (by simp)).2
              unfold mayS at hm
              have h16 : ¬ c.instrs[i].op = 16 := by intro q; rw [q] at hg; simp [goesL] at hg
              rw [if_neg h16] at hm
              simp only [Bool.and_eq_true, decide_eq_true_eq] at hm
              have hl : (limS c.instrs[i].op c.instrs.length c.consts.length).1 = (c.instrs.length : Int) - 1 := by
                unfold limS
                have h1 : ¬ c.instrs[i].op = 1 := by intro q; rw [q] at hg; simp [goesL] at hg
                rw [if_neg h1]
                split
                · rfl
                · rfl
              rw [hl] at hm
              omega
            · rw [lastOp_eq (by omega)] at h5
              by_cases q : i + 1 < c.instrs.length
              · exact q
              · have e : i = c.instrs.length - 1 := by omega
                subst e
                exact absurd h5 he
          · cases h
abbrev boolsD (l : List Bool) : List D := l.map D.bool
abbrev intsD (l : List Int) : List D := l.map (D.int .i64)
theorem append1 {b : Nat} {H : Heap} {id : Nat} {s rest : List Int} {y : Int} (h : H[id]? = some (.row 1 (intsD (s ++ rest)) false)) (hl : (s ++ rest).length ≤ 100000) :
    appendD b H 1 8 (.osl id (s ++ rest).length 0 s.length) [D.int .i64 y] 1 = some (.osl id (s ++ [y] ++ rest.tail).length 0 (s.length + 1), H.set id (.row 1 (intsD (s ++ [y] ++ rest.tail)) false)) := by
  have hl' := hl
  rw [List.length_append] at hl'
  cases rest with
  | nil =>
    have := appendD_full (b := b) (H := H) (id := id) (hw := (s ++ []).length) (es := 1) (bytes := 8) (m := 1) (ys := [D.int .i64 y]) (cs := intsD (s ++ [])) (nil := false) (n := s.length) h (by simp) (by simp) (by simp) (by unfold maxBytes; omega) (by unfold maxBytes; omega) storable_i (by omega)
    rw [this]; simp
  | cons r0 r =>
    simp only [appendD, h]
    rw [if_pos ⟨trivial, by simp, by simp, by simp, by unfold maxBytes; omega, by unfold maxBytes; omega, storable_i⟩, if_neg (by omega), if_neg (by simp), if_pos (by simp)]
    congr 3
    · simp
    · congr 2
      simp [splice, List.drop_append]
theorem copies_bool (n : Nat) : copies [D.bool false] n = boolsD (List.replicate n false) := by
  induction n with
  | zero => rfl
  | succ n ih => simp only [copies, ih, List.replicate_succ]; rfl
theorem set_bool {m : List Bool} {i : Nat} {x : Bool} (h : i < m.length) : List.take i (boolsD m) ++ D.bool x :: List.drop (i + 1) (boolsD m) = boolsD (m.set i x) := by
  have := splice_set (cs := boolsD m) (i := i) (x := .bool x) (by simpa using h)
  simpa using this

theorem Instr.u_a (x : Instr) (r : List D) : loadD false 1 (x.cells ++ r).tail = some (.int .i64 x.a) := by rw [Instr.cells_eq]; simp [loadD]
end
end Go.AM.T
/- Where a jump lands: both ways. -/
namespace Go.AM.T
section
variable {X : Ctx}
/-- Jumps followed from `i`, but for those that have been seen. -/
def landS (l : List Instr) (m : List Bool) (i : Nat) : Nat :=
  if h : i < l.length ∧ i < m.length then
    if l[i].op = 5 ∧ m[i]? = some false then landS l (m.set i true) l[i].a.toNat else i
  else i
termination_by m.count false
decreasing_by
  rename_i h2
  rw [List.count_set h.2]
  have h3 : m[i] = false := by
    have := h2.2
    rw [List.getElem?_eq_getElem h.2] at this
    simpa using this
  have : 0 < m.count false := by rw [List.count_pos_iff, ← h3]; exact List.getElem_mem h.2
  simp [h3]; omega
theorem mapGet_set (n k : Int) (x : Bool) : ∀ es : List (Int × Bool), mapGet k (mapSet n x es) = if k = n then x else mapGet k es
  | [] => by simp [mapSet, mapGet]
  | (a, v) :: r => by
    simp only [mapSet]
    split
    · rename_i h; subst h; simp only [mapGet]; split <;> simp_all
    · simp only [mapGet, mapGet_set n k x r]; split <;> split <;> simp_all
set_option maxHeartbeats 1000000 in
theorem law_land (hX : CX X) (H : Heap) (c : Code) (hg : Good c.instrs) (i : Nat) (hi : i < c.instrs.length) :
    callΩ X (.func n_bolterlaw27_land [] []) [.agg c.cells, .int .i64 i] H = some (.int .i64 (landS c.instrs (List.replicate c.instrs.length false) i), H) := by
  refine c_bolterlaw27_land hX (by simp) ?_
  have htop := hg.top
  have hm : c.instrs.length ≤ maxBytes := by unfold maxBytes; omega
  simp [a_bolterlaw27_land_B, Env.ofArgs, List.nil_append, List.append_nil, hm, storable, copies_bool]
  refine YS_ind (fun (q : List Bool × Nat) e H' => H' = H ++ [.row 1 (boolsD q.1) false] ∧ q.1.length = c.instrs.length ∧ q.2 < c.instrs.length ∧ e.get 1 = .int .i64 q.2 ∧ e.get 2 = .fptr c.cells ∧ e.get 5 = .osl H.length c.instrs.length 0 c.instrs.length ∧
    landS c.instrs (List.replicate c.instrs.length false) i = landS c.instrs q.1 q.2) (fun q => q.1.count false) ?_ (List.replicate c.instrs.length false, i) (by simp [hi])
  rintro ⟨m, k⟩ e H' ⟨rfl, hml, hk, g1, g2, g5, hd⟩ L ih
  simp only at hml hk g1 g2 g5 hd ih
  have hk' : (k : Int) < c.instrs.length := by omega
  have hkl : ¬ c.instrs.length ≤ k := by omega
  have hk1 : k + 1 ≤ c.instrs.length := by omega
  have hkm : k < m.length := by omega
  have hmi : loadD false 1 (List.drop k (boolsD m)) = some (.bool m[k]) := loadD_map hkm
  have hsb := set_bool (m := m) (i := k) (x := true) hkm
  rw [landS.eq_def c.instrs m k, dif_pos ⟨hk, hkm⟩, List.getElem?_eq_getElem hkm] at hd
  by_cases h5 : c.instrs[k].op = 5
  · cases hmk : m[k] with
    | false =>
      rw [hmk] at hmi hd
      simp [h5] at hd
      have hgo := hg.go k hk (by rw [h5]; simp [goesL])
      obtain ⟨a, ha⟩ : ∃ a : Nat, c.instrs[k].a = a := ⟨c.instrs[k].a.toNat, by omega⟩
      rw [ha] at hd hgo
      simp at hd
      simp [a_bolterlaw27_land_L0, g1, g2, g5, hk, hk', hkl, hk1, hml, hmi, hsb, Instr.cellsL_drop hk, Instr.u_a, h5, ha]
      refine ih (m.set k true, a) _ _ ?_ ?_
      · have h3 : (m.set k true).count false = m.count false - 1 := by rw [List.count_set hkm]; simp [hmk]
        have : 0 < m.count false := by rw [List.count_pos_iff, ← hmk]; exact List.getElem_mem hkm
        simp only; omega
      · simp [g2, g5, hml, hd]; omega
    | true =>
      rw [hmk] at hmi hd
      simp [h5] at hd
      simp [a_bolterlaw27_land_L0, FinR, FinP, finish, fz_osl, g1, g2, g5, hk, hk', hkl, hk1, hml, hmi, Instr.cellsL_drop hk, h5, hd]
  · simp [h5] at hd
    simp [a_bolterlaw27_land_L0, FinR, FinP, finish, fz_osl, g1, g2, g5, hk, hk', hkl, hk1, hml, hmi, Instr.cellsL_drop hk, h5, hd]
set_option maxHeartbeats 1000000 in
theorem peep_land (hX : CX X) (H : Heap) (f : Nl) (l : List Instr) (hg : Good l) (i : Nat) (hi : i < l.length) :
    callΩ X (.func n_peep_land [] []) [SL f (Instr.cellsL l) l.length, .int .i64 i] H = some (.int .i64 (landS l (List.replicate l.length false) i), H) := by
  refine c_peep_land hX (by simp) ?_
  simp [a_peep_land_B, Env.ofArgs, List.nil_append, List.append_nil]
  refine YS_ind (fun (q : List (Int × Bool) × List Bool × Nat) e H' => H' = H ++ [.map q.1] ∧ q.2.1.length = l.length ∧ q.2.2 < l.length ∧ (∀ (j : Nat) (h : j < q.2.1.length), mapGet j q.1 = q.2.1[j]) ∧ e.get 0 = SL f (Instr.cellsL l) l.length ∧ e.get 1 = .int .i64 q.2.2 ∧ e.get 5 = .mp H.length ∧
    landS l (List.replicate l.length false) i = landS l q.2.1 q.2.2) (fun q => q.2.1.count false) ?_ ([], List.replicate l.length false, i) (by simp [hi, mapGet])
  rintro ⟨es, m, k⟩ e H' ⟨rfl, hml, hk, hes, g0, g1, g5, hd⟩ L ih
  simp only at hml hk hes g0 g1 g5 hd ih
  have hk' : (k : Int) < l.length := by omega
  have hkl : ¬ l.length ≤ k := by omega
  have hk1 : k + 1 ≤ l.length := by omega
  have hkm : k < m.length := by omega
  have hek := hes k hkm
  rw [landS.eq_def l m k, dif_pos ⟨hk, hkm⟩, List.getElem?_eq_getElem hkm] at hd
  by_cases h5 : l[k].op = 5
  · cases hmk : m[k] with
    | false =>
      rw [hmk] at hek hd
      simp [h5] at hd
      have hgo := hg.go k hk (by rw [h5]; simp [goesL])
      obtain ⟨a, ha⟩ : ∃ a : Nat, l[k].a = a := ⟨l[k].a.toNat, by omega⟩
      rw [ha] at hd hgo
      simp at hd
      simp [a_peep_land_L0, g0, g1, g5, hk, hk', hkl, hk1, hek, Instr.cellsL_drop hk, Instr.u_a, h5, ha]
      refine ih (mapSet k true es, m.set k true, a) _ _ ?_ ?_
      · have h3 : (m.set k true).count false = m.count false - 1 := by rw [List.count_set hkm]; simp [hmk]
        have : 0 < m.count false := by rw [List.count_pos_iff, ← hmk]; exact List.getElem_mem hkm
        simp only; omega
      · simp [g0, g5, hml, hd]
        refine ⟨by omega, fun j hj => ?_⟩
        rw [mapGet_set, List.getElem_set]
        by_cases q : k = j
        · subst q; simp
        · rw [if_neg (by omega), if_neg q]; exact hes j (by omega)
    | true =>
      rw [hmk] at hek hd
      simp [h5] at hd
      simp [a_peep_land_L0, FinR, FinP, finish, fz_osl, g0, g1, g5, hk, hk', hkl, hk1, hek, Instr.cellsL_drop hk, h5, hd]
  · simp [h5] at hd
    simp [a_peep_land_L0, FinR, FinP, finish, fz_osl, g0, g1, g5, hk, hk', hkl, hk1, hek, Instr.cellsL_drop hk, h5, hd]
theorem law27_num (hX : CX X) (n : Int) (H : Heap) : callΩ X (.func n_bolterlaw27_num [] []) [.int .i64 n] H = some (.int .i64 n, H) := by
  refine c_bolterlaw27_num hX (by simp) ?_
  simp [a_bolterlaw27_num_B, Env.ofArgs, List.nil_append, List.append_nil, FinR, FinP, finish, fz_osl]
end
end Go.AM.T
