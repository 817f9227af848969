/- Values: depth, size, plain checks. -/
import Derived.Test.YtjcnlakifipmgaaGreatDoorRules
import Derived.Test.YtjcnlakifipmgaaGreatDoorSpec
set_option linter.unusedVariables false
set_option linter.unusedSimpArgs false
set_option linter.unnecessarySimpa false
set_option maxRecDepth 100000
namespace Go.AM.T
section
variable {X : Ctx}

end
end Go.AM.T
/- How deep and how great values are. -/
namespace Go.AM.T
section
variable {X : Ctx}
theorem wrap_succ {k n : Nat} (h : k < n) (hn : (n : Int) ≤ 9223372036854775807) : IntKind.i64.wrap ((k : Int) + 1) = ((k + 1 : Nat) : Int) := by
  rw [wrap_i64 (by omega) (by omega)]; omega
theorem wrap_nat {k : Nat} (h : k ≤ 9223372036854775807) : IntKind.i64.wrap (k : Int) = k := wrap_i64 (by omega) (by omega)
theorem deepL_drop {left : Nat} {l : List Val} {k : Nat} (h : k < l.length) : deepL left (l.drop k) = max (deepS left l[k]) (deepL left (l.drop (k + 1))) := by
  rw [List.drop_eq_getElem_cons h, deepL]

theorem value_deep (hX : CX X) (H : Heap) : ∀ (v : Val), v.wf → ∀ (left : Nat), left ≤ 1000 → callΩ X (.func n_value_deep [] []) [.agg v.cells, .int .i64 left] H = some (.int .i64 (deepS left v), H) := by
  intro v
  induction v using Val.ind with
  | h v ihv =>
  intro hw left hl
  rw [Val.wf_iff] at hw
  obtain ⟨hw1, hw2, hw3, hw4, hw5, hw6⟩ := hw
  refine c_value_deep hX (by simp) ?_
  rw [deepS_eq]
  by_cases hk : (v.kind ≠ 5 ∧ v.kind ≠ 6) ∨ left = 0
  · rw [if_pos hk]
    simp +contextual -implicitDefEqProofs [a_value_deep_B, Env.ofArgs, List.nil_append, List.append_nil, FinR, FinP, finish, fz_osl]
    omega
  · rw [if_neg hk]
    simp only [not_or, not_and, ne_eq, Decidable.not_not] at hk
    obtain ⟨hk1, hk2⟩ := hk
    have h5 : IntKind.i64.wrap ((left : Int) - 1) = ((left - 1 : Nat) : Int) := by rw [wrap_i64 (by omega) (by omega)]; omega
    have h6 : deepL (left - 1) v.list < 1000 := by
      have := (deepS_le left v).1
      rw [deepS_eq, if_neg (by simp only [not_or, not_and, ne_eq, Decidable.not_not]; exact ⟨hk1, hk2⟩)] at this
      omega
    have h7 : IntKind.i64.wrap ((deepL (left - 1) v.list : Int) + 1) = ((deepL (left - 1) v.list + 1 : Nat) : Int) := by rw [wrap_i64 (by omega) (by omega)]; omega
    have hkk : (!decide (v.kind = 5) && !decide (v.kind = 6)) = false := by by_cases k5 : v.kind = 5 <;> simp_all
    simp +contextual -implicitDefEqProofs [a_value_deep_B, Env.ofArgs, List.nil_append, List.append_nil, hk2]
    refine ⟨fun h => by simp_all, fun h => ?_⟩
    refine YS_ind (fun (k : Nat × Nat) e H' => H' = H ∧ k.1 ≤ v.list.length ∧ k.2 ≤ left - 1 ∧ e.get 1 = .int .i64 left ∧ e.get 5 = .int .i64 k.2 ∧ e.get 21 = SL v.listF (Val.cellsL v.list) v.list.length ∧ e.get 22 = .int .i64 v.list.length ∧ e.get 23 = .int .i64 k.1 ∧ deepL (left - 1) v.list = max k.2 (deepL (left - 1) (v.list.drop k.1))) (fun k => v.list.length - k.1) ?_ (0, 0) (by simp)
    rintro ⟨k, m⟩ e H' ⟨rfl, hk, hm, h1, h5', h21, h22, h23, hd⟩ L ih
    simp only at *
    by_cases h : k < v.list.length
    · have hc := ihv v.list[k] (by simp) (hw6 _ (by simp)) (left - 1) (by omega)
      have hle := (deepS_le (left - 1) v.list[k]).1
      rw [deepL_drop h] at hd
      simp [a_value_deep_L0, h1, h5', h21, h22, h23, h, Val.cellsL_drop h, h5, hc, wrap_succ h hw3]
      refine ih (k + 1, max m (deepS (left - 1) v.list[k])) _ _ (by simp; omega) ?_
      simp [h1, h21, h22]
      omega
    · obtain rfl : k = v.list.length := by omega
      simp [a_value_deep_L0, h1, h5', h21, h22, h23]
      simp [deepL] at hd
      simp [FinR, FinP, finish, fz_osl, ← hd, h7]

theorem ref_deep (hX : CX X) (H : Heap) : ∀ (v : Val), v.wf → ∀ (left : Nat), left ≤ 1000 → callΩ X (.func n_bolterref05_deep [] []) [.agg v.cells, .int .i64 left] H = some (.int .i64 (deepS left v), H) := by
  intro v
  induction v using Val.ind with
  | h v ihv =>
  intro hw left hl
  rw [Val.wf_iff] at hw
  obtain ⟨hw1, hw2, hw3, hw4, hw5, hw6⟩ := hw
  refine c_bolterref05_deep hX (by simp) ?_
  rw [deepS_eq]
  by_cases hk : (v.kind ≠ 5 ∧ v.kind ≠ 6) ∨ left = 0
  · rw [if_pos hk]
    simp +contextual -implicitDefEqProofs [a_bolterref05_deep_B, Env.ofArgs, List.nil_append, List.append_nil, FinR, FinP, finish, fz_osl]
    omega
  · rw [if_neg hk]
    simp only [not_or, not_and, ne_eq, Decidable.not_not] at hk
    obtain ⟨hk1, hk2⟩ := hk
    have h5 : IntKind.i64.wrap ((left : Int) - 1) = ((left - 1 : Nat) : Int) := by rw [wrap_i64 (by omega) (by omega)]; omega
    have h6 : deepL (left - 1) v.list < 1000 := by
      have := (deepS_le left v).1
      rw [deepS_eq, if_neg (by simp only [not_or, not_and, ne_eq, Decidable.not_not]; exact ⟨hk1, hk2⟩)] at this
      omega
    have h7 : IntKind.i64.wrap (1 + (deepL (left - 1) v.list : Int)) = ((deepL (left - 1) v.list + 1 : Nat) : Int) := by rw [wrap_i64 (by omega) (by omega)]; omega
    have hkk : (!decide (v.kind = 5) && !decide (v.kind = 6)) = false := by by_cases k5 : v.kind = 5 <;> simp_all
    simp +contextual -implicitDefEqProofs [a_bolterref05_deep_B, Env.ofArgs, List.nil_append, List.append_nil, hk2]
    refine ⟨fun h => by simp_all, fun h => ?_⟩
    refine YS_ind (fun (k : Nat × Nat) e H' => H' = H ∧ k.1 ≤ v.list.length ∧ k.2 ≤ left - 1 ∧ e.get 1 = .int .i64 left ∧ e.get 5 = .int .i64 k.2 ∧ e.get 2 = .fptr v.cells ∧ e.get 6 = .int .i64 k.1 ∧ deepL (left - 1) v.list = max k.2 (deepL (left - 1) (v.list.drop k.1))) (fun k => v.list.length - k.1) ?_ (0, 0) (by simp)
    rintro ⟨k, m⟩ e H' ⟨rfl, hk, hm, h1, h5', h2, h6', hd⟩ L ih
    simp only at *
    by_cases h : k < v.list.length
    · have hc := ihv v.list[k] (by simp) (hw6 _ (by simp)) (left - 1) (by omega)
      have hle := (deepS_le (left - 1) v.list[k]).1
      rw [deepL_drop h] at hd
      simp [a_bolterref05_deep_L0, h1, h5', h2, h6', h, Val.cellsL_drop h, h5, hc, wrap_succ h hw3]
      refine ih (k + 1, max m (deepS (left - 1) v.list[k])) _ _ (by simp; omega) ?_
      simp [h1, h2]
      omega
    · obtain rfl : k = v.list.length := by omega
      simp [a_bolterref05_deep_L0, h1, h5', h2, h6']
      simp [deepL] at hd
      simp [FinR, FinP, finish, fz_osl, ← hd, h7]

theorem value_Deep (hX : CX X) (H : Heap) (v : Val) (hw : v.wf) : callΩ X (.func n_value_Deep [] []) [.agg v.cells] H = some (.int .i64 (deepS 1000 v), H) := by
  refine c_value_Deep hX (by simp) ?_
  have := value_deep hX H v hw 1000 (by omega)
  simp at this
  simp [a_value_Deep_B, Env.ofArgs, List.nil_append, List.append_nil, FinR, FinP, finish, fz_osl, this]
theorem ref_Deep (hX : CX X) (H : Heap) (v : Val) (hw : v.wf) : callΩ X (.func n_bolterref05_Deep [] []) [.agg v.cells] H = some (.int .i64 (deepS 1000 v), H) := by
  refine c_bolterref05_Deep hX (by simp) ?_
  have := ref_deep hX H v hw 1000 (by omega)
  simp at this
  simp [a_bolterref05_Deep_B, Env.ofArgs, List.nil_append, List.append_nil, FinR, FinP, finish, fz_osl, this]

theorem sizeL_drop {n : Nat} {l : List Val} {k : Nat} (h : k < l.length) : sizeL n (l.drop k) = if 1048576 ≤ n then n else sizeL (n + sizeS l[k]) (l.drop (k + 1)) := by
  rw [List.drop_eq_getElem_cons h, sizeL]
theorem value_Size (hX : CX X) (H : Heap) : ∀ (v : Val), v.wf → callΩ X (.func n_value_Size [] []) [.agg v.cells] H = some (.int .i64 (sizeS v), H) := by
  intro v
  induction v using Val.ind with
  | h v ihv =>
  intro hw
  rw [Val.wf_iff] at hw
  obtain ⟨hw1, hw2, hw3, hw4, hw5, hw6⟩ := hw
  refine c_value_Size hX (by simp) ?_
  rw [sizeS_eq]
  simp [a_value_Size_B, Env.ofArgs, List.nil_append, List.append_nil]
  refine YS_ind (fun (k : Nat × Nat) e H' => H' = H ∧ k.1 ≤ v.list.length ∧ k.2 ≤ 2097152 ∧ e.get 3 = .int .i64 k.2 ∧ e.get 7 = SL v.listF (Val.cellsL v.list) v.list.length ∧ e.get 8 = .int .i64 v.list.length ∧ e.get 9 = .int .i64 k.1 ∧ sizeL 1 v.list = sizeL k.2 (v.list.drop k.1)) (fun k => v.list.length - k.1) ?_ (0, 1) (by simp)
  rintro ⟨k, m⟩ e H' ⟨rfl, hk, hm, h1, h2, h3, h4, hd⟩ L ih
  simp only at *
  by_cases h : k < v.list.length
  · have hc := ihv v.list[k] (by simp) (hw6 _ (by simp))
    have hle := sizeS_le v.list[k]
    rw [sizeL_drop h] at hd
    by_cases hm' : 1048576 ≤ m
    · rw [if_pos hm'] at hd
      have hm2 : (1048576 : Int) ≤ m := by omega
      simp [a_value_Size_L0, h1, h2, h3, h4, h, Val.cellsL_drop h, hm2, FinR, FinP, finish, fz_osl, hd]
      omega
    · rw [if_neg hm'] at hd
      have hm2 : ¬ (1048576 : Int) ≤ m := by omega
      have hw' : IntKind.i64.wrap ((m : Int) + (sizeS v.list[k] : Int)) = ((m + sizeS v.list[k] : Nat) : Int) := by rw [wrap_i64 (by omega) (by omega)]; omega
      simp [a_value_Size_L0, h1, h2, h3, h4, h, Val.cellsL_drop h, hm2, hc, wrap_succ h hw3, hw']
      refine ih (k + 1, m + sizeS v.list[k]) _ _ (by simp; omega) ?_
      simp [h1, h2, h3, hd]
      omega
  · obtain rfl : k = v.list.length := by omega
    simp [sizeL] at hd
    simp [a_value_Size_L0, h1, h2, h3, h4, FinR, FinP, finish, fz_osl, hd]
    omega
theorem ref_Size (hX : CX X) (H : Heap) : ∀ (v : Val), v.wf → callΩ X (.func n_bolterref05_Size [] []) [.agg v.cells] H = some (.int .i64 (sizeS v), H) := by
  intro v
  induction v using Val.ind with
  | h v ihv =>
  intro hw
  rw [Val.wf_iff] at hw
  obtain ⟨hw1, hw2, hw3, hw4, hw5, hw6⟩ := hw
  refine c_bolterref05_Size hX (by simp) ?_
  rw [sizeS_eq]
  simp [a_bolterref05_Size_B, Env.ofArgs, List.nil_append, List.append_nil]
  refine YS_ind (fun (k : Nat × Nat) e H' => H' = H ∧ k.1 ≤ v.list.length ∧ k.2 ≤ 2097152 ∧ e.get 3 = .int .i64 k.2 ∧ e.get 1 = .fptr v.cells ∧ e.get 4 = .int .i64 k.1 ∧ sizeL 1 v.list = sizeL k.2 (v.list.drop k.1)) (fun k => v.list.length - k.1) ?_ (0, 1) (by simp)
  rintro ⟨k, m⟩ e H' ⟨rfl, hk, hm, h1, h2, h4, hd⟩ L ih
  simp only at *
  by_cases h : k < v.list.length
  · have hc := ihv v.list[k] (by simp) (hw6 _ (by simp))
    have hle := sizeS_le v.list[k]
    rw [sizeL_drop h] at hd
    by_cases hm' : 1048576 ≤ m
    · rw [if_pos hm'] at hd
      have hm2 : ¬ (m : Int) < 1048576 := by omega
      simp [a_bolterref05_Size_L0, h1, h2, h4, h, Val.cellsL_drop h, hm2, FinR, FinP, finish, fz_osl, hd]
      omega
    · rw [if_neg hm'] at hd
      have hm2 : (m : Int) < 1048576 := by omega
      have hw' : IntKind.i64.wrap ((m : Int) + (sizeS v.list[k] : Int)) = ((m + sizeS v.list[k] : Nat) : Int) := by rw [wrap_i64 (by omega) (by omega)]; omega
      simp [a_bolterref05_Size_L0, h1, h2, h4, h, Val.cellsL_drop h, hm2, hc, wrap_succ h hw3, hw']
      refine ih (k + 1, m + sizeS v.list[k]) _ _ (by simp; omega) ?_
      simp [h1, h2, hd]
      omega
  · obtain rfl : k = v.list.length := by omega
    simp [sizeL] at hd
    simp [a_bolterref05_Size_L0, h1, h2, h4, FinR, FinP, finish, fz_osl, hd]
    omega
end
end Go.AM.T
/- Tests of values. -/
namespace Go.AM.T
section
variable {X : Ctx}
theorem value_used (hX : CX X) (H : Heap) (v : Val) : callΩ X (.func n_value_used [] []) [.agg v.cells] H = some (.bool (usedS v), H) := by
  refine c_value_used hX (by simp) ?_
  by_cases h6 : v.kind = 6
  · simp +contextual -implicitDefEqProofs [a_value_used_B, Env.ofArgs, List.nil_append, List.append_nil, FinR, FinP, finish, fz_osl, h6, usedS, Bool.and_assoc]
  · simp +contextual -implicitDefEqProofs [a_value_used_B, Env.ofArgs, List.nil_append, List.append_nil, FinR, FinP, finish, fz_osl, h6, usedS, Bool.and_assoc]

theorem value_numbers (hX : CX X) (H : Heap) (v : Val) (hd : callΩ X (.func n_dec_Check [] []) [.agg v.num.cells] H = some (.int .i64 (decE v.num), H)) : callΩ X (.func n_value_numbers [] []) [.agg v.cells] H = some (.bool (numsS v), H) := by
  refine c_value_numbers hX (by simp) ?_
  by_cases h3 : v.kind = 3
  · simp +contextual -implicitDefEqProofs [a_value_numbers_B, Env.ofArgs, List.nil_append, List.append_nil, FinR, FinP, finish, fz_osl, h3, hd, numsS]
  · simp +contextual -implicitDefEqProofs [a_value_numbers_B, Env.ofArgs, List.nil_append, List.append_nil, FinR, FinP, finish, fz_osl, h3, numsS]

def orL : List Int → Int
  | [] => 0
  | x :: r => if x ≠ 0 then x else orL r
theorem cmp_Or (hX : CX X) (H : Heap) (l : List Int) (hl : (l.length : Int) ≤ 9223372036854775807) : callΩ X (.func n_cmp_Or_api_Errno [] []) [.fsl (l.map (D.int .i64)) l.length] H = some (.int .i64 (orL l), H) := by
  refine c_cmp_Or_api_Errno hX (by simp) ?_
  simp [a_cmp_Or_api_Errno_B, Env.ofArgs, List.nil_append, List.append_nil]
  refine YS_ind (fun k e H' => H' = H ∧ k ≤ l.length ∧ e.get 3 = .int .i64 0 ∧ e.get 6 = .fsl (l.map (D.int .i64)) l.length ∧ e.get 7 = .int .i64 l.length ∧ e.get 8 = .int .i64 k ∧ orL l = orL (l.drop k)) (fun k => l.length - k) ?_ 0 (by simp)
  rintro k e H' ⟨rfl, hk, h3, h6, h7, h8, hd⟩ L ih
  by_cases h : k < l.length
  · rw [List.drop_eq_getElem_cons h, orL] at hd
    by_cases hz : l[k] = 0
    · simp [hz] at hd
      simp [a_cmp_Or_api_Errno_L0, h3, h6, h7, h8, h, loadD_map h, hz, wrap_succ h hl]
      refine ih (k + 1) _ _ (by omega) ?_
      simp [h3, h6, h7, hd]
      omega
    · simp [hz] at hd
      simp [a_cmp_Or_api_Errno_L0, h3, h6, h7, h8, h, loadD_map h, hz, FinR, FinP, finish, fz_osl, hd]
  · obtain rfl : k = l.length := by omega
    simp [orL] at hd
    simp [a_cmp_Or_api_Errno_L0, h3, h6, h7, h8, FinR, FinP, finish, fz_osl, hd]
theorem cmp_Or2 (hX : CX X) (H : Heap) (a b : Int) : callΩ X (.func n_cmp_Or_api_Errno [] []) [.fsl [.int .i64 a, .int .i64 b] 2] H = some (.int .i64 (orE a b), H) := by
  have := cmp_Or hX H [a, b] (by simp)
  simp only [List.map_cons, List.map_nil, List.length_cons, List.length_nil] at this
  rw [this]
  simp only [orL, orE, ne_eq]
  congr 3
  by_cases h : a = 0 <;> by_cases h' : b = 0 <;> simp [h, h']

theorem value_texts (hX : CX X) (H : Heap) (v : Val) (hw : (v.keys.length : Int) ≤ 9223372036854775807) (hc : ∀ s, s = v.text ∨ s ∈ v.keys → callΩ X (.func n_value_letters [] []) [.str s] H = some (.int .i64 (textE s), H)) :
    callΩ X (.func n_value_texts [] []) [.agg v.cells] H = some (.int .i64 (textsE (textE v.text) v.keys), H) := by
  refine c_value_texts hX (by simp) ?_
  simp [a_value_texts_B, Env.ofArgs, List.nil_append, List.append_nil, hc]
  refine YS_ind (fun (k : Nat × Int) e H' => H' = H ∧ k.1 ≤ v.keys.length ∧ e.get 3 = .int .i64 k.2 ∧ e.get 10 = SL v.keysF (v.keys.map D.str) v.keys.length ∧ e.get 11 = .int .i64 v.keys.length ∧ e.get 12 = .int .i64 k.1 ∧ textsE (textE v.text) v.keys = textsE k.2 (v.keys.drop k.1)) (fun k => v.keys.length - k.1) ?_ (0, textE v.text) (by simp)
  rintro ⟨k, m⟩ e H' ⟨rfl, hk, h3, h6, h7, h8, hd⟩ L ih
  simp only at *
  by_cases h : k < v.keys.length
  · rw [List.drop_eq_getElem_cons h, textsE] at hd
    simp [a_value_texts_L0, h3, h6, h7, h8, h, loadD_map h, hc, wrap_succ h hw, cmp_Or2 hX]
    refine ih (k + 1, orE m (textE v.keys[k])) _ _ (by simp; omega) ?_
    simp [h3, h6, h7, hd]
    omega
  · obtain rfl : k = v.keys.length := by omega
    simp [textsE] at hd
    simp [a_value_texts_L0, h3, h6, h7, h8, FinR, FinP, finish, fz_osl, hd]

theorem risesS_drop {l : List (List UInt8)} {k : Nat} (h : k + 1 < l.length) : risesS (l.drop k) = (!(Op.bytesLess l[k + 1] l[k] || l[k + 1] == l[k]) && risesS (l.drop (k + 1))) := by
  rw [List.drop_eq_getElem_cons (by omega : k < l.length), List.drop_eq_getElem_cons h, risesS, ← List.drop_eq_getElem_cons h]
theorem risesS_end {l : List (List UInt8)} {k : Nat} (h : l.length ≤ k + 1) : risesS (l.drop k) = true := by
  by_cases h' : k < l.length
  · rw [List.drop_eq_getElem_cons h', List.drop_eq_nil_of_le (by omega)]; rfl
  · rw [List.drop_eq_nil_of_le (by omega)]; rfl
theorem value_rises (hX : CX X) (H : Heap) (f : Nl) (l : List (List UInt8)) (hw : (l.length : Int) ≤ 9223372036854775807) :
    callΩ X (.func n_value_rises [] []) [SL f (l.map D.str) l.length] H = some (.bool (risesS l), H) := by
  refine c_value_rises hX (by simp) ?_
  simp [a_value_rises_B, Env.ofArgs, List.nil_append, List.append_nil]
  refine YS_ind (fun k e H' => H' = H ∧ k ≤ l.length ∧ e.get 0 = SL f (l.map D.str) l.length ∧ e.get 5 = .int .i64 l.length ∧ e.get 6 = .int .i64 k ∧ risesS l = risesS (l.drop (k - 1))) (fun k => l.length - k) ?_ 0 (by simp)
  rintro k e H' ⟨rfl, hk, h3, h6, h8, hd⟩ L ih
  by_cases h : k < l.length
  · by_cases h0 : k = 0
    · subst h0
      have e1 := wrap_succ h hw
      simp at e1
      have h' : 0 < l.length := h
      simp at h8
      simp [a_value_rises_L0, h3, h6, h8, h', e1]
      refine ih 1 _ _ (by omega) ?_
      simp [h3, h6, hd]
      omega
    · obtain ⟨q, rfl⟩ : ∃ q, k = q + 1 := ⟨k - 1, by omega⟩
      simp only [Nat.add_sub_cancel] at hd
      rw [risesS_drop h] at hd
      have e2 : IntKind.i64.wrap (((q : Int) + 1) - 1) = q := by rw [wrap_i64 (by omega) (by omega)]; omega
      have e3 : (0 : Int) < (q : Int) + 1 := by omega
      have e5 := loadD_map (f := D.str) h
      have e6 : (q : Int) + 1 < l.length := by omega
      have e7 : ((q : Int) + 1).toNat = q + 1 := by omega
      have e8 : (0 : Int) ≤ (q : Int) + 1 := by omega
      have e9 := wrap_succ h hw
      simp at e2 e9
      cases hb : (Op.bytesLess l[q + 1] l[q] || l[q + 1] == l[q]) with
      | true =>
        rw [hb] at hd
        simp at hd hb
        simp [a_value_rises_L0, h3, h6, h8, h, loadD_map (show q < l.length by omega), e2, e3, e5, e6, e7, e8, e9, hb, FinR, FinP, finish, fz_osl, hd, show q < l.length by omega]
        intro g1 g2
        rcases hb with hb | hb
        · simp [hb] at g1
        · exact absurd hb g2
      | false =>
        rw [hb] at hd
        simp at hd hb
        simp [a_value_rises_L0, h3, h6, h8, h, loadD_map (show q < l.length by omega), e2, e3, e5, e6, e7, e8, e9, hb, show q < l.length by omega]
        refine ih (q + 2) _ _ (by omega) ?_
        simp [h3, h6, hd]
        omega
  · obtain rfl : k = l.length := by omega
    rw [risesS_end (by omega)] at hd
    simp [a_value_rises_L0, h3, h6, h8, FinR, FinP, finish, fz_osl, hd]

theorem value_own (hX : CX X) (H : Heap) (v : Val) (h1 : callΩ X (.func n_value_texts [] []) [.agg v.cells] H = some (.int .i64 (textsE (textE v.text) v.keys), H)) (h2 : callΩ X (.func n_value_numbers [] []) [.agg v.cells] H = some (.bool (numsS v), H))
    (h3 : callΩ X (.func n_value_used [] []) [.agg v.cells] H = some (.bool (usedS v), H)) (h4 : callΩ X (.func n_value_rises [] []) [SL v.keysF (v.keys.map D.str) v.keys.length] H = some (.bool (risesS v.keys), H)) :
    callΩ X (.func n_value_own [] []) [.agg v.cells] H = some (.int .i64 (ownS v), H) := by
  refine c_value_own hX (by simp) ?_
  simp +contextual -implicitDefEqProofs [a_value_own_B, Env.ofArgs, List.nil_append, List.append_nil, FinR, FinP, finish, fz_osl, h1, h2, h3, h4, ownS]
  intro ha hb
  have hn : ¬ (v.kind < 0 ∨ 6 < v.kind) := by omega
  refine ⟨fun _ h => absurd h hn, fun ht => ⟨fun h => ?_, fun h => ⟨fun hx => ?_, fun a b c => ?_⟩⟩⟩
  · rw [if_neg hn, if_pos (by omega)]
  · rw [if_neg hn, if_neg (by omega)]
    rcases hx with (hx | hx) | hx <;> simp [hx]
  · rw [if_neg hn, if_neg (by omega)]
end
end Go.AM.T
