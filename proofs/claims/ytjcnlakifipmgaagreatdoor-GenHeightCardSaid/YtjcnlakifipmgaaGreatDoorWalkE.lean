/- Operations, by name. -/
import Derived.Test.YtjcnlakifipmgaaGreatDoorWalkD
set_option linter.unusedVariables false
set_option linter.unusedSimpArgs false
set_option linter.unnecessarySimpa false
set_option maxRecDepth 100000
/- Codes: what both sides say of instructions. -/
namespace Go.AM.T
section
variable {X : Ctx}
def idxF : List Int → Int → Nat → Int
  | [], _, _ => -1
  | x :: r, v, k => if v = x then k else idxF r v (k + 1)
theorem idxF_nn : ∀ (l : List Int) (v : Int) (k : Nat), 0 ≤ idxF l v k ↔ v ∈ l
  | [], v, k => by simp [idxF]
  | x :: r, v, k => by
    unfold idxF
    by_cases h : v = x
    · simp [h]
    · simp [h, idxF_nn r v (k + 1)]
abbrev fslI (l : List Int) : D := .fsl (l.map (D.int .i64)) l.length
theorem index_int (hX : CX X) (l : List Int) (v : Int) (H : Heap) (hl : (l.length : Int) ≤ 9223372036854775807) : callΩ X (.func n_slices_Index_int_int [] []) [fslI l, .int .i64 v] H = some (.int .i64 (idxF l v 0), H) := by
  refine c_slices_Index_int_int hX (by simp) ?_
  simp [a_slices_Index_int_int_B, Env.ofArgs, List.nil_append, List.append_nil]
  refine YS_ind (fun k e H' => H' = H ∧ k ≤ l.length ∧ e.get 0 = fslI l ∧ e.get 1 = .int .i64 v ∧ e.get 7 = .int .i64 l.length ∧ e.get 8 = .int .i64 k ∧ idxF l v 0 = idxF (l.drop k) v k) (fun k => l.length - k) ?_ 0 (by simp)
  rintro k e H' ⟨rfl, hk, h0, h1, h2, h3, h4⟩ L ih
  by_cases h : k < l.length
  · rw [List.drop_eq_getElem_cons h, idxF] at h4
    by_cases hv : v = l[k]
    · rw [if_pos hv] at h4
      simp [a_slices_Index_int_int_L0, h0, h1, h2, h3, h, fslI, loadD_map h, ← hv, FinR, FinP, finish, fz_osl, h4]
    · rw [if_neg hv] at h4
      simp [a_slices_Index_int_int_L0, h0, h1, h2, h3, h, fslI, loadD_map h, hv, wrap_succ h hl]
      refine ih (k + 1) _ _ (by omega) ?_
      simp [h0, h1, h2, h4]
      omega
  · obtain rfl : k = l.length := by omega
    simp [idxF] at h4
    simp [a_slices_Index_int_int_L0, h0, h1, h2, h3, fslI, FinR, FinP, finish, fz_osl, h4]
theorem contains_int (hX : CX X) (l : List Int) (v : Int) (H : Heap) (hl : (l.length : Int) ≤ 9223372036854775807) : callΩ X (.func n_slices_Contains_int_int [] []) [fslI l, .int .i64 v] H = some (.bool (decide (v ∈ l)), H) := by
  refine c_slices_Contains_int_int hX (by simp) ?_
  have := index_int hX l v H hl
  simp [fslI] at this
  simp [a_slices_Contains_int_int_B, Env.ofArgs, List.nil_append, List.append_nil, this, FinR, FinP, finish, fz_osl, idxF_nn]

def goesL : List Int := [5, 6, 19, 20, 22, 28, 29]
def endsL : List Int := [0, 5, 7, 25, 32, 33, 34, 39]
def strOf : D → List UInt8
  | .str s => s
  | _ => []
def cellsOf : D → List D
  | .fsl cs _ => cs
  | _ => []
theorem ops_cases (op : Int) (h : 0 ≤ op ∧ op < 46) : op = 0 ∨ op = 1 ∨ op = 2 ∨ op = 3 ∨ op = 4 ∨ op = 5 ∨ op = 6 ∨ op = 7 ∨ op = 8 ∨ op = 9 ∨ op = 10 ∨ op = 11 ∨ op = 12 ∨ op = 13 ∨ op = 14 ∨ op = 15 ∨ op = 16 ∨ op = 17 ∨ op = 18 ∨ op = 19 ∨ op = 20 ∨ op = 21 ∨ op = 22 ∨ op = 23 ∨ op = 24 ∨ op = 25 ∨ op = 26 ∨ op = 27 ∨ op = 28 ∨ op = 29 ∨ op = 30 ∨ op = 31 ∨ op = 32 ∨ op = 33 ∨ op = 34 ∨ op = 35 ∨ op = 36 ∨ op = 37 ∨ op = 38 ∨ op = 39 ∨ op = 40 ∨ op = 41 ∨ op = 42 ∨ op = 43 ∨ op = 44 ∨ op = 45 := by omega
def uses (op : Int) : Int := if op ∈ [1, 5, 6, 14, 17, 19, 20, 22, 25, 27, 29, 31, 34, 41, 45] then 1 else if op ∈ [16, 28, 30, 33] then 2 else 0
theorem ops_used (op : Int) : op = 1 ∨ op = 5 ∨ op = 6 ∨ op = 14 ∨ op = 17 ∨ op = 19 ∨ op = 20 ∨ op = 22 ∨ op = 25 ∨ op = 27 ∨ op = 29 ∨ op = 31 ∨ op = 34 ∨ op = 41 ∨ op = 45 ∨ op = 16 ∨ op = 28 ∨ op = 30 ∨ op = 33 ∨ (¬ op = 1 ∧ ¬ op = 5 ∧ ¬ op = 6 ∧ ¬ op = 14 ∧ ¬ op = 17 ∧ ¬ op = 19 ∧ ¬ op = 20 ∧ ¬ op = 22 ∧ ¬ op = 25 ∧ ¬ op = 27 ∧ ¬ op = 29 ∧ ¬ op = 31 ∧ ¬ op = 34 ∧ ¬ op = 41 ∧ ¬ op = 45 ∧ ¬ op = 16 ∧ ¬ op = 28 ∧ ¬ op = 30 ∧ ¬ op = 33) := by omega
def strAt (l : List D) (a : Nat) : Option (List UInt8) := match l.drop a with
  | .str s :: _ => some s
  | _ => none
def intAt (l : List D) (a : Nat) : Option Int := match l.drop a with
  | .int .i64 n :: _ => some n
  | _ => none
theorem strAt_ld {l : List D} {a : Nat} {s : List UInt8} (h : strAt l a = some s) : loadD false 1 (l.drop a) = some (.str s) := by
  unfold strAt at h; split at h
  · rename_i hd; cases h; rw [hd]; rfl
  · cases h
theorem intAt_ld {l : List D} {a : Nat} {n : Int} (h : intAt l a = some n) : loadD false 1 (l.drop a) = some (.int .i64 n) := by
  unfold intAt at h; split at h
  · rename_i hd; cases h; rw [hd]; rfl
  · cases h
def cnt (k : Nat) : Int := (intAt (cellsOf v_bolterref16_Counts) k).getD 0
theorem tab_all : (List.range 52).all (fun k => (strAt (cellsOf v_natives_table) (k * 2)).isSome && (intAt (cellsOf v_natives_table) (k * 2 + 1) == some (cnt k) && ((strAt (cellsOf v_bolterref16_Names) k).isSome && intAt (cellsOf v_bolterref16_Counts) k == some (cnt k)))) = true := by decide +kernel
theorem tab_at {k : Nat} (h : k < 52) : (∃ s, loadD false 1 ((cellsOf v_natives_table).drop (k * 2)) = some (.str s)) ∧ loadD false 1 ((cellsOf v_natives_table).drop (k * 2 + 1)) = some (.int .i64 (cnt k)) ∧ (∃ s, loadD false 1 ((cellsOf v_bolterref16_Names).drop k) = some (.str s)) ∧ loadD false 1 ((cellsOf v_bolterref16_Counts).drop k) = some (.int .i64 (cnt k)) := by
  have := List.all_eq_true.1 tab_all k (List.mem_range.2 h)
  simp only [Bool.and_eq_true, beq_iff_eq, Option.isSome_iff_exists] at this
  obtain ⟨⟨s, h1⟩, h2, ⟨s', h3⟩, h4⟩ := this
  exact ⟨⟨s, strAt_ld h1⟩, intAt_ld h2, ⟨s', strAt_ld h3⟩, intAt_ld h4⟩
def natCnt (a : Int) : Option Int := if 0 ≤ a ∧ a < 52 then some (cnt a.toNat) else none
theorem natives_Name (hX : CX X) (a : Int) (H : Heap) : ∃ d H', callΩ X (.func n_natives_Name [] []) [.int .i64 a] H = some (d, H') ∧ ((∃ s n e, d = .tup [.str s, .int .i64 n, .int .i64 e] ∧ (∀ b, (e = 0 ∧ n = b) ↔ natCnt a = some b)) ∧ H' = H) := by
  refine p_natives_Name hX (by simp) ?_
  have hc := c_natives_table hX H
  rw [show v_natives_table = .fsl (cellsOf v_natives_table) 52 from rfl] at hc
  unfold natCnt
  by_cases h0 : a < 0
  · simp [a_natives_Name_B, Env.ofArgs, List.nil_append, List.append_nil, hc, h0, FinR, FinP, finish, fz_osl]
    exact ⟨_, _, _, ⟨rfl, rfl, rfl⟩, by intro b; simp; intro h; omega⟩
  · by_cases h1 : a < 52
    · obtain ⟨⟨s, t1⟩, t2, _, _⟩ := tab_at (k := a.toNat) (by omega)
      have h0' : 0 ≤ a := by omega
      have h2 : ¬ 52 ≤ a := by omega
      generalize cellsOf v_natives_table = cs at *
      simp [a_natives_Name_B, Env.ofArgs, List.nil_append, List.append_nil, hc, h0, h0', h1, h2, t1, t2, FinR, FinP, finish, fz_osl]
      exact ⟨_, _, _, ⟨rfl, rfl, rfl⟩, by intro b; simp⟩
    · have h2 : 52 ≤ a := by omega
      generalize cellsOf v_natives_table = cs at *
      simp [a_natives_Name_B, Env.ofArgs, List.nil_append, List.append_nil, hc, h0, h2, FinR, FinP, finish, fz_osl]
      exact ⟨_, _, _, ⟨rfl, rfl, rfl⟩, by intro b; simp; intro h; omega⟩
theorem ref16_Name (hX : CX X) (a : Int) (H : Heap) : ∃ d H', callΩ X (.func n_bolterref16_Name [] []) [.int .i64 a] H = some (d, H') ∧ ((∃ s n e, d = .tup [.str s, .int .i64 n, .int .i64 e] ∧ (∀ b, (e = 0 ∧ n = b) ↔ natCnt a = some b)) ∧ H' = H) := by
  refine p_bolterref16_Name hX (by simp) ?_
  have hc := c_bolterref16_Names hX H
  have hd := c_bolterref16_Counts hX H
  rw [show v_bolterref16_Names = .fsl (cellsOf v_bolterref16_Names) 52 from rfl] at hc
  rw [show v_bolterref16_Counts = .fsl (cellsOf v_bolterref16_Counts) 52 from rfl] at hd
  unfold natCnt
  by_cases h0 : a < 0
  · simp [a_bolterref16_Name_B, Env.ofArgs, List.nil_append, List.append_nil, hc, h0, FinR, FinP, finish, fz_osl]
    exact ⟨_, _, _, ⟨rfl, rfl, rfl⟩, by intro b; simp; intro h; omega⟩
  · by_cases h1 : a < 52
    · obtain ⟨_, _, ⟨s, t1⟩, t2⟩ := tab_at (k := a.toNat) (by omega)
      have h0' : 0 ≤ a := by omega
      have h2 : ¬ 52 ≤ a := by omega
      generalize cellsOf v_bolterref16_Names = cs at *
      generalize cellsOf v_bolterref16_Counts = ds at *
      simp [a_bolterref16_Name_B, Env.ofArgs, List.nil_append, List.append_nil, hc, hd, h0, h0', h1, h2, t1, t2, FinR, FinP, finish, fz_osl]
      exact ⟨_, _, _, ⟨rfl, rfl, rfl⟩, by intro b; simp⟩
    · have h2 : 52 ≤ a := by omega
      generalize cellsOf v_bolterref16_Names = cs at *
      simp [a_bolterref16_Name_B, Env.ofArgs, List.nil_append, List.append_nil, hc, h0, h2, FinR, FinP, finish, fz_osl]
      exact ⟨_, _, _, ⟨rfl, rfl, rfl⟩, by intro b; simp; intro h; omega⟩
end
end Go.AM.T
