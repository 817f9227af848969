/- Cores -/
import Derived.Test.YtjcnlakifipmgaaGreatDoorWalkA
import Derived.Test.YtjcnlakifipmgaaGreatDoorWalkG
import Derived.Test.YtjcnlakifipmgaaGreatDoorWalkE
set_option linter.unusedVariables false
set_option linter.unusedSimpArgs false
set_option linter.unnecessarySimpa false
set_option maxRecDepth 100000
/- Cores: how deep, how great. -/
namespace Go.AM.T
section
variable {X : Ctx}
attribute [simp] Core.load Core.load0 Core.take Core.cells_length Core.unders Core.ones Core.fz Core.l_kind Core.m_kind Core.l_index Core.m_index Core.t_index Core.l_count Core.m_count Core.l_name Core.m_name Core.l_value Core.m_value Core.l_value_kind Core.m_value_kind Core.l_value_text Core.m_value_text Core.l_value_list Core.m_value_list Core.l_value_keys Core.m_value_keys Core.l_kids Core.m_kids
mutual
def Core.wf : Core → Prop
  | .mk _ _ _ n v _ l => v.wf ∧ (n.length : Int) ≤ 9223372036854775807 ∧ (l.length : Int) ≤ 9223372036854775807 ∧ Core.wfL l
def Core.wfL : List Core → Prop
  | [] => True
  | c :: r => Core.wf c ∧ Core.wfL r
end
theorem Core.wfL_iff : ∀ {l : List Core}, Core.wfL l ↔ ∀ c ∈ l, Core.wf c
  | [] => by simp [Core.wfL]
  | c :: r => by simp [Core.wfL, Core.wfL_iff (l := r)]
theorem Core.wf_iff {c : Core} : Core.wf c ↔ c.value.wf ∧ (c.name.length : Int) ≤ 9223372036854775807 ∧ (c.kids.length : Int) ≤ 9223372036854775807 ∧ ∀ x ∈ c.kids, Core.wf x := by
  cases c; rw [Core.wf, Core.wfL_iff]; rfl
mutual
def deepC : Nat → Core → Nat
  | left, .mk _ _ _ _ _ _ l => if left = 0 then 0 else deepCL (left - 1) l
def deepCL : Nat → List Core → Nat
  | _, [] => 0
  | left, c :: r => max (1 + deepC left c) (deepCL left r)
end
theorem deepC_eq (left : Nat) (c : Core) : deepC left c = if left = 0 then 0 else deepCL (left - 1) c.kids := by cases c; rw [deepC]; rfl
theorem deepC_le : ∀ (n : Nat) (c : Core), deepC n c ≤ n := by
  intro n
  induction n with
  | zero => intro c; rw [deepC_eq]; simp
  | succ n ih =>
    intro c
    rw [deepC_eq]
    simp only [Nat.succ_ne_zero, if_false, Nat.add_sub_cancel]
    have key : ∀ l : List Core, deepCL n l ≤ n + 1 := fun l => by
      induction l with
      | nil => simp [deepCL]
      | cons x r ihl => simp only [deepCL]; have := ih x; omega
    exact key _
mutual
def sizeC : Core → Nat
  | .mk _ _ _ _ _ _ l => min (sizeCL 1 l) 1048576
def sizeCL : Nat → List Core → Nat
  | n, [] => n
  | n, c :: r => if 1048576 ≤ n then n else sizeCL (n + sizeC c) r
end
theorem sizeC_eq (c : Core) : sizeC c = min (sizeCL 1 c.kids) 1048576 := by cases c; rw [sizeC]; rfl
theorem sizeC_le (c : Core) : sizeC c ≤ 1048576 := by rw [sizeC_eq]; omega
mutual
def hC : Core → Nat
  | .mk _ _ _ _ _ _ l => hCL l + 1
def hCL : List Core → Nat
  | [] => 0
  | c :: r => max (hC c) (hCL r)
end
theorem hC_eq (c : Core) : hC c = hCL c.kids + 1 := by cases c; rw [hC]; rfl
theorem hCL_mem {c : Core} : ∀ {l : List Core}, c ∈ l → hC c ≤ hCL l
  | [], h => by simp at h
  | x :: r, h => by
    simp only [hCL]
    rcases List.mem_cons.1 h with rfl | h
    · omega
    · have := hCL_mem h; omega
theorem hC_deep (n : Nat) (c : Core) (h : deepC n c < n) : hC c = deepC n c + 1 := by
  induction n generalizing c with
  | zero => omega
  | succ n ih =>
    rw [deepC_eq] at h ⊢
    simp only [Nat.succ_ne_zero, if_false, Nat.add_sub_cancel] at h ⊢
    rw [hC_eq]
    have key : ∀ l : List Core, deepCL n l < n + 1 → hCL l = deepCL n l := fun l => by
      induction l with
      | nil => intro _; simp [deepCL, hCL]
      | cons x r ihl =>
        intro hl
        simp only [deepCL, hCL] at hl ⊢
        rw [ihl (by omega), ih x (by omega)]
        omega
    rw [key _ h]
theorem deepCL_drop {left : Nat} {l : List Core} {k : Nat} (h : k < l.length) : deepCL left (l.drop k) = max (1 + deepC left l[k]) (deepCL left (l.drop (k + 1))) := by
  rw [List.drop_eq_getElem_cons h, deepCL]
theorem core_deep (hX : CX X) (H : Heap) : ∀ (c : Core), Core.wf c → ∀ (left : Nat), left ≤ 1000 → callΩ X (.func n_core_deep [] []) [.agg c.cells, .int .i64 left] H = some (.int .i64 (deepC left c), H) := by
  intro c
  induction c using Core.ind with
  | h c ihc =>
  intro hw left hl
  rw [Core.wf_iff] at hw
  obtain ⟨hw1, hw2, hw3, hw4⟩ := hw
  refine c_core_deep hX (by simp) ?_
  rw [deepC_eq]
  simp [a_core_deep_B, Env.ofArgs, List.nil_append, List.append_nil]
  refine YS_ind (fun (k : Nat × Nat) e H' => H' = H ∧ k.1 ≤ c.kids.length ∧ k.2 ≤ left ∧ e.get 1 = .int .i64 left ∧ e.get 5 = .int .i64 k.2 ∧ e.get 9 = SL c.kidsF (Core.cellsL c.kids) c.kids.length ∧ e.get 10 = .int .i64 c.kids.length ∧ e.get 11 = .int .i64 k.1 ∧ (if left = 0 then 0 else deepCL (left - 1) c.kids) = (if left = 0 then k.2 else max k.2 (deepCL (left - 1) (c.kids.drop k.1)))) (fun k => c.kids.length - k.1) ?_ (0, 0) (by simp)
  rintro ⟨k, m⟩ e H' ⟨rfl, hk, hm, g1, g5, g9, g10, g11, hd⟩ L ih
  simp only at hk hm g1 g5 g9 g10 g11 hd ih
  by_cases h : k < c.kids.length
  · have h' : (k : Int) < c.kids.length := by omega
    have w1 : IntKind.i64.wrap ((k : Int) + 1) = (k : Int) + 1 := wrap_i64 (by omega) (by omega)
    by_cases hz : left = 0
    · subst hz
      simp at hd
      simp [a_core_deep_L0, g1, g5, g9, g10, g11, h, h', Core.cellsL_drop h, w1]
      refine ih (k + 1, m) _ _ (by simp; omega) ?_
      simp [g1, g5, g9, g10, hd]
      omega
    · rw [if_neg hz, if_neg hz, deepCL_drop h] at hd
      have hc := fun H => ihc c.kids[k] (by simp) (hw4 _ (by simp)) (left - 1) (by omega)
      have hle := deepC_le (left - 1) c.kids[k]
      have hpos : (0 : Int) < left := by omega
      have hpos' : 0 < left := by omega
      have w2 : IntKind.i64.wrap ((left : Int) - 1) = ((left - 1 : Nat) : Int) := by rw [wrap_i64 (by omega) (by omega)]; omega
      have w3 : IntKind.i64.wrap (1 + (deepC (left - 1) c.kids[k] : Int)) = 1 + (deepC (left - 1) c.kids[k] : Int) := wrap_i64 (by omega) (by omega)
      have hmx : max (m : Int) (1 + (deepC (left - 1) c.kids[k] : Int)) = ((max m (1 + deepC (left - 1) c.kids[k]) : Nat) : Int) := by omega
      simp [a_core_deep_L0, g1, g5, g9, g10, g11, h, h', Core.cellsL_drop h, hpos, hpos', w1, w2, w3, hc, hmx]
      refine ih (k + 1, max m (1 + deepC (left - 1) c.kids[k])) _ _ (by simp; omega) ?_
      simp [g1, g9, g10, hd, hz]
      omega
  · obtain rfl : k = c.kids.length := by omega
    simp [deepCL] at hd
    simp [a_core_deep_L0, FinR, FinP, finish, fz_osl, g1, g5, g9, g10, g11, hd]
theorem ref21_Deep (hX : CX X) (H : Heap) : ∀ (c : Core), Core.wf c → ∀ (left : Nat), left ≤ 1000 → callΩ X (.func n_bolterref21_Deep [] []) [.agg c.cells, .int .i64 left] H = some (.int .i64 (deepC left c), H) := by
  intro c
  induction c using Core.ind with
  | h c ihc =>
  intro hw left hl
  rw [Core.wf_iff] at hw
  obtain ⟨hw1, hw2, hw3, hw4⟩ := hw
  refine c_bolterref21_Deep hX (by simp) ?_
  rw [deepC_eq]
  simp [a_bolterref21_Deep_B, Env.ofArgs, List.nil_append, List.append_nil]
  refine YS_ind (fun (k : Nat × Nat) e H' => H' = H ∧ k.1 ≤ c.kids.length ∧ k.2 ≤ left ∧ e.get 1 = .int .i64 left ∧ e.get 2 = .fptr c.cells ∧ e.get 5 = .int .i64 k.2 ∧ e.get 6 = .int .i64 k.1 ∧ (if left = 0 then 0 else deepCL (left - 1) c.kids) = (if left = 0 then k.2 else max k.2 (deepCL (left - 1) (c.kids.drop k.1)))) (fun k => c.kids.length - k.1) ?_ (0, 0) (by simp)
  rintro ⟨k, m⟩ e H' ⟨rfl, hk, hm, g1, g2, g5, g6, hd⟩ L ih
  simp only at hk hm g1 g2 g5 g6 hd ih
  by_cases hz : left = 0
  · subst hz
    simp at hd
    by_cases h : k < c.kids.length
    · have h' : (k : Int) < c.kids.length := by omega
      simp [a_bolterref21_Deep_L0, FinR, FinP, finish, fz_osl, g1, g2, g5, g6, h, h', hd]
    · have h' : ¬ (k : Int) < c.kids.length := by omega
      simp [a_bolterref21_Deep_L0, FinR, FinP, finish, fz_osl, g1, g2, g5, g6, h, h', hd]
  · have hpos : (0 : Int) < left := by omega
    have hpos' : 0 < left := by omega
    rw [if_neg hz, if_neg hz] at hd
    by_cases h : k < c.kids.length
    · have h' : (k : Int) < c.kids.length := by omega
      have w1 : IntKind.i64.wrap ((k : Int) + 1) = (k : Int) + 1 := wrap_i64 (by omega) (by omega)
      rw [deepCL_drop h] at hd
      have hc := fun H => ihc c.kids[k] (by simp) (hw4 _ (by simp)) (left - 1) (by omega)
      have hle := deepC_le (left - 1) c.kids[k]
      have w2 : IntKind.i64.wrap ((left : Int) - 1) = ((left - 1 : Nat) : Int) := by rw [wrap_i64 (by omega) (by omega)]; omega
      have w3 : IntKind.i64.wrap (1 + (deepC (left - 1) c.kids[k] : Int)) = 1 + (deepC (left - 1) c.kids[k] : Int) := wrap_i64 (by omega) (by omega)
      have hmx : max (m : Int) (1 + (deepC (left - 1) c.kids[k] : Int)) = ((max m (1 + deepC (left - 1) c.kids[k]) : Nat) : Int) := by omega
      simp [a_bolterref21_Deep_L0, g1, g2, g5, g6, h, h', Core.cellsL_drop h, hpos, hpos', w1, w2, w3, hc, hmx]
      refine ih (k + 1, max m (1 + deepC (left - 1) c.kids[k])) _ _ (by simp; omega) ?_
      simp [g1, g2, hd, hz]
      omega
    · obtain rfl : k = c.kids.length := by omega
      simp [deepCL] at hd
      simp [a_bolterref21_Deep_L0, FinR, FinP, finish, fz_osl, g1, g2, g5, g6, hz, hd]
theorem sizeCL_drop {n : Nat} {l : List Core} {k : Nat} (h : k < l.length) : sizeCL n (l.drop k) = if 1048576 ≤ n then n else sizeCL (n + sizeC l[k]) (l.drop (k + 1)) := by
  rw [List.drop_eq_getElem_cons h, sizeCL]
theorem sizeCL_big {n : Nat} (h : 1048576 ≤ n) : ∀ l, sizeCL n l = n
  | [] => rfl
  | c :: r => by simp [sizeCL, h]
theorem core_Size (hX : CX X) (H : Heap) : ∀ (c : Core), Core.wf c → callΩ X (.func n_core_Size [] []) [.agg c.cells] H = some (.int .i64 (sizeC c), H) := by
  intro c
  induction c using Core.ind with
  | h c ihc =>
  intro hw
  rw [Core.wf_iff] at hw
  obtain ⟨hw1, hw2, hw3, hw4⟩ := hw
  refine c_core_Size hX (by simp) ?_
  rw [sizeC_eq]
  simp [a_core_Size_B, Env.ofArgs, List.nil_append, List.append_nil]
  refine YS_ind (fun (k : Nat × Nat) e H' => H' = H ∧ k.1 ≤ c.kids.length ∧ k.2 < 1048576 ∧ e.get 3 = .int .i64 k.2 ∧ e.get 7 = SL c.kidsF (Core.cellsL c.kids) c.kids.length ∧ e.get 8 = .int .i64 c.kids.length ∧ e.get 9 = .int .i64 k.1 ∧ sizeCL 1 c.kids = sizeCL k.2 (c.kids.drop k.1)) (fun k => c.kids.length - k.1) ?_ (0, 1) (by simp)
  rintro ⟨k, m⟩ e H' ⟨rfl, hk, hm, g3, g7, g8, g9, hd⟩ L ih
  simp only at hk hm g3 g7 g8 g9 hd ih
  by_cases h : k < c.kids.length
  · have h' : (k : Int) < c.kids.length := by omega
    have w1 : IntKind.i64.wrap ((k : Int) + 1) = (k : Int) + 1 := wrap_i64 (by omega) (by omega)
    have hc := ihc c.kids[k] (by simp) (hw4 _ (by simp))
    have hle := sizeC_le c.kids[k]
    have w2 : IntKind.i64.wrap ((m : Int) + sizeC c.kids[k]) = ((m + sizeC c.kids[k] : Nat) : Int) := by rw [wrap_i64 (by omega) (by omega)]; omega
    rw [sizeCL_drop h, if_neg (by omega)] at hd
    by_cases hb : 1048576 ≤ m + sizeC c.kids[k]
    · rw [sizeCL_big hb] at hd
      have hb' : (1048576 : Int) ≤ (m : Int) + sizeC c.kids[k] := by omega
      have hmn : min (m + sizeC c.kids[k]) 1048576 = 1048576 := by omega
      simp [a_core_Size_L0, FinR, FinP, finish, fz_osl, g3, g7, g8, g9, h, h', Core.cellsL_drop h, hc, w2, hb, hb', hd, hmn]
    · have hb' : ¬ (1048576 : Int) ≤ (m : Int) + sizeC c.kids[k] := by omega
      simp [a_core_Size_L0, g3, g7, g8, g9, h, h', Core.cellsL_drop h, hc, w1, w2, hb, hb']
      refine ih (k + 1, m + sizeC c.kids[k]) _ _ (by simp; omega) ?_
      simp [g7, g8, hd]
      omega
  · obtain rfl : k = c.kids.length := by omega
    simp [sizeCL] at hd
    have hmn : min m 1048576 = m := by omega
    simp [a_core_Size_L0, FinR, FinP, finish, fz_osl, g3, g7, g8, g9, hd, hmn]
theorem ref21_Size (hX : CX X) (H : Heap) : ∀ (c : Core), Core.wf c → callΩ X (.func n_bolterref21_Size [] []) [.agg c.cells] H = some (.int .i64 (sizeC c), H) := by
  intro c
  induction c using Core.ind with
  | h c ihc =>
  intro hw
  rw [Core.wf_iff] at hw
  obtain ⟨hw1, hw2, hw3, hw4⟩ := hw
  refine c_bolterref21_Size hX (by simp) ?_
  rw [sizeC_eq]
  simp [a_bolterref21_Size_B, Env.ofArgs, List.nil_append, List.append_nil]
  refine YS_ind (fun (k : Nat × Nat) e H' => H' = H ∧ k.1 ≤ c.kids.length ∧ k.2 ≤ 2097152 ∧ e.get 1 = .fptr c.cells ∧ e.get 3 = .int .i64 k.2 ∧ e.get 4 = .int .i64 k.1 ∧ sizeCL 1 c.kids = sizeCL k.2 (c.kids.drop k.1)) (fun k => c.kids.length - k.1) ?_ (0, 1) (by simp)
  rintro ⟨k, m⟩ e H' ⟨rfl, hk, hm, g1, g3, g4, hd⟩ L ih
  simp only at hk hm g1 g3 g4 hd ih
  by_cases h : k < c.kids.length
  · have h' : (k : Int) < c.kids.length := by omega
    have w1 : IntKind.i64.wrap ((k : Int) + 1) = (k : Int) + 1 := wrap_i64 (by omega) (by omega)
    have hc := ihc c.kids[k] (by simp) (hw4 _ (by simp))
    have hle := sizeC_le c.kids[k]
    have w2 : IntKind.i64.wrap ((m : Int) + sizeC c.kids[k]) = ((m + sizeC c.kids[k] : Nat) : Int) := by rw [wrap_i64 (by omega) (by omega)]; omega
    by_cases hb : 1048576 ≤ m
    · rw [sizeCL_big hb] at hd
      have hb' : ¬ (m : Int) < 1048576 := by omega
      have hb2 : ¬ m < 1048576 := by omega
      have hmn : min (m : Int) 1048576 = ((min m 1048576 : Nat) : Int) := by omega
      simp [a_bolterref21_Size_L0, FinR, FinP, finish, fz_osl, g1, g3, g4, h, h', hb, hb', hb2, hd, hmn]
    · have hb' : (m : Int) < 1048576 := by omega
      have hb2 : m < 1048576 := by omega
      rw [sizeCL_drop h, if_neg hb] at hd
      simp [a_bolterref21_Size_L0, g1, g3, g4, h, h', Core.cellsL_drop h, hc, w1, w2, hb', hb2]
      refine ih (k + 1, m + sizeC c.kids[k]) _ _ (by simp; omega) ?_
      simp [g1, hd]
      omega
  · obtain rfl : k = c.kids.length := by omega
    simp [sizeCL] at hd
    have hmn : min (m : Int) 1048576 = ((min m 1048576 : Nat) : Int) := by omega
    simp [a_bolterref21_Size_L0, FinR, FinP, finish, fz_osl, g1, g3, g4, hd, hmn]
theorem hCL_drop {l : List Core} {k : Nat} (h : k < l.length) : hCL (l.drop k) = max (hC l[k]) (hCL (l.drop (k + 1))) := by
  rw [List.drop_eq_getElem_cons h, hCL]
theorem gen_height (hX : CX X) (H : Heap) : ∀ (c : Core), Core.wf c → hC c ≤ 100000 → callΩ X (.func n_gen_height [] []) [.agg c.cells] H = some (.int .i64 (hC c), H) := by
  intro c
  induction c using Core.ind with
  | h c ihc =>
  intro hw hh
  rw [Core.wf_iff] at hw
  obtain ⟨hw1, hw2, hw3, hw4⟩ := hw
  refine c_gen_height hX (by simp) ?_
  rw [hC_eq] at hh ⊢
  simp [a_gen_height_B, Env.ofArgs, List.nil_append, List.append_nil]
  refine YS_ind (fun (k : Nat × Nat) e H' => H' = H ∧ k.1 ≤ c.kids.length ∧ e.get 3 = .int .i64 k.2 ∧ e.get 7 = SL c.kidsF (Core.cellsL c.kids) c.kids.length ∧ e.get 8 = .int .i64 c.kids.length ∧ e.get 9 = .int .i64 k.1 ∧ hCL c.kids = max k.2 (hCL (c.kids.drop k.1))) (fun k => c.kids.length - k.1) ?_ (0, 0) (by simp)
  rintro ⟨k, m⟩ e H' ⟨rfl, hk, g3, g7, g8, g9, hd⟩ L ih
  simp only at hk g3 g7 g8 g9 hd ih
  by_cases h : k < c.kids.length
  · have h' : (k : Int) < c.kids.length := by omega
    have w1 : IntKind.i64.wrap ((k : Int) + 1) = (k : Int) + 1 := wrap_i64 (by omega) (by omega)
    have hm := hCL_mem (c := c.kids[k]) (l := c.kids) (by simp)
    have hc := ihc c.kids[k] (by simp) (hw4 _ (by simp)) (by omega)
    rw [hCL_drop h] at hd
    have hmx : max (m : Int) (hC c.kids[k] : Int) = ((max m (hC c.kids[k]) : Nat) : Int) := by omega
    simp [a_gen_height_L0, g3, g7, g8, g9, h, h', Core.cellsL_drop h, hc, w1, hmx]
    refine ih (k + 1, max m (hC c.kids[k])) _ _ (by simp; omega) ?_
    simp [g7, g8, hd]
    omega
  · obtain rfl : k = c.kids.length := by omega
    simp [hCL] at hd
    have w1 : IntKind.i64.wrap ((m : Int) + 1) = (m : Int) + 1 := wrap_i64 (by omega) (by omega)
    simp [a_gen_height_L0, FinR, FinP, finish, fz_osl, g3, g7, g8, g9, hd, w1]
theorem law26_deep (hX : CX X) (H : Heap) : ∀ (c : Core), Core.wf c → hC c ≤ 100000 → callΩ X (.func n_bolterlaw26_deep [] []) [.agg c.cells] H = some (.int .i64 (hC c), H) := by
  intro c
  induction c using Core.ind with
  | h c ihc =>
  intro hw hh
  rw [Core.wf_iff] at hw
  obtain ⟨hw1, hw2, hw3, hw4⟩ := hw
  refine c_bolterlaw26_deep hX (by simp) ?_
  rw [hC_eq] at hh ⊢
  simp [a_bolterlaw26_deep_B, Env.ofArgs, List.nil_append, List.append_nil]
  refine YS_ind (fun (k : Nat × Nat) e H' => H' = H ∧ k.1 ≤ c.kids.length ∧ e.get 1 = .fptr c.cells ∧ e.get 3 = .int .i64 k.2 ∧ e.get 4 = .int .i64 k.1 ∧ hCL c.kids = max k.2 (hCL (c.kids.drop k.1))) (fun k => c.kids.length - k.1) ?_ (0, 0) (by simp)
  rintro ⟨k, m⟩ e H' ⟨rfl, hk, g1, g3, g4, hd⟩ L ih
  simp only at hk g1 g3 g4 hd ih
  by_cases h : k < c.kids.length
  · have h' : (k : Int) < c.kids.length := by omega
    have w1 : IntKind.i64.wrap ((k : Int) + 1) = (k : Int) + 1 := wrap_i64 (by omega) (by omega)
    have hm := hCL_mem (c := c.kids[k]) (l := c.kids) (by simp)
    have hc := ihc c.kids[k] (by simp) (hw4 _ (by simp)) (by omega)
    rw [hCL_drop h] at hd
    have hmx : max (m : Int) (hC c.kids[k] : Int) = ((max m (hC c.kids[k]) : Nat) : Int) := by omega
    simp [a_bolterlaw26_deep_L0, g1, g3, g4, h, h', Core.cellsL_drop h, hc, w1, hmx]
    refine ih (k + 1, max m (hC c.kids[k])) _ _ (by simp; omega) ?_
    simp [g1, hd]
    omega
  · obtain rfl : k = c.kids.length := by omega
    simp [hCL] at hd
    have w1 : IntKind.i64.wrap ((m : Int) + 1) = (m : Int) + 1 := wrap_i64 (by omega) (by omega)
    simp [a_bolterlaw26_deep_L0, FinR, FinP, finish, fz_osl, g1, g3, g4, hd, w1]
end
end Go.AM.T
/- What stands around a core. -/
namespace Go.AM.T
section
variable {X : Ctx}
def envD : List (Int × Int) → D
  | [] => .nilp
  | b :: r => .fptr [.int .i64 b.1, .int .i64 b.2, .str [], .bool false, .int .i64 ((r.length : Int) + 1), envD r]
def bindsD (l : List (Int × Int)) : List D := l.flatMap fun b => [.int .i64 b.1, .int .i64 b.2, .str []]
theorem envD_ok (e : List (Int × Int)) (H : Heap) : okD (envD e) H = some (envD e, H) := by cases e <;> rfl
theorem envD_one (e : List (Int × Int)) : (envD e).one = true := by cases e <;> rfl
theorem envD_cells (e : List (Int × Int)) : (envD e).cells = [envD e] := by cases e <;> rfl
theorem envD_under (e : List (Int × Int)) (n : Nat) : (envD e).under n = true := by cases e <;> rfl
theorem envD_nil (e : List (Int × Int)) : eqPtr (envD e) .nilp = some e.isEmpty := by cases e <;> rfl
theorem envD_fz (e : List (Int × Int)) (H : Heap) (n g : Nat) : fz H n (g + 1) (envD e) = some (envD e) := by cases e <;> rfl
attribute [simp] envD_ok envD_one envD_cells envD_under envD_nil envD_fz
theorem bindsD_drop {l : List (Int × Int)} {k : Nat} (h : k < l.length) : (bindsD l).drop (k * 3) = .int .i64 l[k].1 :: .int .i64 l[k].2 :: .str [] :: (bindsD l).drop (k * 3 + 3) := by
  induction l generalizing k with
  | nil => simp at h
  | cons x r ih =>
    cases k with
    | zero => simp [bindsD]
    | succ k =>
      have := ih (k := k) (by simpa using h)
      rw [show (k + 1) * 3 = k * 3 + 3 by omega, show k * 3 + 3 + 3 = (k * 3 + 3) + 3 by omega]
      simpa [bindsD] using this
theorem env_size (hX : CX X) (H : Heap) (e : List (Int × Int)) : callΩ X (.func n_core_env_size [] []) [envD e] H = some (.int .i64 e.length, H) := by
  refine c_core_env_size hX (by simp) ?_
  cases e with
  | nil => simp [a_core_env_size_B, Env.ofArgs, List.nil_append, List.append_nil, FinR, FinP, finish, fz_osl]
  | cons b r => simp [a_core_env_size_B, Env.ofArgs, List.nil_append, List.append_nil, FinR, FinP, finish, fz_osl, envD, eqPtr, ptrNil]
theorem env_with (hX : CX X) (H : Heap) (e l : List (Int × Int)) (hl : e.length + l.length ≤ 1000000) : callΩ X (.func n_core_env_with [] []) [envD e, .bool false, .fsl (bindsD l) l.length] H = some (envD (l.reverse ++ e), H) := by
  refine c_core_env_with hX (by simp) ?_
  simp [a_core_env_with_B, Env.ofArgs, List.nil_append, List.append_nil]
  refine YS_ind (fun k e1 H' => H' = H ∧ k ≤ l.length ∧ e1.get 0 = envD ((l.take k).reverse ++ e) ∧ e1.get 1 = .bool false ∧ e1.get 9 = .fsl (bindsD l) l.length ∧ e1.get 10 = .int .i64 l.length ∧ e1.get 11 = .int .i64 k) (fun k => l.length - k) ?_ 0 (by simp)
  rintro k e1 H' ⟨rfl, hk, g0, g1, g9, g10, g11⟩ L ih
  by_cases h : k < l.length
  · have h' : (k : Int) < l.length := by omega
    have w1 : IntKind.i64.wrap ((k : Int) + 1) = (k : Int) + 1 := wrap_i64 (by omega) (by omega)
    have hs := fun H => env_size hX H ((l.take k).reverse ++ e)
    have hn : ((l.take k).reverse ++ e).length = k + e.length := by simp; omega
    have htk : (l.take (k + 1)).reverse ++ e = l[k] :: ((l.take k).reverse ++ e) := by rw [List.take_succ_eq_append_getElem h, List.reverse_append]; rfl
    have htd : envD (l[k] :: ((l.take k).reverse ++ e)) = .fptr [.int .i64 l[k].1, .int .i64 l[k].2, .str [], .bool false, .int .i64 ((k : Int) + e.length + 1), envD ((l.take k).reverse ++ e)] := by
      rw [envD, hn]; simp
    rw [hn] at hs
    generalize (l.take k).reverse ++ e = u at *
    have w2 : IntKind.i64.wrap ((k : Int) + e.length + 1) = (k : Int) + e.length + 1 := wrap_i64 (by omega) (by omega)
    simp at hs
    simp [a_core_env_with_L0, g0, g1, g9, g10, g11, h, h', bindsD_drop h, loadD_t3, hs, w1, w2, z8]
    refine ih (k + 1) _ _ (by omega) ?_
    simp [g1, g9, g10, htk, htd]
    omega
  · obtain rfl : k = l.length := by omega
    simp [a_core_env_with_L0, FinR, FinP, finish, fz_osl, g0, g1, g9, g10, g11]
theorem is_1 (hX : CX X) (H : Heap) (e u : List (Int × Int)) (i : Int) (he : e ≠ []) (hu : u ≠ []) (hl : e.length ≤ 1000000) (hul : u.length ≤ e.length) : callΩ X (.func n_core_env_is_1 [] [.fptr [envD e], .fptr [.int .i64 i]]) [envD u] H = some (.bool (decide ((e.length : Int) - u.length = i)), H) := by
  refine c_core_env_is_1 hX (by simp) ?_
  cases e with
  | nil => exact absurd rfl he
  | cons b r =>
    cases u with
    | nil => exact absurd rfl hu
    | cons a s =>
      simp at hl hul
      have w1 : IntKind.i64.wrap ((r.length : Int) + 1 - ((s.length : Int) + 1)) = (r.length : Int) + 1 - ((s.length : Int) + 1) := wrap_i64 (by omega) (by omega)
      simp [a_core_env_is_1_B, Env.ofArgs, List.nil_append, List.append_nil, FinR, FinP, finish, fz_osl, envD, w1]
def isS (e : List (Int × Int)) (i w n : Int) : Bool := decide (0 ≤ i) && decide (e[i.toNat]? = some (w, n))
theorem env_find (hX : CX X) (H : Heap) (e : List (Int × Int)) (i : Int) (hl : e.length ≤ 1000000) : callΩ X (.func n_core_env_find [] []) [envD e, .func n_core_env_is_1 [] [.fptr [envD e], .fptr [.int .i64 i]]] H =
    some (if 0 ≤ i ∧ i < e.length then .tup [.int .i64 i, envD (e.drop i.toNat)] else .tup [.int .i64 (-1), .nilp], H) := by
  refine c_core_env_find hX (by simp) ?_
  simp [a_core_env_find_B, Env.ofArgs, List.nil_append, List.append_nil]
  refine YS_ind (fun k e1 H' => H' = H ∧ k ≤ e.length ∧ e1.get 0 = envD (e.drop k) ∧ e1.get 1 = .func n_core_env_is_1 [] [.fptr [envD e], .fptr [.int .i64 i]] ∧ e1.get 6 = .int .i64 k ∧ (0 ≤ i → i < e.length → (k : Int) ≤ i)) (fun k => e.length - k) ?_ 0 (by simp; intro a _; exact a)
  rintro k e1 H' ⟨rfl, hk, g0, g1, g6, hd⟩ L ih
  by_cases h : k < e.length
  · have w1 : IntKind.i64.wrap ((k : Int) + 1) = (k : Int) + 1 := wrap_i64 (by omega) (by omega)
    have hne : e ≠ [] := by intro q; subst q; simp at h
    have hnd : (e.drop k).isEmpty = false := by simp; omega
    have hud : e.drop k ≠ [] := by simp; omega
    have hc := fun H => is_1 hX H e (e.drop k) i hne hud hl (by simp)
    have hlen : (e.length : Int) - (e.drop k).length = k := by rw [List.length_drop]; omega
    rw [hlen] at hc
    have hcons := List.drop_eq_getElem_cons h
    have hkl : ¬ e.length ≤ k := by omega
    by_cases hi : (k : Int) = i
    · subst hi
      have hin : (0 : Int) ≤ (k : Int) ∧ (k : Int) < e.length := by omega
      rw [if_pos hin]
      simp at hc
      simp [a_core_env_find_L0, FinR, FinP, finish, fz_osl, g0, g1, g6, h, hkl, hc]
    · rw [decide_eq_false hi] at hc
      have hnc : ∀ H', nilchkK (envD (e.drop k)) H' = some (.fptr [.int .i64 e[k].1, .int .i64 e[k].2, .str [], .bool false, .int .i64 (((e.drop (k + 1)).length : Int) + 1), envD (e.drop (k + 1))], H') := fun H' => by rw [hcons]; rfl
      simp [a_core_env_find_L0, g0, g1, g6, h, hkl, hc, hnc, w1]
      refine ih (k + 1) _ _ (by omega) ?_
      simp [g1]
      exact ⟨by omega, fun q1 q2 => by have := hd q1 q2; omega⟩
  · obtain rfl : k = e.length := by omega
    have hin : ¬ ((0 : Int) ≤ i ∧ i < e.length) := fun q => by have := hd q.1 q.2; omega
    rw [if_neg hin]
    have hnil : e.drop e.length = [] := by simp
    rw [hnil] at g0
    simp [a_core_env_find_L0, FinR, FinP, finish, fz_osl, g0, g1, g6, envD, eqPtr, ptrNil]
theorem env_is (hX : CX X) (H : Heap) (e : List (Int × Int)) (i w n : Int) (hl : e.length ≤ 1000000) : callΩ X (.func n_core_env_is [] []) [envD e, .int .i64 i, .int .i64 w, .int .i64 n] H = some (.bool (isS e i w n), H) := by
  refine c_core_env_is hX (by simp) ?_
  have hf := fun H => env_find hX H e i hl
  by_cases hin : 0 ≤ i ∧ i < e.length
  · simp only [if_pos hin] at hf
    have hlt : i.toNat < e.length := by omega
    have hcons := List.drop_eq_getElem_cons hlt
    have hr : isS e i w n = (decide (e[i.toNat].1 = w) && decide (e[i.toNat].2 = n)) := by
      unfold isS
      rw [List.getElem?_eq_getElem hlt, decide_eq_true hin.1, Bool.true_and]
      rw [← Bool.decide_and, decide_eq_decide]
      constructor
      · intro q; have := Option.some.inj q; rw [this]; exact ⟨rfl, rfl⟩
      · rintro ⟨q1, q2⟩; congr 1; exact Prod.ext q1 q2
    rw [hr]
    rw [hcons] at hf
    generalize e[i.toNat] = b at *
    generalize e.drop (i.toNat + 1) = r at *
    by_cases q1 : b.1 = w
    · by_cases q2 : b.2 = n
      · simp [a_core_env_is_B, Env.ofArgs, List.nil_append, List.append_nil, FinR, FinP, finish, fz_osl, hf, hin.1, D.defd, q1, q2, envD, eqPtr, ptrNil]
      · simp [a_core_env_is_B, Env.ofArgs, List.nil_append, List.append_nil, FinR, FinP, finish, fz_osl, hf, hin.1, D.defd, q1, q2, envD, eqPtr, ptrNil]
    · simp [a_core_env_is_B, Env.ofArgs, List.nil_append, List.append_nil, FinR, FinP, finish, fz_osl, hf, hin.1, D.defd, q1, envD, eqPtr, ptrNil]
  · simp only [if_neg hin] at hf
    have hr : isS e i w n = false := by
      unfold isS
      by_cases q : 0 ≤ i
      · rw [List.getElem?_eq_none (by omega)]; simp
      · simp [q]
    rw [hr]
    by_cases q : 0 ≤ i
    · simp [a_core_env_is_B, Env.ofArgs, List.nil_append, List.append_nil, FinR, FinP, finish, fz_osl, hf, q, D.defd, eqPtr, ptrNil]
    · simp [a_core_env_is_B, Env.ofArgs, List.nil_append, List.append_nil, FinR, FinP, finish, fz_osl, hf, q, D.defd, eqPtr, ptrNil]
end
end Go.AM.T
/- What a core alone is held to. -/
namespace Go.AM.T
section
variable {X : Ctx}
theorem kinds (k : Int) (h : 0 ≤ k ∧ k ≤ 27) : k = 0 ∨ k = 1 ∨ k = 2 ∨ k = 3 ∨ k = 4 ∨ k = 5 ∨ k = 6 ∨ k = 7 ∨ k = 8 ∨ k = 9 ∨ k = 10 ∨ k = 11 ∨ k = 12 ∨ k = 13 ∨ k = 14 ∨ k = 15 ∨ k = 16 ∨ k = 17 ∨ k = 18 ∨ k = 19 ∨ k = 20 ∨ k = 21 ∨ k = 22 ∨ k = 23 ∨ k = 24 ∨ k = 25 ∨ k = 26 ∨ k = 27 := by omega
def bndC (k : Int) : Int × Int :=
  if k = 3 ∨ k = 4 then (1, 16384) else if k = 6 ∨ k = 11 ∨ k = 16 ∨ k = 22 ∨ k = 24 ∨ k = 27 then (1, 1) else if k = 5 ∨ k = 10 ∨ k = 13 ∨ k = 18 ∨ k = 19 ∨ k = 23 then (2, 2) else
  if k = 12 ∨ k = 14 then (3, 3) else if k = 15 then (4, 4) else if k = 7 then (0, 1) else if k = 8 then (0, 16384) else if k = 20 then (0, 8) else (0, 0)
set_option maxHeartbeats 4000000 in
theorem core_bounds (hX : CX X) (H : Heap) (c : Core) (h : 0 ≤ c.kind ∧ c.kind ≤ 27) :
    ∃ d H', callΩ X (.func n_core_bounds [] []) [.agg c.cells] H = some (d, H') ∧ ((∃ n, (∀ b, natCnt c.index = some b → n = b) ∧ d = .tup [.int .i64 (if c.kind = 9 then n else (bndC c.kind).1), .int .i64 (if c.kind = 9 then n else (bndC c.kind).2)]) ∧ H' = H) := by
  refine p_core_bounds hX (by simp) ?_
  obtain ⟨d0, H0, e0, ⟨s, n, er, rfl, hn⟩, rfl⟩ := natives_Name hX c.index H
  have hb : ∀ b, natCnt c.index = some b → n = b := fun b q => ((hn b).2 q).2
  generalize hk : c.kind = k at *
  rcases kinds k h with rfl | rfl | rfl | rfl | rfl | rfl | rfl | rfl | rfl | rfl | rfl | rfl | rfl | rfl | rfl | rfl | rfl | rfl | rfl | rfl | rfl | rfl | rfl | rfl | rfl | rfl | rfl | rfl <;> simp [a_core_bounds_B, Env.ofArgs, List.nil_append, List.append_nil, FinR, FinP, finish, fz_osl, hk, bndC, e0]
  all_goals first | exact hb | exact ⟨n, hb⟩ | exact ⟨n, hb, rfl⟩ | exact ⟨n, hb, rfl, rfl⟩
set_option maxHeartbeats 4000000 in
theorem ref21_count (hX : CX X) (H : Heap) (c : Core) (h : 0 ≤ c.kind ∧ c.kind ≤ 27) :
    callΩ X (.func n_bolterref21_count [] []) [.agg c.cells] H = some (.tup [.int .i64 (bndC c.kind).1, .int .i64 (bndC c.kind).2], H) := by
  refine c_bolterref21_count hX (by simp) ?_
  generalize hk : c.kind = k at *
  rcases kinds k h with rfl | rfl | rfl | rfl | rfl | rfl | rfl | rfl | rfl | rfl | rfl | rfl | rfl | rfl | rfl | rfl | rfl | rfl | rfl | rfl | rfl | rfl | rfl | rfl | rfl | rfl | rfl | rfl <;> simp [a_bolterref21_count_B, Env.ofArgs, List.nil_append, List.append_nil, FinR, FinP, finish, fz_osl, hk, bndC]
def nameL : List Int := [2, 16, 17, 19, 20, 21]
theorem core_nameable (hX : CX X) (H : Heap) (k : Int) : callΩ X (.func n_core_nameable [] []) [.int .i64 k] H = some (.bool (decide (k ∈ nameL)), H) := by
  refine c_core_nameable hX (by simp) ?_
  have := contains_int hX nameL k H (by simp [nameL])
  simp [nameL, fslI] at this
  simp [a_core_nameable_B, Env.ofArgs, List.nil_append, List.append_nil, FinR, FinP, finish, fz_osl, z0, this, nameL]
def ixB (c : Core) (e : List (Int × Int)) : Bool :=
  if c.kind = 2 then isS e c.index 1 0 else if c.kind = 9 then true else if c.kind = 10 then decide (0 ≤ c.index ∧ c.index ≤ 10) else if c.kind = 17 then isS e c.index 2 0 else
  if c.kind = 20 then isS e c.index 4 c.kids.length else if c.kind = 21 then isS e c.index 3 0 else decide (c.index = 0)
theorem env_indexed (hX : CX X) (H : Heap) (e : List (Int × Int)) (c : Core) (hl : e.length ≤ 1000000) : callΩ X (.func n_core_env_indexed [] []) [envD e, .agg c.cells] H = some (.bool (ixB c e), H) := by
  refine c_core_env_indexed hX (by simp) ?_
  have hi := fun i w n H => env_is hX H e i w n hl
  have hf := fun H => c_strings_Fields hX (H := H)
  unfold ixB
  by_cases h2 : c.kind = 2
  · simp [a_core_env_indexed_B, Env.ofArgs, List.nil_append, List.append_nil, FinR, FinP, finish, fz_osl, h2, hi]
  · by_cases h9 : c.kind = 9
    · simp [a_core_env_indexed_B, Env.ofArgs, List.nil_append, List.append_nil, FinR, FinP, finish, fz_osl, h9]
    · by_cases h10 : c.kind = 10
      · by_cases q : 0 ≤ c.index
        · by_cases q2 : c.index ≤ 10
          · have q3 : c.index < 11 := by omega
            simp [a_core_env_indexed_B, Env.ofArgs, List.nil_append, List.append_nil, FinR, FinP, finish, fz_osl, h10, hf, q, q2, q3]
          · have q3 : ¬ c.index < 11 := by omega
            simp [a_core_env_indexed_B, Env.ofArgs, List.nil_append, List.append_nil, FinR, FinP, finish, fz_osl, h10, hf, q, q2, q3]
        · simp [a_core_env_indexed_B, Env.ofArgs, List.nil_append, List.append_nil, FinR, FinP, finish, fz_osl, h10, hf, q]
      · by_cases h17 : c.kind = 17
        · simp [a_core_env_indexed_B, Env.ofArgs, List.nil_append, List.append_nil, FinR, FinP, finish, fz_osl, h17, hi]
        · by_cases h20 : c.kind = 20
          · simp [a_core_env_indexed_B, Env.ofArgs, List.nil_append, List.append_nil, FinR, FinP, finish, fz_osl, h20, hi]
          · by_cases h21 : c.kind = 21
            · simp [a_core_env_indexed_B, Env.ofArgs, List.nil_append, List.append_nil, FinR, FinP, finish, fz_osl, h21, hi]
            · simp [a_core_env_indexed_B, Env.ofArgs, List.nil_append, List.append_nil, FinR, FinP, finish, fz_osl, h2, h9, h10, h17, h20, h21]
end
end Go.AM.T
/- What a core alone is held to: both sides. -/
namespace Go.AM.T
section
variable {X : Ctx}
theorem gD_tup {v c : Bool} : gD v c (.tup []) = .tup [] := by unfold gD; split <;> rfl
theorem gdD_gD2 {v v' w c c' a : Bool} {o : Option (D × Heap)} {H : Heap} : gdD w (gD v c (gD v' c' (.bool a))) o H = gd v c (gd v' c' (gd w a o H) H) H := by
  unfold gD gd
  by_cases h : c = v
  · by_cases h' : c' = v'
    · simp [h, h', gdD, gd]
    · simp [h, h', gdD]
  · simp [h, gdD]
attribute [local simp] gD_tup gdD_gD2
def zeroV : Val := .mk 0 (.mk false .nil [] 0) [] .nil [] .nil []
noncomputable def valB (c : Core) : Bool := if c.kind = 1 then decide (chkS c.value = 0) else decide (nrm c.value = nrm zeroV)
def natN (c : Core) : Int := (natCnt c.index).getD 0
def bndS (c : Core) : Int × Int := if c.kind = 9 then (natN c, natN c) else bndC c.kind
noncomputable def singleS (c : Core) (e : List (Int × Int)) : Int :=
  if c.kind < 0 ∨ 27 < c.kind then 23 else
  if c.kind = 9 ∧ natCnt c.index = none then 4 else
  if ((c.kids.length : Int) < (bndS c).1 ∨ (bndS c).2 < c.kids.length) ∨ (c.kind = 8 ∧ c.kids.length % 2 = 1) then 3 else
  if ixB c e = false ∨ (c.kind = 19 ∧ (c.count < 0 ∨ 8 < c.count)) then 4 else
  if (valB c = false ∨ (¬ c.kind = 19 ∧ ¬ c.count = 0)) ∨ (¬ c.name = [] ∧ ¬ c.kind ∈ nameL) then 9 else 0
theorem zero_cells : zeroV.cells = [.int .i64 0, .bool false, .nilsl, .int .i64 0, .str [], .nilsl, .nilsl] := by
  unfold zeroV; rw [Val.cells_eq, Dec.cells_eq]; rfl
theorem rem_two (n : Nat) (h : (n : Int) ≤ 9223372036854775807) : IntKind.i64.wrap ((n : Int).tmod 2) = if n % 2 = 1 then 1 else 0 := by
  have : (n : Int).tmod 2 = ((n % 2 : Nat) : Int) := by rw [Int.tmod_eq_emod_of_nonneg (by omega)]; omega
  rw [this]
  have := Nat.mod_two_eq_zero_or_one n
  rcases this with q | q <;> rw [q] <;> decide
set_option maxHeartbeats 4000000 in
theorem env_single (hX : CX X) (H : Heap) (e : List (Int × Int)) (c : Core) (hl : e.length ≤ 1000000) (hw : Core.wf c) : callΩ X (.func n_core_env_single [] []) [envD e, .agg c.cells] H = some (.int .i64 (singleS c e), H) := by
  obtain ⟨hw1, hw2, hw3, hw4⟩ := Core.wf_iff.1 hw
  refine c_core_env_single hX (by simp) ?_
  by_cases hk : c.kind < 0 ∨ 27 < c.kind
  · have hs : singleS c e = 23 := by unfold singleS; rw [if_pos hk]
    rw [hs]
    by_cases q : c.kind < 0
    · simp [a_core_env_single_B, Env.ofArgs, List.nil_append, List.append_nil, FinR, FinP, finish, fz_osl, q]
    · have q2 : 27 < c.kind := by omega
      simp [a_core_env_single_B, Env.ofArgs, List.nil_append, List.append_nil, FinR, FinP, finish, fz_osl, q, q2]
  · have k1 : ¬ c.kind < 0 := by omega
    have k2 : ¬ 27 < c.kind := by omega
    obtain ⟨d0, H0, e0, ⟨s, n, er, rfl, hn⟩, hH0⟩ := natives_Name hX c.index H
    subst hH0
    obtain ⟨d1, H1, e1, ⟨m, hm, rfl⟩, hH1⟩ := core_bounds hX H0 c (by omega)
    subst hH1
    have hvs := fun H => value_Same hX c.value zeroV H hw1
    rw [zero_cells] at hvs
    have hvc := fun H => value_Check hX H c.value hw1
    have hix := fun H => env_indexed hX H e c hl
    have hnm := fun k H => core_nameable hX H k
    have hrem : ((c.kids.length : Int).tmod 2 = 1) = (c.kids.length % 2 = 1) := by rw [Int.tmod_eq_emod_of_nonneg (by omega)]; apply propext; omega
    have hrem2 := rem_two c.kids.length hw3
    by_cases h9 : c.kind = 9 ∧ ¬ er = 0
    · have hs : singleS c e = 4 := by
        have hnone : natCnt c.index = none := by
          cases hq : natCnt c.index with
          | none => rfl
          | some b => exact absurd ((hn b).2 hq).1 h9.2
        unfold singleS; rw [if_neg hk, if_pos ⟨h9.1, hnone⟩]
      rw [hs]
      simp [a_core_env_single_B, Env.ofArgs, List.nil_append, List.append_nil, FinR, FinP, finish, fz_osl, h9.1, h9.2, e0]
    · have hs : singleS c e = if ((c.kids.length : Int) < (if c.kind = 9 then m else (bndC c.kind).1) ∨ (if c.kind = 9 then m else (bndC c.kind).2) < c.kids.length) ∨ (c.kind = 8 ∧ c.kids.length % 2 = 1) then 3 else
          if ixB c e = false ∨ (c.kind = 19 ∧ (c.count < 0 ∨ 8 < c.count)) then 4 else
          if (valB c = false ∨ (¬ c.kind = 19 ∧ ¬ c.count = 0)) ∨ (¬ c.name = [] ∧ ¬ c.kind ∈ nameL) then 9 else 0 := by
        have hno : ¬ (c.kind = 9 ∧ natCnt c.index = none) := fun q => by
          have her : er = 0 := Decidable.not_not.1 fun w => h9 ⟨q.1, w⟩
          have := (hn n).1 ⟨her, rfl⟩
          rw [q.2] at this; cases this
        have hb : bndS c = (if c.kind = 9 then m else (bndC c.kind).1, if c.kind = 9 then m else (bndC c.kind).2) := by
          unfold bndS
          by_cases q : c.kind = 9
          · have her : er = 0 := Decidable.not_not.1 fun w => h9 ⟨q, w⟩
            have h1 := (hn n).1 ⟨her, rfl⟩
            have h2 := hm n h1
            simp [q, natN, h1, h2]
          · simp [q]
        unfold singleS; rw [if_neg hk, if_neg hno, hb]
      rw [hs]
      clear hs hn hm
      generalize (if c.kind = 9 then m else (bndC c.kind).1) = f at *
      generalize (if c.kind = 9 then m else (bndC c.kind).2) = t at *
      have h9' : (decide (c.kind = 9) && !decide (er = 0)) = false := by
        by_cases q : c.kind = 9
        · have her : er = 0 := Decidable.not_not.1 fun w => h9 ⟨q, w⟩
          simp [her]
        · simp [q]
      generalize hI : ixB c e = I at *
      simp +contextual -implicitDefEqProofs [a_core_env_single_B, Env.ofArgs, List.nil_append, List.append_nil, FinR, FinP, finish, fz_osl, e0, e1, k1, k2, h9', hvs, hvc, hix, hnm, hrem, z2, valB]
      have hcb : f ≤ c.kids.length → c.kids.length ≤ t → (c.kind = 8 → c.kids.length % 2 = 0) → ¬ (((c.kids.length : Int) < f ∨ t < c.kids.length) ∨ c.kind = 8 ∧ c.kids.length % 2 = 1) := by
        rintro a b c8 ((q | q) | ⟨q1, q2⟩)
        · omega
        · omega
        · have := c8 q1; omega
      have hcd : (c.kind = 19 → 0 ≤ c.count ∧ c.count ≤ 8) → ¬ (c.kind = 19 ∧ (c.count < 0 ∨ 8 < c.count)) := by
        rintro q ⟨q1, q2⟩
        have := q q1; omega
      refine ⟨fun k1 a b i v cn nm => ?_, fun k1 a b c8 i c19 => ⟨fun h => ?_, fun v cn nm => ?_⟩⟩
      · rw [if_neg (by omega), if_neg (fun q => q.2 (nm q.1))]
      · rw [if_neg (hcb a b c8), if_neg (hcd c19)]
      · rw [if_neg (hcb a b c8), if_neg (hcd c19), if_neg]
        rintro (⟨q1, q2⟩ | ⟨q1, q2⟩)
        · exact q2 (cn q1)
        · exact q2 (nm q1)
/-- Integers that are read, of a value or of memory. -/
structure RdN (H : Heap) (l : List Int) (d : D) (p : Nat → D) : Prop where
  ok : ∀ H', okD d H' = some (d, H')
  len : ∀ H', lenK false d H' = some (.int .i64 l.length, H')
  ia : ∀ H' k (j : Int), iaddrK 1 d (.int k j) H' = if 0 ≤ j ∧ j < l.length then some (p j.toNat, H') else none
  ld : ∀ x j, cellsAt (H ++ x) (p j) = some ((intsD l).drop j)
  el : ∀ x, elems (H ++ x) 1 d = some (intsD l, l.length)
theorem RdN.sl (H : Heap) (f : Nl) (l : List Int) : ∃ p, RdN H l (SL f (intsD l) l.length) p := by
  refine ⟨fun j => .fptr ((intsD l).drop j), fun _ => okD_SL, fun _ => lenK_SL, fun _ _ j => by rw [iaddrK_SL]; simp, fun x j => rfl, fun x => elems_SL (by simp)⟩
theorem RdN.own {H : Heap} {l : List Int} {id : Nat} {nil : Bool} (h : H[id]? = some (.row 1 (intsD l) nil)) (hn : nil = true → l = []) : ∃ p, RdN H l (.osl id l.length 0 l.length) p := by
  have hid : id < H.length := (List.getElem?_eq_some_iff.1 h).1
  have hx : ∀ x : Heap, (H ++ x)[id]? = some (.row 1 (intsD l) nil) := fun x => by rw [List.getElem?_append_left hid]; exact h
  by_cases hl : l = []
  · subst hl
    refine ⟨fun _ => .fptr [], fun _ => rfl, fun _ => rfl, fun _ _ j => by rw [iaddrK_osl, if_neg (by simp), if_neg (by simp)], fun x j => by simp [cellsAt_fptr], fun x => by simp [elems, hx]⟩
  · have hnil : nil = false := by cases nil with
      | false => rfl
      | true => exact absurd (hn rfl) hl
    subst hnil
    refine ⟨fun j => .rptr id l.length j, fun _ => rfl, fun _ => rfl, fun _ _ j => by rw [iaddrK_osl]; simp, fun x j => by rw [cellsAt_rptr, hx, rowO_row, bindO_some, if_pos (by simp)], fun x => by simp [elems, hx, List.take_of_length_le]⟩
theorem RdN.ld0 {H : Heap} {l : List Int} {d : D} {p : Nat → D} (h : RdN H l d p) (j : Nat) : cellsAt H (p j) = some ((intsD l).drop j) := by
  have := h.ld [] j
  simpa using this
/-- A binder as the page has it. -/
def bnI (b : Int × Int) : Int := if b.1 = 4 then 10 + b.2 else b.1
def bnL (e : List (Int × Int)) : List Int := (e.map bnI).reverse
theorem bnL_len (e : List (Int × Int)) : (bnL e).length = e.length := by simp [bnL]
theorem bnL_get {e : List (Int × Int)} {i : Nat} (h : i < e.length) : (bnL e)[e.length - 1 - i]? = some (bnI e[i]) := by
  unfold bnL
  rw [List.getElem?_reverse (by simp; omega)]
  simp only [List.length_map]
  rw [show e.length - 1 - (e.length - 1 - i) = i by omega, List.getElem?_map, List.getElem?_eq_getElem h]; rfl
def binderS (e : List (Int × Int)) (i : Int) : Int := if 0 ≤ i then (match e[i.toNat]? with
  | some b => bnI b
  | none => 0) else 0
theorem ref21_binder (hX : CX X) (H : Heap) (e : List (Int × Int)) (d : D) (p : Nat → D) (hr : RdN H (bnL e) d p) (i : Int) (hl : e.length ≤ 1000000) : callΩ X (.func n_bolterref21_binder [] []) [d, .int .i64 i] H = some (.int .i64 (binderS e i), H) := by
  refine c_bolterref21_binder hX (by simp) ?_
  have hlen := fun H' => hr.len H'
  rw [bnL_len] at hlen
  have hia := fun H' k j => hr.ia H' k j
  rw [bnL_len] at hia
  unfold binderS
  by_cases q : 0 ≤ i
  · by_cases q2 : i < e.length
    · have hlt : i.toNat < e.length := by omega
      rw [if_pos q, List.getElem?_eq_getElem hlt]
      have w1 : IntKind.i64.wrap ((e.length : Int) - 1) = (e.length : Int) - 1 := wrap_i64 (by omega) (by omega)
      have w2 : IntKind.i64.wrap ((e.length : Int) - 1 - i) = (e.length : Int) - 1 - i := wrap_i64 (by omega) (by omega)
      have q3 : ¬ i < 0 := by omega
      have q4 : ¬ (e.length : Int) ≤ i := by omega
      have q5 : (0 : Int) ≤ (e.length : Int) - 1 - i ∧ (e.length : Int) - 1 - i < e.length := by omega
      have q6 : i ≤ (e.length : Int) - 1 := by omega
      have hj : ((e.length : Int) - 1 - i).toNat = e.length - 1 - i.toNat := by omega
      have hg := bnL_get hlt
      have hld : loadD false 1 (List.drop (e.length - 1 - i.toNat) (intsD (bnL e))) = some (.int .i64 (bnI e[i.toNat])) := by
        obtain ⟨h1, h2⟩ := List.getElem?_eq_some_iff.1 hg
        rw [← h2]; exact loadD_map h1
      have hc := hr.ld0 (e.length - 1 - i.toNat)
      simp [a_bolterref21_binder_B, Env.ofArgs, List.nil_append, List.append_nil, FinR, FinP, finish, fz_osl, hr.ok, hlen, hia, q3, q4, w1, w2, q5, q6, hj, hc, hld]
    · have hnone : e[i.toNat]? = none := List.getElem?_eq_none (by omega)
      rw [if_pos q, hnone]
      have q3 : ¬ i < 0 := by omega
      have q4 : (e.length : Int) ≤ i := by omega
      simp [a_bolterref21_binder_B, Env.ofArgs, List.nil_append, List.append_nil, FinR, FinP, finish, fz_osl, hr.ok, hlen, q3, q4]
  · rw [if_neg q]
    have q3 : i < 0 := by omega
    simp [a_bolterref21_binder_B, Env.ofArgs, List.nil_append, List.append_nil, FinR, FinP, finish, fz_osl, hr.ok, hlen, q3]
end
end Go.AM.T
