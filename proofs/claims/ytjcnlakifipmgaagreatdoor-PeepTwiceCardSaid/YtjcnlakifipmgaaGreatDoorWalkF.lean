/- Both checks of a code. -/
import Derived.Test.YtjcnlakifipmgaaGreatDoorWalkE
set_option linter.unusedVariables false
set_option linter.unusedSimpArgs false
set_option linter.unnecessarySimpa false
set_option maxRecDepth 100000
/- Codes: both checks of a code. -/
namespace Go.AM.T
section
variable {X : Ctx}
def limS (op : Int) (n c : Nat) : Int × Int :=
  if op = 1 then ((c : Int) - 1, 0) else if op = 28 then ((n : Int) - 1, 8) else if op ∈ goesL then ((n : Int) - 1, 0) else if op = 17 then (10, 0) else
  if op = 14 ∨ op = 41 then (15, 0) else if uses op = 0 then (0, 0) else if uses op = 1 then (4096, 0) else (4096, 4096)
def mayS (op a b : Int) (n c : Nat) : Bool :=
  if op = 16 then decide (natCnt a = some b) else (decide (0 ≤ a ∧ a ≤ (limS op n c).1) && decide (0 ≤ b ∧ b ≤ (limS op n c).2))
def Other (op : Int) : Prop := ¬ op = 1 ∧ ¬ op = 16 ∧ ¬ op = 17 ∧ ¬ op = 14 ∧ ¬ op = 41 ∧ ¬ op = 28 ∧ ¬ op = 25 ∧ ¬ op = 27 ∧ ¬ op = 31 ∧ ¬ op = 34 ∧ ¬ op = 45 ∧ ¬ op = 30 ∧ ¬ op = 33 ∧ ¬ op = 5 ∧ ¬ op = 6 ∧ ¬ op = 19 ∧ ¬ op = 20 ∧ ¬ op = 22 ∧ ¬ op = 29
theorem ops_cat (op : Int) : op = 1 ∨ op = 17 ∨ op = 14 ∨ op = 41 ∨ op = 28 ∨ op = 25 ∨ op = 27 ∨ op = 31 ∨ op = 34 ∨ op = 45 ∨ op = 30 ∨ op = 33 ∨ op = 5 ∨ op = 6 ∨ op = 19 ∨ op = 20 ∨ op = 22 ∨ op = 29 ∨ op = 16 ∨ Other op := by
  unfold Other; omega
theorem uses_other {op : Int} (h : Other op) : uses op = 0 := by
  unfold Other at h; unfold uses
  rw [if_neg (by simp; omega), if_neg (by simp; omega)]
theorem goes_other {op : Int} (h : Other op) : (op ∈ goesL) = False := by
  unfold Other at h; unfold goesL
  simp; omega

set_option maxHeartbeats 4000000 in
theorem code_limits (hX : CX X) (H : Heap) (c : Code) (x : Instr) (hop : 0 ≤ x.op ∧ x.op < 46) (h16 : ¬ x.op = 16) (h1 : (c.instrs.length : Int) ≤ 9223372036854775807) (h2 : (c.consts.length : Int) ≤ 9223372036854775807) :
    callΩ X (.func n_code_limits [] []) [.agg c.cells, .agg x.cells] H = some (.tup [.int .i64 (limS x.op c.instrs.length c.consts.length).1, .int .i64 (limS x.op c.instrs.length c.consts.length).2], H) := by
  refine c_code_limits hX (by simp) ?_
  have w1 : IntKind.i64.wrap ((c.instrs.length : Int) - 1) = (c.instrs.length : Int) - 1 := wrap_i64 (by omega) (by omega)
  have w2 : IntKind.i64.wrap ((c.consts.length : Int) - 1) = (c.consts.length : Int) - 1 := wrap_i64 (by omega) (by omega)
  have w3 : IntKind.i64.wrap (0 + 1) = 1 := by decide +kernel
  have w4 : IntKind.i64.wrap 1 = 1 := by decide +kernel
  have w5 : IntKind.i64.wrap (1 + 1) = 2 := by decide +kernel
  have w6 : IntKind.i64.wrap 2 = 2 := by decide +kernel
  have hg := fun H' => code_Goes hX x.op H'
  have hu := fun H' => code_Uses hX x.op hop H'
  rcases ops_cat x.op with h | h | h | h | h | h | h | h | h | h | h | h | h | h | h | h | h | h | h | h
  case inr.inr.inr.inr.inr.inr.inr.inr.inr.inr.inr.inr.inr.inr.inr.inr.inr.inr.inl => exact absurd h h16
  case inr.inr.inr.inr.inr.inr.inr.inr.inr.inr.inr.inr.inr.inr.inr.inr.inr.inr.inr =>
    have g1 := goes_other h
    have g2 := uses_other h
    obtain ⟨q1, q2, q3, q4, q5, q6, q7, q8, q9, q10, q11, q12, q13, q14, q15, q16, q17, q18, q19⟩ := h
    simp [a_code_limits_B, Env.ofArgs, List.nil_append, List.append_nil, FinR, FinP, finish, fz_osl, q1, q3, q4, q5, q6, hg, g1, hu, g2, limS]
    refine ⟨rfl, ?_⟩
    rw [YS_loopU]
    simp [a_code_limits_L0, FinR, FinP, finish, fz_osl]
  all_goals
    rw [h] at hg hu
    simp [goesL] at hg
    simp [uses] at hu
    simp [a_code_limits_B, Env.ofArgs, List.nil_append, List.append_nil, FinR, FinP, finish, fz_osl, h, w1, w2, hg, hu, limS, uses, goesL]
  all_goals
    refine ⟨rfl, ?_⟩
    rw [YS_loopU]
    simp [a_code_limits_L0, w3, w4]
    rw [YS_loopU]
    simp [w3, w4, w5, w6, FinR, FinP, finish, fz_osl]
  all_goals
    rw [YS_loopU]
    simp [w3, w4, w5, w6, FinR, FinP, finish, fz_osl]

theorem code_may (hX : CX X) (H : Heap) (c : Code) (x : Instr) (hop : 0 ≤ x.op ∧ x.op < 46) (h1 : (c.instrs.length : Int) ≤ 9223372036854775807) (h2 : (c.consts.length : Int) ≤ 9223372036854775807) :
    callΩ X (.func n_code_may [] []) [.agg c.cells, .agg x.cells] H = some (.bool (mayS x.op x.a x.b c.instrs.length c.consts.length), H) := by
  refine c_code_may hX (by simp) ?_
  unfold mayS
  by_cases h16 : x.op = 16
  · obtain ⟨d, H', g1, ⟨s, n, e, rfl, g2⟩, rfl⟩ := natives_Name hX x.a H
    have g3 : decide (natCnt x.a = some x.b) = (decide (e = 0) && decide (n = x.b)) := by rw [← Bool.decide_and, decide_eq_decide]; exact (g2 x.b).symm
    simp +contextual -implicitDefEqProofs [a_code_may_B, Env.ofArgs, List.nil_append, List.append_nil, FinR, FinP, finish, fz_osl, h16, g1, g3]
  · have hl := code_limits hX H c x hop h16 h1 h2
    generalize limS x.op c.instrs.length c.consts.length = pq at *
    obtain ⟨p, q⟩ := pq
    simp only at hl
    simp +contextual -implicitDefEqProofs [a_code_may_B, Env.ofArgs, List.nil_append, List.append_nil, FinR, FinP, finish, fz_osl, h16, hl, T.code_in hX]

theorem natCnt_nn {a b : Int} (h : natCnt a = some b) : uses 16 = 2 := rfl
set_option maxHeartbeats 2000000 in
theorem ref25_may (hX : CX X) (H : Heap) (x : Instr) (n c : Nat) (hop : 0 ≤ x.op ∧ x.op < 46) (h1 : (n : Int) ≤ 9223372036854775807) (h2 : (c : Int) ≤ 9223372036854775807) :
    callΩ X (.func n_bolterref25_may [] []) [.agg x.cells, .int .i64 n, .int .i64 c] H = some (.bool (mayS x.op x.a x.b n c), H) := by
  refine c_bolterref25_may hX (by simp) ?_
  have w1 : IntKind.i64.wrap ((n : Int) - 1) = (n : Int) - 1 := wrap_i64 (by omega) (by omega)
  have w2 : IntKind.i64.wrap ((c : Int) - 1) = (c : Int) - 1 := wrap_i64 (by omega) (by omega)
  have hg := fun H' => ref_Goes hX x.op H'
  have hu := fun H' => ref_Uses hX x.op hop H'
  have hin := fun a b H' => ref_in hX a b H'
  unfold mayS
  rcases ops_cat x.op with h | h | h | h | h | h | h | h | h | h | h | h | h | h | h | h | h | h | h | h
  case inr.inr.inr.inr.inr.inr.inr.inr.inr.inr.inr.inr.inr.inr.inr.inr.inr.inr.inl =>
    obtain ⟨d, H', g1, ⟨s, m, e, rfl, g2⟩, rfl⟩ := ref16_Name hX x.a H
    have g3 : decide (natCnt x.a = some x.b) = (decide (e = 0) && decide (m = x.b)) := by rw [← Bool.decide_and, decide_eq_decide]; exact (g2 x.b).symm
    rw [h] at hg hu
    simp [goesL] at hg
    simp [uses] at hu
    simp +contextual -implicitDefEqProofs [a_bolterref25_may_B, Env.ofArgs, List.nil_append, List.append_nil, FinR, FinP, finish, fz_osl, h, hg, hu, g1, g3]
  case inr.inr.inr.inr.inr.inr.inr.inr.inr.inr.inr.inr.inr.inr.inr.inr.inr.inr.inr =>
    have g1 := goes_other h
    have g2 := uses_other h
    obtain ⟨q1, q2, q3, q4, q5, q6, q7, q8, q9, q10, q11, q12, q13, q14, q15, q16, q17, q18, q19⟩ := h
    by_cases hb : x.b = 0
    · by_cases ha : x.a = 0
      · simp +contextual -implicitDefEqProofs [a_bolterref25_may_B, Env.ofArgs, List.nil_append, List.append_nil, FinR, FinP, finish, fz_osl, q1, q2, q3, q4, q5, q6, q7, q8, q9, q10, q11, q12, q13, hg, g1, hu, g2, limS, ha, hb]
      · simp +contextual -implicitDefEqProofs [a_bolterref25_may_B, Env.ofArgs, List.nil_append, List.append_nil, FinR, FinP, finish, fz_osl, q1, q2, q3, q4, q5, q6, q7, q8, q9, q10, q11, q12, q13, hg, g1, hu, g2, limS, ha, hb]
        omega
    · simp +contextual -implicitDefEqProofs [a_bolterref25_may_B, Env.ofArgs, List.nil_append, List.append_nil, FinR, FinP, finish, fz_osl, q1, q2, q3, q4, q5, q6, q7, q8, q9, q10, q11, q12, q13, hg, g1, hu, g2, limS, hb]
      omega
  all_goals
    rw [h] at hg hu
    simp [goesL] at hg
    simp [uses] at hu
    simp +contextual -implicitDefEqProofs [a_bolterref25_may_B, Env.ofArgs, List.nil_append, List.append_nil, FinR, FinP, finish, fz_osl, h, w1, w2, hg, hu, hin, limS, uses, goesL]
    try (first | omega | skip)
end
end Go.AM.T
/- Codes: both checks of a code. -/
namespace Go.AM.T
section
variable {X : Ctx}
def instrsE (n c : Nat) : List Instr → Int
  | [] => 0
  | x :: r => if ¬ (0 ≤ x.op ∧ x.op < 46) then 23 else if mayS x.op x.a x.b n c = false then 4 else instrsE n c r
def lastOp (l : List Instr) : Int := match l.getLast? with
  | some x => x.op
  | none => 0
def chkC (c : Code) : Int :=
  if 16384 < c.instrs.length ∨ 4096 < c.consts.length then 5 else if c.instrs.length = 0 then 8 else
  if instrsE c.instrs.length c.consts.length c.instrs ≠ 0 then instrsE c.instrs.length c.consts.length c.instrs else
  if chksS c.consts ≠ 0 then chksS c.consts else if lastOp c.instrs ∈ endsL then 0 else 22
def Code.ok (c : Code) : Prop := (c.instrs.length : Int) ≤ 9223372036854775807 ∧ (c.consts.length : Int) ≤ 9223372036854775807 ∧ ∀ x ∈ c.consts, x.wf
theorem lastOp_eq {l : List Instr} (h : 0 < l.length) : lastOp l = (l[l.length - 1]'(by omega)).op := by
  unfold lastOp
  rw [List.getLast?_eq_getElem?, List.getElem?_eq_getElem (by omega)]

theorem code_Check (hX : CX X) (H : Heap) (c : Code) (hc : Code.ok c) : callΩ X (.func n_code_Check [] []) [.agg c.cells] H = some (.int .i64 (chkC c), H) := by
  obtain ⟨h1, h2, h3⟩ := hc
  refine c_code_Check hX (by simp) ?_
  unfold chkC
  have hcs := value_Checks hX H c.constsF c.consts h2 h3
  by_cases l1 : 16384 < c.instrs.length
  · have l1' : (16384 : Int) < c.instrs.length := by omega
    simp [a_code_Check_B, Env.ofArgs, List.nil_append, List.append_nil, FinR, FinP, finish, fz_osl, l1, l1']
  · have l1' : ¬ (16384 : Int) < c.instrs.length := by omega
    by_cases l2 : 4096 < c.consts.length
    · have l2' : (4096 : Int) < c.consts.length := by omega
      simp [a_code_Check_B, Env.ofArgs, List.nil_append, List.append_nil, FinR, FinP, finish, fz_osl, l1, l1', l2, l2']
    · have l2' : ¬ (4096 : Int) < c.consts.length := by omega
      by_cases l0 : c.instrs.length = 0
      · have : c.instrs = [] := List.length_eq_zero_iff.1 l0
        simp [a_code_Check_B, Env.ofArgs, List.nil_append, List.append_nil, FinR, FinP, finish, fz_osl, l1, l1', l2, l2', this]
      · have lne : ¬ c.instrs = [] := fun h => l0 (by rw [h]; rfl)
        simp [a_code_Check_B, Env.ofArgs, List.nil_append, List.append_nil, l1, l1', l2, l2', lne]
        refine YS_ind (fun k e H' => H' = H ∧ k ≤ c.instrs.length ∧ e.get 1 = .fptr c.cells ∧ e.get 3 = .int .i64 c.instrs.length ∧ e.get 23 = SL c.instrsF (Instr.cellsL c.instrs) c.instrs.length ∧ e.get 24 = .int .i64 c.instrs.length ∧ e.get 25 = .int .i64 k ∧ instrsE c.instrs.length c.consts.length c.instrs = instrsE c.instrs.length c.consts.length (c.instrs.drop k)) (fun k => c.instrs.length - k) ?_ 0 (by simp)
        rintro k e H' ⟨rfl, hk, g1, g3, g23, g24, g25, hd⟩ L ih
        by_cases h : k < c.instrs.length
        · rw [List.drop_eq_getElem_cons h, instrsE] at hd
          have hn := code_Name hX c.instrs[k].op H'
          by_cases ho : 0 ≤ c.instrs[k].op ∧ c.instrs[k].op < 46
          · have hm := code_may hX H' c c.instrs[k] ho h1 h2
            have hnn : ¬ opName c.instrs[k].op = [] := by rw [opName_nil]; exact fun q => q ho
            rw [if_neg (fun q => q ho)] at hd
            cases hms : mayS c.instrs[k].op c.instrs[k].a c.instrs[k].b c.instrs.length c.consts.length with
            | false =>
              rw [hms] at hd hm
              simp at hd
              simp [a_code_Check_L0, g1, g3, g23, g24, g25, h, Instr.cellsL_drop h, hn, hnn, hm, FinR, FinP, finish, fz_osl, hd]
            | true =>
              rw [hms] at hd hm
              simp at hd
              simp [a_code_Check_L0, g1, g3, g23, g24, g25, h, Instr.cellsL_drop h, hn, hnn, hm, wrap_succ h h1]
              refine ih (k + 1) _ _ (by omega) ?_
              simp [g1, g3, g23, g24, hd]
              omega
          · have hnn : opName c.instrs[k].op = [] := (opName_nil _).2 ho
            rw [if_pos ho] at hd
            simp [a_code_Check_L0, g1, g3, g23, g24, g25, h, Instr.cellsL_drop h, hn, hnn, FinR, FinP, finish, fz_osl, hd]
        · obtain rfl : k = c.instrs.length := by omega
          simp [instrsE] at hd
          have hpos : 0 < c.instrs.length := by omega
          have hlt : c.instrs.length - 1 < c.instrs.length := by omega
          have e1 := len_pred hpos h1
          have hen := code_Ends hX (c.instrs[c.instrs.length - 1]'hlt).op H'
          have hld := Instr.cellsL_drop hlt
          rw [lastOp_eq hpos]
          by_cases hz : chksS c.consts = 0
          · rw [hz] at hcs
            by_cases he : (c.instrs[c.instrs.length - 1]'hlt).op ∈ endsL
            · simp [he] at hen
              simp [a_code_Check_L0, g1, g3, g23, g24, g25, hcs, hd, hz, e1, hlt, hld, hen, he, FinR, FinP, finish, fz_osl]
            · simp [he] at hen
              simp [a_code_Check_L0, g1, g3, g23, g24, g25, hcs, hd, hz, e1, hlt, hld, hen, he, FinR, FinP, finish, fz_osl]
          · simp [a_code_Check_L0, g1, g3, g23, g24, g25, hcs, hd, hz, FinR, FinP, finish, fz_osl]

theorem ref25_Check (hX : CX X) (H : Heap) (c : Code) (hc : Code.ok c) : callΩ X (.func n_bolterref25_Check [] []) [.agg c.cells] H = some (.int .i64 (chkC c), H) := by
  obtain ⟨h1, h2, h3⟩ := hc
  refine c_bolterref25_Check hX (by simp) ?_
  unfold chkC
  by_cases l1 : 16384 < c.instrs.length
  · have l1' : (16384 : Int) < c.instrs.length := by omega
    simp [a_bolterref25_Check_B, Env.ofArgs, List.nil_append, List.append_nil, FinR, FinP, finish, fz_osl, l1, l1']
  · have l1' : ¬ (16384 : Int) < c.instrs.length := by omega
    by_cases l2 : 4096 < c.consts.length
    · have l2' : (4096 : Int) < c.consts.length := by omega
      simp [a_bolterref25_Check_B, Env.ofArgs, List.nil_append, List.append_nil, FinR, FinP, finish, fz_osl, l1, l1', l2, l2']
    · have l2' : ¬ (4096 : Int) < c.consts.length := by omega
      by_cases l0 : c.instrs.length = 0
      · have : c.instrs = [] := List.length_eq_zero_iff.1 l0
        simp [a_bolterref25_Check_B, Env.ofArgs, List.nil_append, List.append_nil, FinR, FinP, finish, fz_osl, l1, l1', l2, l2', this]
      · have lne : ¬ c.instrs = [] := fun h => l0 (by rw [h]; rfl)
        simp [a_bolterref25_Check_B, Env.ofArgs, List.nil_append, List.append_nil, l1, l1', l2, l2', lne]
        refine YS_ind (fun k e H' => H' = H ∧ k ≤ c.instrs.length ∧ e.get 1 = .fptr c.cells ∧ e.get 3 = .int .i64 c.instrs.length ∧ e.get 4 = .int .i64 k ∧ instrsE c.instrs.length c.consts.length c.instrs = instrsE c.instrs.length c.consts.length (c.instrs.drop k)) (fun k => c.instrs.length - k) ?_ 0 (by simp)
        rintro k e H' ⟨rfl, hk, g1, g3, g4, hd⟩ L ih
        by_cases h : k < c.instrs.length
        · rw [List.drop_eq_getElem_cons h, instrsE] at hd
          have hn := ref_Name hX c.instrs[k].op H'
          by_cases ho : 0 ≤ c.instrs[k].op ∧ c.instrs[k].op < 46
          · have hm := ref25_may hX H' c.instrs[k] c.instrs.length c.consts.length ho h1 h2
            have hnn : ¬ opName c.instrs[k].op = [] := by rw [opName_nil]; exact fun q => q ho
            rw [if_neg (fun q => q ho)] at hd
            cases hms : mayS c.instrs[k].op c.instrs[k].a c.instrs[k].b c.instrs.length c.consts.length with
            | false =>
              rw [hms] at hd hm
              simp at hd
              simp [a_bolterref25_Check_L0, g1, g3, g4, h, Instr.cellsL_drop h, hn, hnn, hm, FinR, FinP, finish, fz_osl, hd]
            | true =>
              rw [hms] at hd hm
              simp at hd
              simp [a_bolterref25_Check_L0, g1, g3, g4, h, Instr.cellsL_drop h, hn, hnn, hm, wrap_succ h h1]
              refine ih (k + 1) _ _ (by omega) ?_
              simp [g1, g3, hd]
              omega
          · have hnn : opName c.instrs[k].op = [] := (opName_nil _).2 ho
            rw [if_pos ho] at hd
            simp [a_bolterref25_Check_L0, g1, g3, g4, h, Instr.cellsL_drop h, hn, hnn, FinR, FinP, finish, fz_osl, hd]
        · obtain rfl : k = c.instrs.length := by omega
          simp [instrsE] at hd
          have hpos : 0 < c.instrs.length := by omega
          have hlt : c.instrs.length - 1 < c.instrs.length := by omega
          have e1 := len_pred hpos h1
          have hld := Instr.cellsL_drop hlt
          rw [lastOp_eq hpos, hd]
          simp [a_bolterref25_Check_L0, g1, g3, g4]
          refine YS_ind (fun k e H1 => H1 = H' ∧ k ≤ c.consts.length ∧ e.get 1 = .fptr c.cells ∧ e.get 3 = .int .i64 c.instrs.length ∧ e.get 5 = .int .i64 k ∧ chksS c.consts = chksS (c.consts.drop k)) (fun k => c.consts.length - k) ?_ 0 (by simp [g1, g3])
          clear hd g1 g3 g4 ih hk
          rintro k e H'' ⟨rfl, hk, g1, g3, g5, hd⟩ L ih
          by_cases h : k < c.consts.length
          · rw [List.drop_eq_getElem_cons h, chksS] at hd
            have hcv := ref_Check hX H'' c.consts[k] (h3 _ (by simp))
            by_cases hz : chkS c.consts[k] = 0
            · simp [hz] at hd
              simp [a_bolterref25_Check_L1, g1, g3, g5, h, Val.cellsL_drop h, hcv, hz, wrap_succ h h2]
              refine ih (k + 1) _ _ (by omega) ?_
              simp [g1, g3, hd]
              omega
            · simp [hz] at hd
              simp [a_bolterref25_Check_L1, g1, g3, g5, h, Val.cellsL_drop h, hcv, hz, FinR, FinP, finish, fz_osl, hd]
          · obtain rfl : k = c.consts.length := by omega
            simp [chksS] at hd
            generalize hop : (c.instrs[c.instrs.length - 1]'hlt).op = op
            simp +contextual -implicitDefEqProofs [a_bolterref25_Check_L1, g1, g3, g5, e1, hlt, hld, hd, hop, endsL, FinR, FinP, finish, fz_osl]
end
end Go.AM.T
