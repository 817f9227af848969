/- bolter/bolterlaw22.PreludeFinds hands back true. -/
import Derived.Test.YtmmgmcihiilfbaaGreatDoorFinds0
import Derived.KernelRfl
set_option linter.unusedVariables false
set_option maxRecDepth 100000
namespace Go.AM.T
open Go.Proofs
theorem Finds_all (x0 x1 x2 : D) : ∀ v, v < 48 → ffin am5 (fexec cFindsr X4.G 0 (fcallN X4 2000) 2000 none ⟨eFinds x0 x1 x2 (.int .i64 (.ofNat v)), [], []⟩) = some (.bool true, [])
  | 0, _ => Finds_0 x0 x1 x2
  | 1, _ => Finds_1 x0 x1 x2
  | 2, _ => Finds_2 x0 x1 x2
  | 3, _ => Finds_3 x0 x1 x2
  | 4, _ => Finds_4 x0 x1 x2
  | 5, _ => Finds_5 x0 x1 x2
  | 6, _ => Finds_6 x0 x1 x2
  | 7, _ => Finds_7 x0 x1 x2
  | 8, _ => Finds_8 x0 x1 x2
  | 9, _ => Finds_9 x0 x1 x2
  | 10, _ => Finds_10 x0 x1 x2
  | 11, _ => Finds_11 x0 x1 x2
  | 12, _ => Finds_12 x0 x1 x2
  | 13, _ => Finds_13 x0 x1 x2
  | 14, _ => Finds_14 x0 x1 x2
  | 15, _ => Finds_15 x0 x1 x2
  | 16, _ => Finds_16 x0 x1 x2
  | 17, _ => Finds_17 x0 x1 x2
  | 18, _ => Finds_18 x0 x1 x2
  | 19, _ => Finds_19 x0 x1 x2
  | 20, _ => Finds_20 x0 x1 x2
  | 21, _ => Finds_21 x0 x1 x2
  | 22, _ => Finds_22 x0 x1 x2
  | 23, _ => Finds_23 x0 x1 x2
  | 24, _ => Finds_24 x0 x1 x2
  | 25, _ => Finds_25 x0 x1 x2
  | 26, _ => Finds_26 x0 x1 x2
  | 27, _ => Finds_27 x0 x1 x2
  | 28, _ => Finds_28 x0 x1 x2
  | 29, _ => Finds_29 x0 x1 x2
  | 30, _ => Finds_30 x0 x1 x2
  | 31, _ => Finds_31 x0 x1 x2
  | 32, _ => Finds_32 x0 x1 x2
  | 33, _ => Finds_33 x0 x1 x2
  | 34, _ => Finds_34 x0 x1 x2
  | 35, _ => Finds_35 x0 x1 x2
  | 36, _ => Finds_36 x0 x1 x2
  | 37, _ => Finds_37 x0 x1 x2
  | 38, _ => Finds_38 x0 x1 x2
  | 39, _ => Finds_39 x0 x1 x2
  | 40, _ => Finds_40 x0 x1 x2
  | 41, _ => Finds_41 x0 x1 x2
  | 42, _ => Finds_42 x0 x1 x2
  | 43, _ => Finds_43 x0 x1 x2
  | 44, _ => Finds_44 x0 x1 x2
  | 45, _ => Finds_45 x0 x1 x2
  | 46, _ => Finds_46 x0 x1 x2
  | 47, _ => Finds_47 x0 x1 x2
  | n + 48, h => absurd h (by omega)
theorem Finds_true (n : Int) : fcallN X4 2001 (.func 5 [] []) [.int .i64 n] [] = some (.bool true, []) := by
  obtain ⟨v, hv, he⟩ := fold48 n
  exact cut4 (a := cFindsa) (b := cFindsb) (c := cFindsc) (d := cFindsd) (r := cFindsr) (by kernel_rfl) (fn := am5) (by kernel_rfl) (by kernel_rfl) rfl (Finds_a n) (by rw [he]; exact Finds_all _ _ _ v hv)
end Go.AM.T
