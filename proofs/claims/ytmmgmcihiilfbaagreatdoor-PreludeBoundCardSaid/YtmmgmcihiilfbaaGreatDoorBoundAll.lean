/- bolter/bolterlaw22.PreludeBound hands back true. -/
import Derived.Test.YtmmgmcihiilfbaaGreatDoorBound0
import Derived.Test.YtmmgmcihiilfbaaGreatDoorBound1
import Derived.KernelRfl
set_option linter.unusedVariables false
set_option maxRecDepth 100000
namespace Go.AM.T
open Go.Proofs
theorem Bound_all (x0 x1 x2 : D) : ∀ v, v < 48 → ffin am3 (fexec cBoundr X4.G 0 (fcallN X4 2000) 2000 none ⟨eBound x0 x1 x2 (.int .i64 (.ofNat v)), [], []⟩) = some (.bool true, [])
  | 0, _ => Bound_0 x0 x1 x2
  | 1, _ => Bound_1 x0 x1 x2
  | 2, _ => Bound_2 x0 x1 x2
  | 3, _ => Bound_3 x0 x1 x2
  | 4, _ => Bound_4 x0 x1 x2
  | 5, _ => Bound_5 x0 x1 x2
  | 6, _ => Bound_6 x0 x1 x2
  | 7, _ => Bound_7 x0 x1 x2
  | 8, _ => Bound_8 x0 x1 x2
  | 9, _ => Bound_9 x0 x1 x2
  | 10, _ => Bound_10 x0 x1 x2
  | 11, _ => Bound_11 x0 x1 x2
  | 12, _ => Bound_12 x0 x1 x2
  | 13, _ => Bound_13 x0 x1 x2
  | 14, _ => Bound_14 x0 x1 x2
  | 15, _ => Bound_15 x0 x1 x2
  | 16, _ => Bound_16 x0 x1 x2
  | 17, _ => Bound_17 x0 x1 x2
  | 18, _ => Bound_18 x0 x1 x2
  | 19, _ => Bound_19 x0 x1 x2
  | 20, _ => Bound_20 x0 x1 x2
  | 21, _ => Bound_21 x0 x1 x2
  | 22, _ => Bound_22 x0 x1 x2
  | 23, _ => Bound_23 x0 x1 x2
  | 24, _ => Bound_24 x0 x1 x2
  | 25, _ => Bound_25 x0 x1 x2
  | 26, _ => Bound_26 x0 x1 x2
  | 27, _ => Bound_27 x0 x1 x2
  | 28, _ => Bound_28 x0 x1 x2
  | 29, _ => Bound_29 x0 x1 x2
  | 30, _ => Bound_30 x0 x1 x2
  | 31, _ => Bound_31 x0 x1 x2
  | 32, _ => Bound_32 x0 x1 x2
  | 33, _ => Bound_33 x0 x1 x2
  | 34, _ => Bound_34 x0 x1 x2
  | 35, _ => Bound_35 x0 x1 x2
  | 36, _ => Bound_36 x0 x1 x2
  | 37, _ => Bound_37 x0 x1 x2
  | 38, _ => Bound_38 x0 x1 x2
  | 39, _ => Bound_39 x0 x1 x2
  | 40, _ => Bound_40 x0 x1 x2
  | 41, _ => Bound_41 x0 x1 x2
  | 42, _ => Bound_42 x0 x1 x2
  | 43, _ => Bound_43 x0 x1 x2
  | 44, _ => Bound_44 x0 x1 x2
  | 45, _ => Bound_45 x0 x1 x2
  | 46, _ => Bound_46 x0 x1 x2
  | 47, _ => Bound_47 x0 x1 x2
  | n + 48, h => absurd h (by omega)
theorem Bound_true (n : Int) : fcallN X4 2001 (.func 3 [] []) [.int .i64 n] [] = some (.bool true, []) := by
  obtain ⟨v, hv, he⟩ := fold48 n
  exact cut4 (a := cBounda) (b := cBoundb) (c := cBoundc) (d := cBoundd) (r := cBoundr) (by kernel_rfl) (fn := am3) (by kernel_rfl) (by kernel_rfl) rfl (Bound_a n) (by rw [he]; exact Bound_all _ _ _ v hv)
end Go.AM.T
