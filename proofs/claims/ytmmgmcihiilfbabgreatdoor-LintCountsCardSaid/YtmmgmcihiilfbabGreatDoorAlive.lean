/- The linter is alive; LintCounts hands back true at every list. -/
import Derived.Test.YtmmgmcihiilfbabGreatDoorMemo
import Derived.Test.YtmmgmcihiilfbabGreatDoorCounts
import Derived.Test.YtmmgmcihiilfbabGreatDoorAmI
import Derived.KernelRfl
set_option linter.unusedVariables false
set_option maxRecDepth 100000
namespace Go.AM.T
open Go.Proofs
theorem alive_ok : Known Tryz.prog X0.G 5 [] (.bool true) := Known.mk' good1 2000 (by kernel_rfl) (by kernel_rfl)
noncomputable def X2 : Ctx := X0.layer 5 [([], .bool true)]
theorem good2 : Good Tryz.prog X2 := good0.layer (f0 := 5) (l := [([], .bool true)]) ⟨alive_ok, True.intro⟩
theorem lint_nil : fcallN X2 2000 (.func 3 [] []) [.nilsl] [] = some (.bool true, []) := by kernel_rfl
theorem x2_fn3 : X2.fn 3 = some am3 := by kernel_rfl
theorem x2_fn4 : X2.fn 4 = some am4 := by kernel_rfl
theorem x2_p3 (d : D) : X2.prims 3 [d] = none := by kernel_rfl
theorem x2_p4 (d : D) : X2.prims 4 [d] = none := by kernel_rfl
theorem x2_p5 : X2.prims 5 [] = some (.bool true) := by kernel_rfl
theorem lint_true (ns : List (Int × List UInt8 × Int)) (hN : (ns.length : Int) ≤ 9223372036854775807) : callN X2 (ns.length + 1 + 2) (.func 3 [] []) [.fsl (cellsN ns) ns.length] [] = some (.bool true, []) :=
  lint_run x2_fn3 x2_fn4 (x2_p3 _) (x2_p4 _) x2_p5 (by omega) hN
end Go.AM.T
