/- bolter/bolterlaw22.PreludeBound: each choice. -/
import Derived.Test.YtmmgmcihiilfbaaGreatDoorBound
import Derived.KernelRfl
set_option linter.unusedVariables false
set_option maxRecDepth 100000
namespace Go.AM.T
open Go.Proofs
theorem Bound_0 (x0 x1 x2 : D) : ffin am3 (fexec cBoundr X4.G 0 (fcallN X4 2000) 2000 none ⟨eBound x0 x1 x2 (.int .i64 (.ofNat 0)), [], []⟩) = some (.bool true, []) := by kernel_rfl
theorem Bound_1 (x0 x1 x2 : D) : ffin am3 (fexec cBoundr X4.G 0 (fcallN X4 2000) 2000 none ⟨eBound x0 x1 x2 (.int .i64 (.ofNat 1)), [], []⟩) = some (.bool true, []) := by kernel_rfl
theorem Bound_2 (x0 x1 x2 : D) : ffin am3 (fexec cBoundr X4.G 0 (fcallN X4 2000) 2000 none ⟨eBound x0 x1 x2 (.int .i64 (.ofNat 2)), [], []⟩) = some (.bool true, []) := by kernel_rfl
theorem Bound_3 (x0 x1 x2 : D) : ffin am3 (fexec cBoundr X4.G 0 (fcallN X4 2000) 2000 none ⟨eBound x0 x1 x2 (.int .i64 (.ofNat 3)), [], []⟩) = some (.bool true, []) := by kernel_rfl
theorem Bound_4 (x0 x1 x2 : D) : ffin am3 (fexec cBoundr X4.G 0 (fcallN X4 2000) 2000 none ⟨eBound x0 x1 x2 (.int .i64 (.ofNat 4)), [], []⟩) = some (.bool true, []) := by kernel_rfl
theorem Bound_5 (x0 x1 x2 : D) : ffin am3 (fexec cBoundr X4.G 0 (fcallN X4 2000) 2000 none ⟨eBound x0 x1 x2 (.int .i64 (.ofNat 5)), [], []⟩) = some (.bool true, []) := by kernel_rfl
theorem Bound_6 (x0 x1 x2 : D) : ffin am3 (fexec cBoundr X4.G 0 (fcallN X4 2000) 2000 none ⟨eBound x0 x1 x2 (.int .i64 (.ofNat 6)), [], []⟩) = some (.bool true, []) := by kernel_rfl
theorem Bound_7 (x0 x1 x2 : D) : ffin am3 (fexec cBoundr X4.G 0 (fcallN X4 2000) 2000 none ⟨eBound x0 x1 x2 (.int .i64 (.ofNat 7)), [], []⟩) = some (.bool true, []) := by kernel_rfl
theorem Bound_8 (x0 x1 x2 : D) : ffin am3 (fexec cBoundr X4.G 0 (fcallN X4 2000) 2000 none ⟨eBound x0 x1 x2 (.int .i64 (.ofNat 8)), [], []⟩) = some (.bool true, []) := by kernel_rfl
theorem Bound_9 (x0 x1 x2 : D) : ffin am3 (fexec cBoundr X4.G 0 (fcallN X4 2000) 2000 none ⟨eBound x0 x1 x2 (.int .i64 (.ofNat 9)), [], []⟩) = some (.bool true, []) := by kernel_rfl
theorem Bound_10 (x0 x1 x2 : D) : ffin am3 (fexec cBoundr X4.G 0 (fcallN X4 2000) 2000 none ⟨eBound x0 x1 x2 (.int .i64 (.ofNat 10)), [], []⟩) = some (.bool true, []) := by kernel_rfl
theorem Bound_11 (x0 x1 x2 : D) : ffin am3 (fexec cBoundr X4.G 0 (fcallN X4 2000) 2000 none ⟨eBound x0 x1 x2 (.int .i64 (.ofNat 11)), [], []⟩) = some (.bool true, []) := by kernel_rfl
theorem Bound_12 (x0 x1 x2 : D) : ffin am3 (fexec cBoundr X4.G 0 (fcallN X4 2000) 2000 none ⟨eBound x0 x1 x2 (.int .i64 (.ofNat 12)), [], []⟩) = some (.bool true, []) := by kernel_rfl
theorem Bound_13 (x0 x1 x2 : D) : ffin am3 (fexec cBoundr X4.G 0 (fcallN X4 2000) 2000 none ⟨eBound x0 x1 x2 (.int .i64 (.ofNat 13)), [], []⟩) = some (.bool true, []) := by kernel_rfl
theorem Bound_14 (x0 x1 x2 : D) : ffin am3 (fexec cBoundr X4.G 0 (fcallN X4 2000) 2000 none ⟨eBound x0 x1 x2 (.int .i64 (.ofNat 14)), [], []⟩) = some (.bool true, []) := by kernel_rfl
theorem Bound_15 (x0 x1 x2 : D) : ffin am3 (fexec cBoundr X4.G 0 (fcallN X4 2000) 2000 none ⟨eBound x0 x1 x2 (.int .i64 (.ofNat 15)), [], []⟩) = some (.bool true, []) := by kernel_rfl
theorem Bound_16 (x0 x1 x2 : D) : ffin am3 (fexec cBoundr X4.G 0 (fcallN X4 2000) 2000 none ⟨eBound x0 x1 x2 (.int .i64 (.ofNat 16)), [], []⟩) = some (.bool true, []) := by kernel_rfl
theorem Bound_17 (x0 x1 x2 : D) : ffin am3 (fexec cBoundr X4.G 0 (fcallN X4 2000) 2000 none ⟨eBound x0 x1 x2 (.int .i64 (.ofNat 17)), [], []⟩) = some (.bool true, []) := by kernel_rfl
theorem Bound_18 (x0 x1 x2 : D) : ffin am3 (fexec cBoundr X4.G 0 (fcallN X4 2000) 2000 none ⟨eBound x0 x1 x2 (.int .i64 (.ofNat 18)), [], []⟩) = some (.bool true, []) := by kernel_rfl
theorem Bound_19 (x0 x1 x2 : D) : ffin am3 (fexec cBoundr X4.G 0 (fcallN X4 2000) 2000 none ⟨eBound x0 x1 x2 (.int .i64 (.ofNat 19)), [], []⟩) = some (.bool true, []) := by kernel_rfl
theorem Bound_20 (x0 x1 x2 : D) : ffin am3 (fexec cBoundr X4.G 0 (fcallN X4 2000) 2000 none ⟨eBound x0 x1 x2 (.int .i64 (.ofNat 20)), [], []⟩) = some (.bool true, []) := by kernel_rfl
theorem Bound_21 (x0 x1 x2 : D) : ffin am3 (fexec cBoundr X4.G 0 (fcallN X4 2000) 2000 none ⟨eBound x0 x1 x2 (.int .i64 (.ofNat 21)), [], []⟩) = some (.bool true, []) := by kernel_rfl
theorem Bound_22 (x0 x1 x2 : D) : ffin am3 (fexec cBoundr X4.G 0 (fcallN X4 2000) 2000 none ⟨eBound x0 x1 x2 (.int .i64 (.ofNat 22)), [], []⟩) = some (.bool true, []) := by kernel_rfl
theorem Bound_23 (x0 x1 x2 : D) : ffin am3 (fexec cBoundr X4.G 0 (fcallN X4 2000) 2000 none ⟨eBound x0 x1 x2 (.int .i64 (.ofNat 23)), [], []⟩) = some (.bool true, []) := by kernel_rfl
end Go.AM.T
