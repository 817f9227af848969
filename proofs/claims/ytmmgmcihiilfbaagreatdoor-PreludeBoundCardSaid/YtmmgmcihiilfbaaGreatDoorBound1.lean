/- bolter/bolterlaw22.PreludeBound: each choice. -/
import Derived.Test.YtmmgmcihiilfbaaGreatDoorBound
import Derived.KernelRfl
set_option linter.unusedVariables false
set_option maxRecDepth 100000
namespace Go.AM.T
open Go.Proofs
theorem Bound_24 (x0 x1 x2 : D) : ffin am3 (fexec cBoundr X4.G 0 (fcallN X4 2000) 2000 none ⟨eBound x0 x1 x2 (.int .i64 (.ofNat 24)), [], []⟩) = some (.bool true, []) := by kernel_rfl
theorem Bound_25 (x0 x1 x2 : D) : ffin am3 (fexec cBoundr X4.G 0 (fcallN X4 2000) 2000 none ⟨eBound x0 x1 x2 (.int .i64 (.ofNat 25)), [], []⟩) = some (.bool true, []) := by kernel_rfl
theorem Bound_26 (x0 x1 x2 : D) : ffin am3 (fexec cBoundr X4.G 0 (fcallN X4 2000) 2000 none ⟨eBound x0 x1 x2 (.int .i64 (.ofNat 26)), [], []⟩) = some (.bool true, []) := by kernel_rfl
theorem Bound_27 (x0 x1 x2 : D) : ffin am3 (fexec cBoundr X4.G 0 (fcallN X4 2000) 2000 none ⟨eBound x0 x1 x2 (.int .i64 (.ofNat 27)), [], []⟩) = some (.bool true, []) := by kernel_rfl
theorem Bound_28 (x0 x1 x2 : D) : ffin am3 (fexec cBoundr X4.G 0 (fcallN X4 2000) 2000 none ⟨eBound x0 x1 x2 (.int .i64 (.ofNat 28)), [], []⟩) = some (.bool true, []) := by kernel_rfl
theorem Bound_29 (x0 x1 x2 : D) : ffin am3 (fexec cBoundr X4.G 0 (fcallN X4 2000) 2000 none ⟨eBound x0 x1 x2 (.int .i64 (.ofNat 29)), [], []⟩) = some (.bool true, []) := by kernel_rfl
theorem Bound_30 (x0 x1 x2 : D) : ffin am3 (fexec cBoundr X4.G 0 (fcallN X4 2000) 2000 none ⟨eBound x0 x1 x2 (.int .i64 (.ofNat 30)), [], []⟩) = some (.bool true, []) := by kernel_rfl
theorem Bound_31 (x0 x1 x2 : D) : ffin am3 (fexec cBoundr X4.G 0 (fcallN X4 2000) 2000 none ⟨eBound x0 x1 x2 (.int .i64 (.ofNat 31)), [], []⟩) = some (.bool true, []) := by kernel_rfl
theorem Bound_32 (x0 x1 x2 : D) : ffin am3 (fexec cBoundr X4.G 0 (fcallN X4 2000) 2000 none ⟨eBound x0 x1 x2 (.int .i64 (.ofNat 32)), [], []⟩) = some (.bool true, []) := by kernel_rfl
theorem Bound_33 (x0 x1 x2 : D) : ffin am3 (fexec cBoundr X4.G 0 (fcallN X4 2000) 2000 none ⟨eBound x0 x1 x2 (.int .i64 (.ofNat 33)), [], []⟩) = some (.bool true, []) := by kernel_rfl
theorem Bound_34 (x0 x1 x2 : D) : ffin am3 (fexec cBoundr X4.G 0 (fcallN X4 2000) 2000 none ⟨eBound x0 x1 x2 (.int .i64 (.ofNat 34)), [], []⟩) = some (.bool true, []) := by kernel_rfl
theorem Bound_35 (x0 x1 x2 : D) : ffin am3 (fexec cBoundr X4.G 0 (fcallN X4 2000) 2000 none ⟨eBound x0 x1 x2 (.int .i64 (.ofNat 35)), [], []⟩) = some (.bool true, []) := by kernel_rfl
theorem Bound_36 (x0 x1 x2 : D) : ffin am3 (fexec cBoundr X4.G 0 (fcallN X4 2000) 2000 none ⟨eBound x0 x1 x2 (.int .i64 (.ofNat 36)), [], []⟩) = some (.bool true, []) := by kernel_rfl
theorem Bound_37 (x0 x1 x2 : D) : ffin am3 (fexec cBoundr X4.G 0 (fcallN X4 2000) 2000 none ⟨eBound x0 x1 x2 (.int .i64 (.ofNat 37)), [], []⟩) = some (.bool true, []) := by kernel_rfl
theorem Bound_38 (x0 x1 x2 : D) : ffin am3 (fexec cBoundr X4.G 0 (fcallN X4 2000) 2000 none ⟨eBound x0 x1 x2 (.int .i64 (.ofNat 38)), [], []⟩) = some (.bool true, []) := by kernel_rfl
theorem Bound_39 (x0 x1 x2 : D) : ffin am3 (fexec cBoundr X4.G 0 (fcallN X4 2000) 2000 none ⟨eBound x0 x1 x2 (.int .i64 (.ofNat 39)), [], []⟩) = some (.bool true, []) := by kernel_rfl
theorem Bound_40 (x0 x1 x2 : D) : ffin am3 (fexec cBoundr X4.G 0 (fcallN X4 2000) 2000 none ⟨eBound x0 x1 x2 (.int .i64 (.ofNat 40)), [], []⟩) = some (.bool true, []) := by kernel_rfl
theorem Bound_41 (x0 x1 x2 : D) : ffin am3 (fexec cBoundr X4.G 0 (fcallN X4 2000) 2000 none ⟨eBound x0 x1 x2 (.int .i64 (.ofNat 41)), [], []⟩) = some (.bool true, []) := by kernel_rfl
theorem Bound_42 (x0 x1 x2 : D) : ffin am3 (fexec cBoundr X4.G 0 (fcallN X4 2000) 2000 none ⟨eBound x0 x1 x2 (.int .i64 (.ofNat 42)), [], []⟩) = some (.bool true, []) := by kernel_rfl
theorem Bound_43 (x0 x1 x2 : D) : ffin am3 (fexec cBoundr X4.G 0 (fcallN X4 2000) 2000 none ⟨eBound x0 x1 x2 (.int .i64 (.ofNat 43)), [], []⟩) = some (.bool true, []) := by kernel_rfl
theorem Bound_44 (x0 x1 x2 : D) : ffin am3 (fexec cBoundr X4.G 0 (fcallN X4 2000) 2000 none ⟨eBound x0 x1 x2 (.int .i64 (.ofNat 44)), [], []⟩) = some (.bool true, []) := by kernel_rfl
theorem Bound_45 (x0 x1 x2 : D) : ffin am3 (fexec cBoundr X4.G 0 (fcallN X4 2000) 2000 none ⟨eBound x0 x1 x2 (.int .i64 (.ofNat 45)), [], []⟩) = some (.bool true, []) := by kernel_rfl
theorem Bound_46 (x0 x1 x2 : D) : ffin am3 (fexec cBoundr X4.G 0 (fcallN X4 2000) 2000 none ⟨eBound x0 x1 x2 (.int .i64 (.ofNat 46)), [], []⟩) = some (.bool true, []) := by kernel_rfl
theorem Bound_47 (x0 x1 x2 : D) : ffin am3 (fexec cBoundr X4.G 0 (fcallN X4 2000) 2000 none ⟨eBound x0 x1 x2 (.int .i64 (.ofNat 47)), [], []⟩) = some (.bool true, []) := by kernel_rfl
end Go.AM.T
