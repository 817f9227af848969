/- bolter/bolterlaw22.PreludeFinds: each choice. -/
import Derived.Test.YtmmgmcihiilfbaaGreatDoorFinds
import Derived.KernelRfl
set_option linter.unusedVariables false
set_option maxRecDepth 100000
namespace Go.AM.T
open Go.Proofs
theorem Finds_0 (x0 x1 x2 : D) : ffin am5 (fexec cFindsr X4.G 0 (fcallN X4 2000) 2000 none ⟨eFinds x0 x1 x2 (.int .i64 (.ofNat 0)), [], []⟩) = some (.bool true, []) := by kernel_rfl
theorem Finds_1 (x0 x1 x2 : D) : ffin am5 (fexec cFindsr X4.G 0 (fcallN X4 2000) 2000 none ⟨eFinds x0 x1 x2 (.int .i64 (.ofNat 1)), [], []⟩) = some (.bool true, []) := by kernel_rfl
theorem Finds_2 (x0 x1 x2 : D) : ffin am5 (fexec cFindsr X4.G 0 (fcallN X4 2000) 2000 none ⟨eFinds x0 x1 x2 (.int .i64 (.ofNat 2)), [], []⟩) = some (.bool true, []) := by kernel_rfl
theorem Finds_3 (x0 x1 x2 : D) : ffin am5 (fexec cFindsr X4.G 0 (fcallN X4 2000) 2000 none ⟨eFinds x0 x1 x2 (.int .i64 (.ofNat 3)), [], []⟩) = some (.bool true, []) := by kernel_rfl
theorem Finds_4 (x0 x1 x2 : D) : ffin am5 (fexec cFindsr X4.G 0 (fcallN X4 2000) 2000 none ⟨eFinds x0 x1 x2 (.int .i64 (.ofNat 4)), [], []⟩) = some (.bool true, []) := by kernel_rfl
theorem Finds_5 (x0 x1 x2 : D) : ffin am5 (fexec cFindsr X4.G 0 (fcallN X4 2000) 2000 none ⟨eFinds x0 x1 x2 (.int .i64 (.ofNat 5)), [], []⟩) = some (.bool true, []) := by kernel_rfl
theorem Finds_6 (x0 x1 x2 : D) : ffin am5 (fexec cFindsr X4.G 0 (fcallN X4 2000) 2000 none ⟨eFinds x0 x1 x2 (.int .i64 (.ofNat 6)), [], []⟩) = some (.bool true, []) := by kernel_rfl
theorem Finds_7 (x0 x1 x2 : D) : ffin am5 (fexec cFindsr X4.G 0 (fcallN X4 2000) 2000 none ⟨eFinds x0 x1 x2 (.int .i64 (.ofNat 7)), [], []⟩) = some (.bool true, []) := by kernel_rfl
theorem Finds_8 (x0 x1 x2 : D) : ffin am5 (fexec cFindsr X4.G 0 (fcallN X4 2000) 2000 none ⟨eFinds x0 x1 x2 (.int .i64 (.ofNat 8)), [], []⟩) = some (.bool true, []) := by kernel_rfl
theorem Finds_9 (x0 x1 x2 : D) : ffin am5 (fexec cFindsr X4.G 0 (fcallN X4 2000) 2000 none ⟨eFinds x0 x1 x2 (.int .i64 (.ofNat 9)), [], []⟩) = some (.bool true, []) := by kernel_rfl
theorem Finds_10 (x0 x1 x2 : D) : ffin am5 (fexec cFindsr X4.G 0 (fcallN X4 2000) 2000 none ⟨eFinds x0 x1 x2 (.int .i64 (.ofNat 10)), [], []⟩) = some (.bool true, []) := by kernel_rfl
theorem Finds_11 (x0 x1 x2 : D) : ffin am5 (fexec cFindsr X4.G 0 (fcallN X4 2000) 2000 none ⟨eFinds x0 x1 x2 (.int .i64 (.ofNat 11)), [], []⟩) = some (.bool true, []) := by kernel_rfl
theorem Finds_12 (x0 x1 x2 : D) : ffin am5 (fexec cFindsr X4.G 0 (fcallN X4 2000) 2000 none ⟨eFinds x0 x1 x2 (.int .i64 (.ofNat 12)), [], []⟩) = some (.bool true, []) := by kernel_rfl
theorem Finds_13 (x0 x1 x2 : D) : ffin am5 (fexec cFindsr X4.G 0 (fcallN X4 2000) 2000 none ⟨eFinds x0 x1 x2 (.int .i64 (.ofNat 13)), [], []⟩) = some (.bool true, []) := by kernel_rfl
theorem Finds_14 (x0 x1 x2 : D) : ffin am5 (fexec cFindsr X4.G 0 (fcallN X4 2000) 2000 none ⟨eFinds x0 x1 x2 (.int .i64 (.ofNat 14)), [], []⟩) = some (.bool true, []) := by kernel_rfl
theorem Finds_15 (x0 x1 x2 : D) : ffin am5 (fexec cFindsr X4.G 0 (fcallN X4 2000) 2000 none ⟨eFinds x0 x1 x2 (.int .i64 (.ofNat 15)), [], []⟩) = some (.bool true, []) := by kernel_rfl
theorem Finds_16 (x0 x1 x2 : D) : ffin am5 (fexec cFindsr X4.G 0 (fcallN X4 2000) 2000 none ⟨eFinds x0 x1 x2 (.int .i64 (.ofNat 16)), [], []⟩) = some (.bool true, []) := by kernel_rfl
theorem Finds_17 (x0 x1 x2 : D) : ffin am5 (fexec cFindsr X4.G 0 (fcallN X4 2000) 2000 none ⟨eFinds x0 x1 x2 (.int .i64 (.ofNat 17)), [], []⟩) = some (.bool true, []) := by kernel_rfl
theorem Finds_18 (x0 x1 x2 : D) : ffin am5 (fexec cFindsr X4.G 0 (fcallN X4 2000) 2000 none ⟨eFinds x0 x1 x2 (.int .i64 (.ofNat 18)), [], []⟩) = some (.bool true, []) := by kernel_rfl
theorem Finds_19 (x0 x1 x2 : D) : ffin am5 (fexec cFindsr X4.G 0 (fcallN X4 2000) 2000 none ⟨eFinds x0 x1 x2 (.int .i64 (.ofNat 19)), [], []⟩) = some (.bool true, []) := by kernel_rfl
theorem Finds_20 (x0 x1 x2 : D) : ffin am5 (fexec cFindsr X4.G 0 (fcallN X4 2000) 2000 none ⟨eFinds x0 x1 x2 (.int .i64 (.ofNat 20)), [], []⟩) = some (.bool true, []) := by kernel_rfl
theorem Finds_21 (x0 x1 x2 : D) : ffin am5 (fexec cFindsr X4.G 0 (fcallN X4 2000) 2000 none ⟨eFinds x0 x1 x2 (.int .i64 (.ofNat 21)), [], []⟩) = some (.bool true, []) := by kernel_rfl
theorem Finds_22 (x0 x1 x2 : D) : ffin am5 (fexec cFindsr X4.G 0 (fcallN X4 2000) 2000 none ⟨eFinds x0 x1 x2 (.int .i64 (.ofNat 22)), [], []⟩) = some (.bool true, []) := by kernel_rfl
theorem Finds_23 (x0 x1 x2 : D) : ffin am5 (fexec cFindsr X4.G 0 (fcallN X4 2000) 2000 none ⟨eFinds x0 x1 x2 (.int .i64 (.ofNat 23)), [], []⟩) = some (.bool true, []) := by kernel_rfl
theorem Finds_24 (x0 x1 x2 : D) : ffin am5 (fexec cFindsr X4.G 0 (fcallN X4 2000) 2000 none ⟨eFinds x0 x1 x2 (.int .i64 (.ofNat 24)), [], []⟩) = some (.bool true, []) := by kernel_rfl
theorem Finds_25 (x0 x1 x2 : D) : ffin am5 (fexec cFindsr X4.G 0 (fcallN X4 2000) 2000 none ⟨eFinds x0 x1 x2 (.int .i64 (.ofNat 25)), [], []⟩) = some (.bool true, []) := by kernel_rfl
theorem Finds_26 (x0 x1 x2 : D) : ffin am5 (fexec cFindsr X4.G 0 (fcallN X4 2000) 2000 none ⟨eFinds x0 x1 x2 (.int .i64 (.ofNat 26)), [], []⟩) = some (.bool true, []) := by kernel_rfl
theorem Finds_27 (x0 x1 x2 : D) : ffin am5 (fexec cFindsr X4.G 0 (fcallN X4 2000) 2000 none ⟨eFinds x0 x1 x2 (.int .i64 (.ofNat 27)), [], []⟩) = some (.bool true, []) := by kernel_rfl
theorem Finds_28 (x0 x1 x2 : D) : ffin am5 (fexec cFindsr X4.G 0 (fcallN X4 2000) 2000 none ⟨eFinds x0 x1 x2 (.int .i64 (.ofNat 28)), [], []⟩) = some (.bool true, []) := by kernel_rfl
theorem Finds_29 (x0 x1 x2 : D) : ffin am5 (fexec cFindsr X4.G 0 (fcallN X4 2000) 2000 none ⟨eFinds x0 x1 x2 (.int .i64 (.ofNat 29)), [], []⟩) = some (.bool true, []) := by kernel_rfl
theorem Finds_30 (x0 x1 x2 : D) : ffin am5 (fexec cFindsr X4.G 0 (fcallN X4 2000) 2000 none ⟨eFinds x0 x1 x2 (.int .i64 (.ofNat 30)), [], []⟩) = some (.bool true, []) := by kernel_rfl
theorem Finds_31 (x0 x1 x2 : D) : ffin am5 (fexec cFindsr X4.G 0 (fcallN X4 2000) 2000 none ⟨eFinds x0 x1 x2 (.int .i64 (.ofNat 31)), [], []⟩) = some (.bool true, []) := by kernel_rfl
theorem Finds_32 (x0 x1 x2 : D) : ffin am5 (fexec cFindsr X4.G 0 (fcallN X4 2000) 2000 none ⟨eFinds x0 x1 x2 (.int .i64 (.ofNat 32)), [], []⟩) = some (.bool true, []) := by kernel_rfl
theorem Finds_33 (x0 x1 x2 : D) : ffin am5 (fexec cFindsr X4.G 0 (fcallN X4 2000) 2000 none ⟨eFinds x0 x1 x2 (.int .i64 (.ofNat 33)), [], []⟩) = some (.bool true, []) := by kernel_rfl
theorem Finds_34 (x0 x1 x2 : D) : ffin am5 (fexec cFindsr X4.G 0 (fcallN X4 2000) 2000 none ⟨eFinds x0 x1 x2 (.int .i64 (.ofNat 34)), [], []⟩) = some (.bool true, []) := by kernel_rfl
theorem Finds_35 (x0 x1 x2 : D) : ffin am5 (fexec cFindsr X4.G 0 (fcallN X4 2000) 2000 none ⟨eFinds x0 x1 x2 (.int .i64 (.ofNat 35)), [], []⟩) = some (.bool true, []) := by kernel_rfl
theorem Finds_36 (x0 x1 x2 : D) : ffin am5 (fexec cFindsr X4.G 0 (fcallN X4 2000) 2000 none ⟨eFinds x0 x1 x2 (.int .i64 (.ofNat 36)), [], []⟩) = some (.bool true, []) := by kernel_rfl
theorem Finds_37 (x0 x1 x2 : D) : ffin am5 (fexec cFindsr X4.G 0 (fcallN X4 2000) 2000 none ⟨eFinds x0 x1 x2 (.int .i64 (.ofNat 37)), [], []⟩) = some (.bool true, []) := by kernel_rfl
theorem Finds_38 (x0 x1 x2 : D) : ffin am5 (fexec cFindsr X4.G 0 (fcallN X4 2000) 2000 none ⟨eFinds x0 x1 x2 (.int .i64 (.ofNat 38)), [], []⟩) = some (.bool true, []) := by kernel_rfl
theorem Finds_39 (x0 x1 x2 : D) : ffin am5 (fexec cFindsr X4.G 0 (fcallN X4 2000) 2000 none ⟨eFinds x0 x1 x2 (.int .i64 (.ofNat 39)), [], []⟩) = some (.bool true, []) := by kernel_rfl
theorem Finds_40 (x0 x1 x2 : D) : ffin am5 (fexec cFindsr X4.G 0 (fcallN X4 2000) 2000 none ⟨eFinds x0 x1 x2 (.int .i64 (.ofNat 40)), [], []⟩) = some (.bool true, []) := by kernel_rfl
theorem Finds_41 (x0 x1 x2 : D) : ffin am5 (fexec cFindsr X4.G 0 (fcallN X4 2000) 2000 none ⟨eFinds x0 x1 x2 (.int .i64 (.ofNat 41)), [], []⟩) = some (.bool true, []) := by kernel_rfl
theorem Finds_42 (x0 x1 x2 : D) : ffin am5 (fexec cFindsr X4.G 0 (fcallN X4 2000) 2000 none ⟨eFinds x0 x1 x2 (.int .i64 (.ofNat 42)), [], []⟩) = some (.bool true, []) := by kernel_rfl
theorem Finds_43 (x0 x1 x2 : D) : ffin am5 (fexec cFindsr X4.G 0 (fcallN X4 2000) 2000 none ⟨eFinds x0 x1 x2 (.int .i64 (.ofNat 43)), [], []⟩) = some (.bool true, []) := by kernel_rfl
theorem Finds_44 (x0 x1 x2 : D) : ffin am5 (fexec cFindsr X4.G 0 (fcallN X4 2000) 2000 none ⟨eFinds x0 x1 x2 (.int .i64 (.ofNat 44)), [], []⟩) = some (.bool true, []) := by kernel_rfl
theorem Finds_45 (x0 x1 x2 : D) : ffin am5 (fexec cFindsr X4.G 0 (fcallN X4 2000) 2000 none ⟨eFinds x0 x1 x2 (.int .i64 (.ofNat 45)), [], []⟩) = some (.bool true, []) := by kernel_rfl
theorem Finds_46 (x0 x1 x2 : D) : ffin am5 (fexec cFindsr X4.G 0 (fcallN X4 2000) 2000 none ⟨eFinds x0 x1 x2 (.int .i64 (.ofNat 46)), [], []⟩) = some (.bool true, []) := by kernel_rfl
theorem Finds_47 (x0 x1 x2 : D) : ffin am5 (fexec cFindsr X4.G 0 (fcallN X4 2000) 2000 none ⟨eFinds x0 x1 x2 (.int .i64 (.ofNat 47)), [], []⟩) = some (.bool true, []) := by kernel_rfl
end Go.AM.T
