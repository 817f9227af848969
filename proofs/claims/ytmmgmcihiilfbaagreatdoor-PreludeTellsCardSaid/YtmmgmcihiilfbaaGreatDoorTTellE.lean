/- bolterlaw22.PreludeTells: what comes last, for each definition that is found, and for none. -/
import Derived.Test.YtmmgmcihiilfbaaGreatDoorTTell
import Derived.KernelRfl
set_option linter.unusedVariables false
set_option maxRecDepth 100000
namespace Go.AM.T
open Go.Proofs
theorem Tell_e0 (n c : D) : tE n c sd0 (.bool true) = some (.bool true, []) := by kernel_rfl
theorem Tell_e1 (n c : D) : tE n c sd1 (.bool true) = some (.bool true, []) := by kernel_rfl
theorem Tell_e2 (n c : D) : tE n c sd2 (.bool true) = some (.bool true, []) := by kernel_rfl
theorem Tell_e3 (n c : D) : tE n c sd3 (.bool true) = some (.bool true, []) := by kernel_rfl
theorem Tell_e4 (n c : D) : tE n c sd4 (.bool true) = some (.bool true, []) := by kernel_rfl
theorem Tell_e5 (n c : D) : tE n c sd5 (.bool true) = some (.bool true, []) := by kernel_rfl
theorem Tell_e6 (n c : D) : tE n c sd6 (.bool true) = some (.bool true, []) := by kernel_rfl
theorem Tell_e7 (n c : D) : tE n c sd7 (.bool true) = some (.bool true, []) := by kernel_rfl
theorem Tell_e8 (n c : D) : tE n c sd8 (.bool true) = some (.bool true, []) := by kernel_rfl
theorem Tell_e9 (n c : D) : tE n c sd9 (.bool true) = some (.bool true, []) := by kernel_rfl
theorem Tell_e10 (n c : D) : tE n c sd10 (.bool true) = some (.bool true, []) := by kernel_rfl
theorem Tell_e11 (n c : D) : tE n c sd11 (.bool true) = some (.bool true, []) := by kernel_rfl
theorem Tell_e12 (n c : D) : tE n c sd12 (.bool true) = some (.bool true, []) := by kernel_rfl
theorem Tell_e13 (n c : D) : tE n c sd13 (.bool true) = some (.bool true, []) := by kernel_rfl
theorem Tell_e14 (n c : D) : tE n c sd14 (.bool true) = some (.bool true, []) := by kernel_rfl
theorem Tell_e15 (n c : D) : tE n c sd15 (.bool true) = some (.bool true, []) := by kernel_rfl
theorem Tell_e16 (n c : D) : tE n c sd16 (.bool true) = some (.bool true, []) := by kernel_rfl
theorem Tell_e17 (n c : D) : tE n c sd17 (.bool true) = some (.bool true, []) := by kernel_rfl
theorem Tell_e18 (n c : D) : tE n c sd18 (.bool true) = some (.bool true, []) := by kernel_rfl
theorem Tell_e19 (n c : D) : tE n c sd19 (.bool true) = some (.bool true, []) := by kernel_rfl
theorem Tell_e20 (n c : D) : tE n c sd20 (.bool true) = some (.bool true, []) := by kernel_rfl
theorem Tell_e21 (n c : D) : tE n c sd21 (.bool true) = some (.bool true, []) := by kernel_rfl
theorem Tell_e22 (n c : D) : tE n c sd22 (.bool true) = some (.bool true, []) := by kernel_rfl
theorem Tell_e23 (n c : D) : tE n c sd23 (.bool true) = some (.bool true, []) := by kernel_rfl
theorem Tell_e24 (n c : D) : tE n c sd24 (.bool true) = some (.bool true, []) := by kernel_rfl
theorem Tell_e25 (n c : D) : tE n c sd25 (.bool true) = some (.bool true, []) := by kernel_rfl
theorem Tell_e26 (n c : D) : tE n c sd26 (.bool true) = some (.bool true, []) := by kernel_rfl
theorem Tell_e27 (n c : D) : tE n c sd27 (.bool true) = some (.bool true, []) := by kernel_rfl
theorem Tell_e28 (n c : D) : tE n c sd28 (.bool true) = some (.bool true, []) := by kernel_rfl
theorem Tell_e29 (n c : D) : tE n c sd29 (.bool true) = some (.bool true, []) := by kernel_rfl
theorem Tell_e30 (n c : D) : tE n c sd30 (.bool true) = some (.bool true, []) := by kernel_rfl
theorem Tell_e31 (n c : D) : tE n c sd31 (.bool true) = some (.bool true, []) := by kernel_rfl
theorem Tell_e32 (n c : D) : tE n c sd32 (.bool true) = some (.bool true, []) := by kernel_rfl
theorem Tell_e33 (n c : D) : tE n c sd33 (.bool true) = some (.bool true, []) := by kernel_rfl
theorem Tell_e34 (n c : D) : tE n c sd34 (.bool true) = some (.bool true, []) := by kernel_rfl
theorem Tell_e35 (n c : D) : tE n c sd35 (.bool true) = some (.bool true, []) := by kernel_rfl
theorem Tell_e36 (n c : D) : tE n c sd36 (.bool true) = some (.bool true, []) := by kernel_rfl
theorem Tell_e37 (n c : D) : tE n c sd37 (.bool true) = some (.bool true, []) := by kernel_rfl
theorem Tell_e38 (n c : D) : tE n c sd38 (.bool true) = some (.bool true, []) := by kernel_rfl
theorem Tell_e39 (n c : D) : tE n c sd39 (.bool true) = some (.bool true, []) := by kernel_rfl
theorem Tell_e40 (n c : D) : tE n c sd40 (.bool true) = some (.bool true, []) := by kernel_rfl
theorem Tell_e41 (n c : D) : tE n c sd41 (.bool true) = some (.bool true, []) := by kernel_rfl
theorem Tell_e42 (n c : D) : tE n c sd42 (.bool true) = some (.bool true, []) := by kernel_rfl
theorem Tell_e43 (n c : D) : tE n c sd43 (.bool true) = some (.bool true, []) := by kernel_rfl
theorem Tell_e44 (n c : D) : tE n c sd44 (.bool true) = some (.bool true, []) := by kernel_rfl
theorem Tell_e45 (n c : D) : tE n c sd45 (.bool true) = some (.bool true, []) := by kernel_rfl
theorem Tell_e46 (n c : D) : tE n c sd46 (.bool true) = some (.bool true, []) := by kernel_rfl
theorem Tell_e47 (n c : D) : tE n c sd47 (.bool true) = some (.bool true, []) := by kernel_rfl
theorem Tell_e48 (n c : D) : tE n c zd (.bool false) = some (.bool true, []) := by kernel_rfl
end Go.AM.T
