/- bolterlaw22.PreludeTells: what is found at some names. -/
import Derived.Test.YtmmgmcihiilfbaaGreatDoorTTell
import Derived.KernelRfl
set_option linter.unusedVariables false
set_option maxRecDepth 100000
namespace Go.AM.T
open Go.Proofs
theorem Tell_a22x0 : tL (.str nm22) (.int .i64 (.ofNat 0)) = tR (.str nm22) (.int .i64 (.ofNat 0)) zd (.bool false) := by kernel_rfl
theorem Tell_a22x1 : tL (.str nm22) (.int .i64 (.ofNat 1)) = tR (.str nm22) (.int .i64 (.ofNat 1)) sd27 (.bool true) := by kernel_rfl
theorem Tell_a22x2 : tL (.str nm22) (.int .i64 (.ofNat 2)) = tR (.str nm22) (.int .i64 (.ofNat 2)) zd (.bool false) := by kernel_rfl
theorem Tell_a22x3 (m : Nat) : tL (.str nm22) (.int .i64 (.ofNat (Nat.succ (Nat.succ (Nat.succ m))))) = tR (.str nm22) (.int .i64 (.ofNat (Nat.succ (Nat.succ (Nat.succ m))))) zd (.bool false) := by kernel_rfl
theorem Tell_a22xn (m : Nat) : tL (.str nm22) (.int .i64 (.negSucc m)) = tR (.str nm22) (.int .i64 (.negSucc m)) zd (.bool false) := by kernel_rfl
theorem Tell_a23x0 : tL (.str nm23) (.int .i64 (.ofNat 0)) = tR (.str nm23) (.int .i64 (.ofNat 0)) zd (.bool false) := by kernel_rfl
theorem Tell_a23x1 : tL (.str nm23) (.int .i64 (.ofNat 1)) = tR (.str nm23) (.int .i64 (.ofNat 1)) zd (.bool false) := by kernel_rfl
theorem Tell_a23x2 : tL (.str nm23) (.int .i64 (.ofNat 2)) = tR (.str nm23) (.int .i64 (.ofNat 2)) sd28 (.bool true) := by kernel_rfl
theorem Tell_a23x3 (m : Nat) : tL (.str nm23) (.int .i64 (.ofNat (Nat.succ (Nat.succ (Nat.succ m))))) = tR (.str nm23) (.int .i64 (.ofNat (Nat.succ (Nat.succ (Nat.succ m))))) zd (.bool false) := by kernel_rfl
theorem Tell_a23xn (m : Nat) : tL (.str nm23) (.int .i64 (.negSucc m)) = tR (.str nm23) (.int .i64 (.negSucc m)) zd (.bool false) := by kernel_rfl
theorem Tell_a24x0 : tL (.str nm24) (.int .i64 (.ofNat 0)) = tR (.str nm24) (.int .i64 (.ofNat 0)) zd (.bool false) := by kernel_rfl
theorem Tell_a24x1 : tL (.str nm24) (.int .i64 (.ofNat 1)) = tR (.str nm24) (.int .i64 (.ofNat 1)) zd (.bool false) := by kernel_rfl
theorem Tell_a24x2 : tL (.str nm24) (.int .i64 (.ofNat 2)) = tR (.str nm24) (.int .i64 (.ofNat 2)) sd29 (.bool true) := by kernel_rfl
theorem Tell_a24x3 (m : Nat) : tL (.str nm24) (.int .i64 (.ofNat (Nat.succ (Nat.succ (Nat.succ m))))) = tR (.str nm24) (.int .i64 (.ofNat (Nat.succ (Nat.succ (Nat.succ m))))) zd (.bool false) := by kernel_rfl
theorem Tell_a24xn (m : Nat) : tL (.str nm24) (.int .i64 (.negSucc m)) = tR (.str nm24) (.int .i64 (.negSucc m)) zd (.bool false) := by kernel_rfl
theorem Tell_a25x0 : tL (.str nm25) (.int .i64 (.ofNat 0)) = tR (.str nm25) (.int .i64 (.ofNat 0)) sd30 (.bool true) := by kernel_rfl
theorem Tell_a25x1 : tL (.str nm25) (.int .i64 (.ofNat 1)) = tR (.str nm25) (.int .i64 (.ofNat 1)) sd31 (.bool true) := by kernel_rfl
theorem Tell_a25x2 : tL (.str nm25) (.int .i64 (.ofNat 2)) = tR (.str nm25) (.int .i64 (.ofNat 2)) zd (.bool false) := by kernel_rfl
theorem Tell_a25x3 (m : Nat) : tL (.str nm25) (.int .i64 (.ofNat (Nat.succ (Nat.succ (Nat.succ m))))) = tR (.str nm25) (.int .i64 (.ofNat (Nat.succ (Nat.succ (Nat.succ m))))) zd (.bool false) := by kernel_rfl
theorem Tell_a25xn (m : Nat) : tL (.str nm25) (.int .i64 (.negSucc m)) = tR (.str nm25) (.int .i64 (.negSucc m)) zd (.bool false) := by kernel_rfl
theorem Tell_a26x0 : tL (.str nm26) (.int .i64 (.ofNat 0)) = tR (.str nm26) (.int .i64 (.ofNat 0)) sd32 (.bool true) := by kernel_rfl
theorem Tell_a26x1 : tL (.str nm26) (.int .i64 (.ofNat 1)) = tR (.str nm26) (.int .i64 (.ofNat 1)) zd (.bool false) := by kernel_rfl
theorem Tell_a26x2 : tL (.str nm26) (.int .i64 (.ofNat 2)) = tR (.str nm26) (.int .i64 (.ofNat 2)) zd (.bool false) := by kernel_rfl
theorem Tell_a26x3 (m : Nat) : tL (.str nm26) (.int .i64 (.ofNat (Nat.succ (Nat.succ (Nat.succ m))))) = tR (.str nm26) (.int .i64 (.ofNat (Nat.succ (Nat.succ (Nat.succ m))))) zd (.bool false) := by kernel_rfl
theorem Tell_a26xn (m : Nat) : tL (.str nm26) (.int .i64 (.negSucc m)) = tR (.str nm26) (.int .i64 (.negSucc m)) zd (.bool false) := by kernel_rfl
theorem Tell_a27x0 : tL (.str nm27) (.int .i64 (.ofNat 0)) = tR (.str nm27) (.int .i64 (.ofNat 0)) zd (.bool false) := by kernel_rfl
theorem Tell_a27x1 : tL (.str nm27) (.int .i64 (.ofNat 1)) = tR (.str nm27) (.int .i64 (.ofNat 1)) sd33 (.bool true) := by kernel_rfl
theorem Tell_a27x2 : tL (.str nm27) (.int .i64 (.ofNat 2)) = tR (.str nm27) (.int .i64 (.ofNat 2)) zd (.bool false) := by kernel_rfl
theorem Tell_a27x3 (m : Nat) : tL (.str nm27) (.int .i64 (.ofNat (Nat.succ (Nat.succ (Nat.succ m))))) = tR (.str nm27) (.int .i64 (.ofNat (Nat.succ (Nat.succ (Nat.succ m))))) zd (.bool false) := by kernel_rfl
theorem Tell_a27xn (m : Nat) : tL (.str nm27) (.int .i64 (.negSucc m)) = tR (.str nm27) (.int .i64 (.negSucc m)) zd (.bool false) := by kernel_rfl
theorem Tell_a28x0 : tL (.str nm28) (.int .i64 (.ofNat 0)) = tR (.str nm28) (.int .i64 (.ofNat 0)) sd34 (.bool true) := by kernel_rfl
theorem Tell_a28x1 : tL (.str nm28) (.int .i64 (.ofNat 1)) = tR (.str nm28) (.int .i64 (.ofNat 1)) zd (.bool false) := by kernel_rfl
theorem Tell_a28x2 : tL (.str nm28) (.int .i64 (.ofNat 2)) = tR (.str nm28) (.int .i64 (.ofNat 2)) zd (.bool false) := by kernel_rfl
theorem Tell_a28x3 (m : Nat) : tL (.str nm28) (.int .i64 (.ofNat (Nat.succ (Nat.succ (Nat.succ m))))) = tR (.str nm28) (.int .i64 (.ofNat (Nat.succ (Nat.succ (Nat.succ m))))) zd (.bool false) := by kernel_rfl
theorem Tell_a28xn (m : Nat) : tL (.str nm28) (.int .i64 (.negSucc m)) = tR (.str nm28) (.int .i64 (.negSucc m)) zd (.bool false) := by kernel_rfl
theorem Tell_a29x0 : tL (.str nm29) (.int .i64 (.ofNat 0)) = tR (.str nm29) (.int .i64 (.ofNat 0)) zd (.bool false) := by kernel_rfl
theorem Tell_a29x1 : tL (.str nm29) (.int .i64 (.ofNat 1)) = tR (.str nm29) (.int .i64 (.ofNat 1)) sd35 (.bool true) := by kernel_rfl
theorem Tell_a29x2 : tL (.str nm29) (.int .i64 (.ofNat 2)) = tR (.str nm29) (.int .i64 (.ofNat 2)) zd (.bool false) := by kernel_rfl
theorem Tell_a29x3 (m : Nat) : tL (.str nm29) (.int .i64 (.ofNat (Nat.succ (Nat.succ (Nat.succ m))))) = tR (.str nm29) (.int .i64 (.ofNat (Nat.succ (Nat.succ (Nat.succ m))))) zd (.bool false) := by kernel_rfl
theorem Tell_a29xn (m : Nat) : tL (.str nm29) (.int .i64 (.negSucc m)) = tR (.str nm29) (.int .i64 (.negSucc m)) zd (.bool false) := by kernel_rfl
theorem Tell_a30x0 : tL (.str nm30) (.int .i64 (.ofNat 0)) = tR (.str nm30) (.int .i64 (.ofNat 0)) zd (.bool false) := by kernel_rfl
theorem Tell_a30x1 : tL (.str nm30) (.int .i64 (.ofNat 1)) = tR (.str nm30) (.int .i64 (.ofNat 1)) sd36 (.bool true) := by kernel_rfl
theorem Tell_a30x2 : tL (.str nm30) (.int .i64 (.ofNat 2)) = tR (.str nm30) (.int .i64 (.ofNat 2)) zd (.bool false) := by kernel_rfl
theorem Tell_a30x3 (m : Nat) : tL (.str nm30) (.int .i64 (.ofNat (Nat.succ (Nat.succ (Nat.succ m))))) = tR (.str nm30) (.int .i64 (.ofNat (Nat.succ (Nat.succ (Nat.succ m))))) zd (.bool false) := by kernel_rfl
theorem Tell_a30xn (m : Nat) : tL (.str nm30) (.int .i64 (.negSucc m)) = tR (.str nm30) (.int .i64 (.negSucc m)) zd (.bool false) := by kernel_rfl
theorem Tell_a31x0 : tL (.str nm31) (.int .i64 (.ofNat 0)) = tR (.str nm31) (.int .i64 (.ofNat 0)) zd (.bool false) := by kernel_rfl
theorem Tell_a31x1 : tL (.str nm31) (.int .i64 (.ofNat 1)) = tR (.str nm31) (.int .i64 (.ofNat 1)) sd37 (.bool true) := by kernel_rfl
theorem Tell_a31x2 : tL (.str nm31) (.int .i64 (.ofNat 2)) = tR (.str nm31) (.int .i64 (.ofNat 2)) zd (.bool false) := by kernel_rfl
theorem Tell_a31x3 (m : Nat) : tL (.str nm31) (.int .i64 (.ofNat (Nat.succ (Nat.succ (Nat.succ m))))) = tR (.str nm31) (.int .i64 (.ofNat (Nat.succ (Nat.succ (Nat.succ m))))) zd (.bool false) := by kernel_rfl
theorem Tell_a31xn (m : Nat) : tL (.str nm31) (.int .i64 (.negSucc m)) = tR (.str nm31) (.int .i64 (.negSucc m)) zd (.bool false) := by kernel_rfl
theorem Tell_a32x0 : tL (.str nm32) (.int .i64 (.ofNat 0)) = tR (.str nm32) (.int .i64 (.ofNat 0)) zd (.bool false) := by kernel_rfl
theorem Tell_a32x1 : tL (.str nm32) (.int .i64 (.ofNat 1)) = tR (.str nm32) (.int .i64 (.ofNat 1)) sd38 (.bool true) := by kernel_rfl
theorem Tell_a32x2 : tL (.str nm32) (.int .i64 (.ofNat 2)) = tR (.str nm32) (.int .i64 (.ofNat 2)) zd (.bool false) := by kernel_rfl
theorem Tell_a32x3 (m : Nat) : tL (.str nm32) (.int .i64 (.ofNat (Nat.succ (Nat.succ (Nat.succ m))))) = tR (.str nm32) (.int .i64 (.ofNat (Nat.succ (Nat.succ (Nat.succ m))))) zd (.bool false) := by kernel_rfl
theorem Tell_a32xn (m : Nat) : tL (.str nm32) (.int .i64 (.negSucc m)) = tR (.str nm32) (.int .i64 (.negSucc m)) zd (.bool false) := by kernel_rfl
end Go.AM.T
