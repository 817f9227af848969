/- bolterlaw22.PreludeTells: what is found at some names. -/
import Derived.Test.YtmmgmcihiilfbaaGreatDoorTTell
import Derived.KernelRfl
set_option linter.unusedVariables false
set_option maxRecDepth 100000
namespace Go.AM.T
open Go.Proofs
theorem Tell_a33x0 : tL (.str nm33) (.int .i64 (.ofNat 0)) = tR (.str nm33) (.int .i64 (.ofNat 0)) zd (.bool false) := by kernel_rfl
theorem Tell_a33x1 : tL (.str nm33) (.int .i64 (.ofNat 1)) = tR (.str nm33) (.int .i64 (.ofNat 1)) sd39 (.bool true) := by kernel_rfl
theorem Tell_a33x2 : tL (.str nm33) (.int .i64 (.ofNat 2)) = tR (.str nm33) (.int .i64 (.ofNat 2)) zd (.bool false) := by kernel_rfl
theorem Tell_a33x3 (m : Nat) : tL (.str nm33) (.int .i64 (.ofNat (Nat.succ (Nat.succ (Nat.succ m))))) = tR (.str nm33) (.int .i64 (.ofNat (Nat.succ (Nat.succ (Nat.succ m))))) zd (.bool false) := by kernel_rfl
theorem Tell_a33xn (m : Nat) : tL (.str nm33) (.int .i64 (.negSucc m)) = tR (.str nm33) (.int .i64 (.negSucc m)) zd (.bool false) := by kernel_rfl
theorem Tell_a34x0 : tL (.str nm34) (.int .i64 (.ofNat 0)) = tR (.str nm34) (.int .i64 (.ofNat 0)) zd (.bool false) := by kernel_rfl
theorem Tell_a34x1 : tL (.str nm34) (.int .i64 (.ofNat 1)) = tR (.str nm34) (.int .i64 (.ofNat 1)) sd40 (.bool true) := by kernel_rfl
theorem Tell_a34x2 : tL (.str nm34) (.int .i64 (.ofNat 2)) = tR (.str nm34) (.int .i64 (.ofNat 2)) sd41 (.bool true) := by kernel_rfl
theorem Tell_a34x3 (m : Nat) : tL (.str nm34) (.int .i64 (.ofNat (Nat.succ (Nat.succ (Nat.succ m))))) = tR (.str nm34) (.int .i64 (.ofNat (Nat.succ (Nat.succ (Nat.succ m))))) zd (.bool false) := by kernel_rfl
theorem Tell_a34xn (m : Nat) : tL (.str nm34) (.int .i64 (.negSucc m)) = tR (.str nm34) (.int .i64 (.negSucc m)) zd (.bool false) := by kernel_rfl
theorem Tell_a35x0 : tL (.str nm35) (.int .i64 (.ofNat 0)) = tR (.str nm35) (.int .i64 (.ofNat 0)) sd42 (.bool true) := by kernel_rfl
theorem Tell_a35x1 : tL (.str nm35) (.int .i64 (.ofNat 1)) = tR (.str nm35) (.int .i64 (.ofNat 1)) zd (.bool false) := by kernel_rfl
theorem Tell_a35x2 : tL (.str nm35) (.int .i64 (.ofNat 2)) = tR (.str nm35) (.int .i64 (.ofNat 2)) zd (.bool false) := by kernel_rfl
theorem Tell_a35x3 (m : Nat) : tL (.str nm35) (.int .i64 (.ofNat (Nat.succ (Nat.succ (Nat.succ m))))) = tR (.str nm35) (.int .i64 (.ofNat (Nat.succ (Nat.succ (Nat.succ m))))) zd (.bool false) := by kernel_rfl
theorem Tell_a35xn (m : Nat) : tL (.str nm35) (.int .i64 (.negSucc m)) = tR (.str nm35) (.int .i64 (.negSucc m)) zd (.bool false) := by kernel_rfl
theorem Tell_a36x0 : tL (.str nm36) (.int .i64 (.ofNat 0)) = tR (.str nm36) (.int .i64 (.ofNat 0)) sd43 (.bool true) := by kernel_rfl
theorem Tell_a36x1 : tL (.str nm36) (.int .i64 (.ofNat 1)) = tR (.str nm36) (.int .i64 (.ofNat 1)) zd (.bool false) := by kernel_rfl
theorem Tell_a36x2 : tL (.str nm36) (.int .i64 (.ofNat 2)) = tR (.str nm36) (.int .i64 (.ofNat 2)) zd (.bool false) := by kernel_rfl
theorem Tell_a36x3 (m : Nat) : tL (.str nm36) (.int .i64 (.ofNat (Nat.succ (Nat.succ (Nat.succ m))))) = tR (.str nm36) (.int .i64 (.ofNat (Nat.succ (Nat.succ (Nat.succ m))))) zd (.bool false) := by kernel_rfl
theorem Tell_a36xn (m : Nat) : tL (.str nm36) (.int .i64 (.negSucc m)) = tR (.str nm36) (.int .i64 (.negSucc m)) zd (.bool false) := by kernel_rfl
theorem Tell_a37x0 : tL (.str nm37) (.int .i64 (.ofNat 0)) = tR (.str nm37) (.int .i64 (.ofNat 0)) zd (.bool false) := by kernel_rfl
theorem Tell_a37x1 : tL (.str nm37) (.int .i64 (.ofNat 1)) = tR (.str nm37) (.int .i64 (.ofNat 1)) sd44 (.bool true) := by kernel_rfl
theorem Tell_a37x2 : tL (.str nm37) (.int .i64 (.ofNat 2)) = tR (.str nm37) (.int .i64 (.ofNat 2)) zd (.bool false) := by kernel_rfl
theorem Tell_a37x3 (m : Nat) : tL (.str nm37) (.int .i64 (.ofNat (Nat.succ (Nat.succ (Nat.succ m))))) = tR (.str nm37) (.int .i64 (.ofNat (Nat.succ (Nat.succ (Nat.succ m))))) zd (.bool false) := by kernel_rfl
theorem Tell_a37xn (m : Nat) : tL (.str nm37) (.int .i64 (.negSucc m)) = tR (.str nm37) (.int .i64 (.negSucc m)) zd (.bool false) := by kernel_rfl
theorem Tell_a38x0 : tL (.str nm38) (.int .i64 (.ofNat 0)) = tR (.str nm38) (.int .i64 (.ofNat 0)) zd (.bool false) := by kernel_rfl
theorem Tell_a38x1 : tL (.str nm38) (.int .i64 (.ofNat 1)) = tR (.str nm38) (.int .i64 (.ofNat 1)) sd45 (.bool true) := by kernel_rfl
theorem Tell_a38x2 : tL (.str nm38) (.int .i64 (.ofNat 2)) = tR (.str nm38) (.int .i64 (.ofNat 2)) zd (.bool false) := by kernel_rfl
theorem Tell_a38x3 (m : Nat) : tL (.str nm38) (.int .i64 (.ofNat (Nat.succ (Nat.succ (Nat.succ m))))) = tR (.str nm38) (.int .i64 (.ofNat (Nat.succ (Nat.succ (Nat.succ m))))) zd (.bool false) := by kernel_rfl
theorem Tell_a38xn (m : Nat) : tL (.str nm38) (.int .i64 (.negSucc m)) = tR (.str nm38) (.int .i64 (.negSucc m)) zd (.bool false) := by kernel_rfl
theorem Tell_a39x0 : tL (.str nm39) (.int .i64 (.ofNat 0)) = tR (.str nm39) (.int .i64 (.ofNat 0)) zd (.bool false) := by kernel_rfl
theorem Tell_a39x1 : tL (.str nm39) (.int .i64 (.ofNat 1)) = tR (.str nm39) (.int .i64 (.ofNat 1)) sd46 (.bool true) := by kernel_rfl
theorem Tell_a39x2 : tL (.str nm39) (.int .i64 (.ofNat 2)) = tR (.str nm39) (.int .i64 (.ofNat 2)) zd (.bool false) := by kernel_rfl
theorem Tell_a39x3 (m : Nat) : tL (.str nm39) (.int .i64 (.ofNat (Nat.succ (Nat.succ (Nat.succ m))))) = tR (.str nm39) (.int .i64 (.ofNat (Nat.succ (Nat.succ (Nat.succ m))))) zd (.bool false) := by kernel_rfl
theorem Tell_a39xn (m : Nat) : tL (.str nm39) (.int .i64 (.negSucc m)) = tR (.str nm39) (.int .i64 (.negSucc m)) zd (.bool false) := by kernel_rfl
theorem Tell_a40x0 : tL (.str nm40) (.int .i64 (.ofNat 0)) = tR (.str nm40) (.int .i64 (.ofNat 0)) sd47 (.bool true) := by kernel_rfl
theorem Tell_a40x1 : tL (.str nm40) (.int .i64 (.ofNat 1)) = tR (.str nm40) (.int .i64 (.ofNat 1)) zd (.bool false) := by kernel_rfl
theorem Tell_a40x2 : tL (.str nm40) (.int .i64 (.ofNat 2)) = tR (.str nm40) (.int .i64 (.ofNat 2)) zd (.bool false) := by kernel_rfl
theorem Tell_a40x3 (m : Nat) : tL (.str nm40) (.int .i64 (.ofNat (Nat.succ (Nat.succ (Nat.succ m))))) = tR (.str nm40) (.int .i64 (.ofNat (Nat.succ (Nat.succ (Nat.succ m))))) zd (.bool false) := by kernel_rfl
theorem Tell_a40xn (m : Nat) : tL (.str nm40) (.int .i64 (.negSucc m)) = tR (.str nm40) (.int .i64 (.negSucc m)) zd (.bool false) := by kernel_rfl
end Go.AM.T
