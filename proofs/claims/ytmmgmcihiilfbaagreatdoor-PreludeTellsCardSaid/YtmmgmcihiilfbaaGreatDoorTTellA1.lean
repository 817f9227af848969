/- bolterlaw22.PreludeTells: what is found at some names. -/
import Derived.Test.YtmmgmcihiilfbaaGreatDoorTTell
import Derived.KernelRfl
set_option linter.unusedVariables false
set_option maxRecDepth 100000
namespace Go.AM.T
open Go.Proofs
theorem Tell_a11x0 : tL (.str nm11) (.int .i64 (.ofNat 0)) = tR (.str nm11) (.int .i64 (.ofNat 0)) zd (.bool false) := by kernel_rfl
theorem Tell_a11x1 : tL (.str nm11) (.int .i64 (.ofNat 1)) = tR (.str nm11) (.int .i64 (.ofNat 1)) zd (.bool false) := by kernel_rfl
theorem Tell_a11x2 : tL (.str nm11) (.int .i64 (.ofNat 2)) = tR (.str nm11) (.int .i64 (.ofNat 2)) sd15 (.bool true) := by kernel_rfl
theorem Tell_a11x3 (m : Nat) : tL (.str nm11) (.int .i64 (.ofNat (Nat.succ (Nat.succ (Nat.succ m))))) = tR (.str nm11) (.int .i64 (.ofNat (Nat.succ (Nat.succ (Nat.succ m))))) zd (.bool false) := by kernel_rfl
theorem Tell_a11xn (m : Nat) : tL (.str nm11) (.int .i64 (.negSucc m)) = tR (.str nm11) (.int .i64 (.negSucc m)) zd (.bool false) := by kernel_rfl
theorem Tell_a12x0 : tL (.str nm12) (.int .i64 (.ofNat 0)) = tR (.str nm12) (.int .i64 (.ofNat 0)) zd (.bool false) := by kernel_rfl
theorem Tell_a12x1 : tL (.str nm12) (.int .i64 (.ofNat 1)) = tR (.str nm12) (.int .i64 (.ofNat 1)) sd16 (.bool true) := by kernel_rfl
theorem Tell_a12x2 : tL (.str nm12) (.int .i64 (.ofNat 2)) = tR (.str nm12) (.int .i64 (.ofNat 2)) zd (.bool false) := by kernel_rfl
theorem Tell_a12x3 (m : Nat) : tL (.str nm12) (.int .i64 (.ofNat (Nat.succ (Nat.succ (Nat.succ m))))) = tR (.str nm12) (.int .i64 (.ofNat (Nat.succ (Nat.succ (Nat.succ m))))) zd (.bool false) := by kernel_rfl
theorem Tell_a12xn (m : Nat) : tL (.str nm12) (.int .i64 (.negSucc m)) = tR (.str nm12) (.int .i64 (.negSucc m)) zd (.bool false) := by kernel_rfl
theorem Tell_a13x0 : tL (.str nm13) (.int .i64 (.ofNat 0)) = tR (.str nm13) (.int .i64 (.ofNat 0)) zd (.bool false) := by kernel_rfl
theorem Tell_a13x1 : tL (.str nm13) (.int .i64 (.ofNat 1)) = tR (.str nm13) (.int .i64 (.ofNat 1)) sd18 (.bool true) := by kernel_rfl
theorem Tell_a13x2 : tL (.str nm13) (.int .i64 (.ofNat 2)) = tR (.str nm13) (.int .i64 (.ofNat 2)) sd17 (.bool true) := by kernel_rfl
theorem Tell_a13x3 (m : Nat) : tL (.str nm13) (.int .i64 (.ofNat (Nat.succ (Nat.succ (Nat.succ m))))) = tR (.str nm13) (.int .i64 (.ofNat (Nat.succ (Nat.succ (Nat.succ m))))) zd (.bool false) := by kernel_rfl
theorem Tell_a13xn (m : Nat) : tL (.str nm13) (.int .i64 (.negSucc m)) = tR (.str nm13) (.int .i64 (.negSucc m)) zd (.bool false) := by kernel_rfl
theorem Tell_a14x0 : tL (.str nm14) (.int .i64 (.ofNat 0)) = tR (.str nm14) (.int .i64 (.ofNat 0)) zd (.bool false) := by kernel_rfl
theorem Tell_a14x1 : tL (.str nm14) (.int .i64 (.ofNat 1)) = tR (.str nm14) (.int .i64 (.ofNat 1)) sd19 (.bool true) := by kernel_rfl
theorem Tell_a14x2 : tL (.str nm14) (.int .i64 (.ofNat 2)) = tR (.str nm14) (.int .i64 (.ofNat 2)) zd (.bool false) := by kernel_rfl
theorem Tell_a14x3 (m : Nat) : tL (.str nm14) (.int .i64 (.ofNat (Nat.succ (Nat.succ (Nat.succ m))))) = tR (.str nm14) (.int .i64 (.ofNat (Nat.succ (Nat.succ (Nat.succ m))))) zd (.bool false) := by kernel_rfl
theorem Tell_a14xn (m : Nat) : tL (.str nm14) (.int .i64 (.negSucc m)) = tR (.str nm14) (.int .i64 (.negSucc m)) zd (.bool false) := by kernel_rfl
theorem Tell_a15x0 : tL (.str nm15) (.int .i64 (.ofNat 0)) = tR (.str nm15) (.int .i64 (.ofNat 0)) zd (.bool false) := by kernel_rfl
theorem Tell_a15x1 : tL (.str nm15) (.int .i64 (.ofNat 1)) = tR (.str nm15) (.int .i64 (.ofNat 1)) sd20 (.bool true) := by kernel_rfl
theorem Tell_a15x2 : tL (.str nm15) (.int .i64 (.ofNat 2)) = tR (.str nm15) (.int .i64 (.ofNat 2)) zd (.bool false) := by kernel_rfl
theorem Tell_a15x3 (m : Nat) : tL (.str nm15) (.int .i64 (.ofNat (Nat.succ (Nat.succ (Nat.succ m))))) = tR (.str nm15) (.int .i64 (.ofNat (Nat.succ (Nat.succ (Nat.succ m))))) zd (.bool false) := by kernel_rfl
theorem Tell_a15xn (m : Nat) : tL (.str nm15) (.int .i64 (.negSucc m)) = tR (.str nm15) (.int .i64 (.negSucc m)) zd (.bool false) := by kernel_rfl
theorem Tell_a16x0 : tL (.str nm16) (.int .i64 (.ofNat 0)) = tR (.str nm16) (.int .i64 (.ofNat 0)) zd (.bool false) := by kernel_rfl
theorem Tell_a16x1 : tL (.str nm16) (.int .i64 (.ofNat 1)) = tR (.str nm16) (.int .i64 (.ofNat 1)) sd21 (.bool true) := by kernel_rfl
theorem Tell_a16x2 : tL (.str nm16) (.int .i64 (.ofNat 2)) = tR (.str nm16) (.int .i64 (.ofNat 2)) zd (.bool false) := by kernel_rfl
theorem Tell_a16x3 (m : Nat) : tL (.str nm16) (.int .i64 (.ofNat (Nat.succ (Nat.succ (Nat.succ m))))) = tR (.str nm16) (.int .i64 (.ofNat (Nat.succ (Nat.succ (Nat.succ m))))) zd (.bool false) := by kernel_rfl
theorem Tell_a16xn (m : Nat) : tL (.str nm16) (.int .i64 (.negSucc m)) = tR (.str nm16) (.int .i64 (.negSucc m)) zd (.bool false) := by kernel_rfl
theorem Tell_a17x0 : tL (.str nm17) (.int .i64 (.ofNat 0)) = tR (.str nm17) (.int .i64 (.ofNat 0)) zd (.bool false) := by kernel_rfl
theorem Tell_a17x1 : tL (.str nm17) (.int .i64 (.ofNat 1)) = tR (.str nm17) (.int .i64 (.ofNat 1)) sd22 (.bool true) := by kernel_rfl
theorem Tell_a17x2 : tL (.str nm17) (.int .i64 (.ofNat 2)) = tR (.str nm17) (.int .i64 (.ofNat 2)) zd (.bool false) := by kernel_rfl
theorem Tell_a17x3 (m : Nat) : tL (.str nm17) (.int .i64 (.ofNat (Nat.succ (Nat.succ (Nat.succ m))))) = tR (.str nm17) (.int .i64 (.ofNat (Nat.succ (Nat.succ (Nat.succ m))))) zd (.bool false) := by kernel_rfl
theorem Tell_a17xn (m : Nat) : tL (.str nm17) (.int .i64 (.negSucc m)) = tR (.str nm17) (.int .i64 (.negSucc m)) zd (.bool false) := by kernel_rfl
theorem Tell_a18x0 : tL (.str nm18) (.int .i64 (.ofNat 0)) = tR (.str nm18) (.int .i64 (.ofNat 0)) zd (.bool false) := by kernel_rfl
theorem Tell_a18x1 : tL (.str nm18) (.int .i64 (.ofNat 1)) = tR (.str nm18) (.int .i64 (.ofNat 1)) sd23 (.bool true) := by kernel_rfl
theorem Tell_a18x2 : tL (.str nm18) (.int .i64 (.ofNat 2)) = tR (.str nm18) (.int .i64 (.ofNat 2)) zd (.bool false) := by kernel_rfl
theorem Tell_a18x3 (m : Nat) : tL (.str nm18) (.int .i64 (.ofNat (Nat.succ (Nat.succ (Nat.succ m))))) = tR (.str nm18) (.int .i64 (.ofNat (Nat.succ (Nat.succ (Nat.succ m))))) zd (.bool false) := by kernel_rfl
theorem Tell_a18xn (m : Nat) : tL (.str nm18) (.int .i64 (.negSucc m)) = tR (.str nm18) (.int .i64 (.negSucc m)) zd (.bool false) := by kernel_rfl
theorem Tell_a19x0 : tL (.str nm19) (.int .i64 (.ofNat 0)) = tR (.str nm19) (.int .i64 (.ofNat 0)) zd (.bool false) := by kernel_rfl
theorem Tell_a19x1 : tL (.str nm19) (.int .i64 (.ofNat 1)) = tR (.str nm19) (.int .i64 (.ofNat 1)) sd24 (.bool true) := by kernel_rfl
theorem Tell_a19x2 : tL (.str nm19) (.int .i64 (.ofNat 2)) = tR (.str nm19) (.int .i64 (.ofNat 2)) zd (.bool false) := by kernel_rfl
theorem Tell_a19x3 (m : Nat) : tL (.str nm19) (.int .i64 (.ofNat (Nat.succ (Nat.succ (Nat.succ m))))) = tR (.str nm19) (.int .i64 (.ofNat (Nat.succ (Nat.succ (Nat.succ m))))) zd (.bool false) := by kernel_rfl
theorem Tell_a19xn (m : Nat) : tL (.str nm19) (.int .i64 (.negSucc m)) = tR (.str nm19) (.int .i64 (.negSucc m)) zd (.bool false) := by kernel_rfl
theorem Tell_a20x0 : tL (.str nm20) (.int .i64 (.ofNat 0)) = tR (.str nm20) (.int .i64 (.ofNat 0)) zd (.bool false) := by kernel_rfl
theorem Tell_a20x1 : tL (.str nm20) (.int .i64 (.ofNat 1)) = tR (.str nm20) (.int .i64 (.ofNat 1)) sd25 (.bool true) := by kernel_rfl
theorem Tell_a20x2 : tL (.str nm20) (.int .i64 (.ofNat 2)) = tR (.str nm20) (.int .i64 (.ofNat 2)) zd (.bool false) := by kernel_rfl
theorem Tell_a20x3 (m : Nat) : tL (.str nm20) (.int .i64 (.ofNat (Nat.succ (Nat.succ (Nat.succ m))))) = tR (.str nm20) (.int .i64 (.ofNat (Nat.succ (Nat.succ (Nat.succ m))))) zd (.bool false) := by kernel_rfl
theorem Tell_a20xn (m : Nat) : tL (.str nm20) (.int .i64 (.negSucc m)) = tR (.str nm20) (.int .i64 (.negSucc m)) zd (.bool false) := by kernel_rfl
theorem Tell_a21x0 : tL (.str nm21) (.int .i64 (.ofNat 0)) = tR (.str nm21) (.int .i64 (.ofNat 0)) zd (.bool false) := by kernel_rfl
theorem Tell_a21x1 : tL (.str nm21) (.int .i64 (.ofNat 1)) = tR (.str nm21) (.int .i64 (.ofNat 1)) sd26 (.bool true) := by kernel_rfl
theorem Tell_a21x2 : tL (.str nm21) (.int .i64 (.ofNat 2)) = tR (.str nm21) (.int .i64 (.ofNat 2)) zd (.bool false) := by kernel_rfl
theorem Tell_a21x3 (m : Nat) : tL (.str nm21) (.int .i64 (.ofNat (Nat.succ (Nat.succ (Nat.succ m))))) = tR (.str nm21) (.int .i64 (.ofNat (Nat.succ (Nat.succ (Nat.succ m))))) zd (.bool false) := by kernel_rfl
theorem Tell_a21xn (m : Nat) : tL (.str nm21) (.int .i64 (.negSucc m)) = tR (.str nm21) (.int .i64 (.negSucc m)) zd (.bool false) := by kernel_rfl
end Go.AM.T
