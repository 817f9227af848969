/- bolterlaw22.PreludeTells: what is found at some names. -/
import Derived.Test.YtmmgmcihiilfbaaGreatDoorTTell
import Derived.KernelRfl
set_option linter.unusedVariables false
set_option maxRecDepth 100000
namespace Go.AM.T
open Go.Proofs
theorem Tell_a0x0 : tL (.str nm0) (.int .i64 (.ofNat 0)) = tR (.str nm0) (.int .i64 (.ofNat 0)) zd (.bool false) := by kernel_rfl
theorem Tell_a0x1 : tL (.str nm0) (.int .i64 (.ofNat 1)) = tR (.str nm0) (.int .i64 (.ofNat 1)) sd0 (.bool true) := by kernel_rfl
theorem Tell_a0x2 : tL (.str nm0) (.int .i64 (.ofNat 2)) = tR (.str nm0) (.int .i64 (.ofNat 2)) zd (.bool false) := by kernel_rfl
theorem Tell_a0x3 (m : Nat) : tL (.str nm0) (.int .i64 (.ofNat (Nat.succ (Nat.succ (Nat.succ m))))) = tR (.str nm0) (.int .i64 (.ofNat (Nat.succ (Nat.succ (Nat.succ m))))) zd (.bool false) := by kernel_rfl
theorem Tell_a0xn (m : Nat) : tL (.str nm0) (.int .i64 (.negSucc m)) = tR (.str nm0) (.int .i64 (.negSucc m)) zd (.bool false) := by kernel_rfl
theorem Tell_a1x0 : tL (.str nm1) (.int .i64 (.ofNat 0)) = tR (.str nm1) (.int .i64 (.ofNat 0)) zd (.bool false) := by kernel_rfl
theorem Tell_a1x1 : tL (.str nm1) (.int .i64 (.ofNat 1)) = tR (.str nm1) (.int .i64 (.ofNat 1)) sd1 (.bool true) := by kernel_rfl
theorem Tell_a1x2 : tL (.str nm1) (.int .i64 (.ofNat 2)) = tR (.str nm1) (.int .i64 (.ofNat 2)) zd (.bool false) := by kernel_rfl
theorem Tell_a1x3 (m : Nat) : tL (.str nm1) (.int .i64 (.ofNat (Nat.succ (Nat.succ (Nat.succ m))))) = tR (.str nm1) (.int .i64 (.ofNat (Nat.succ (Nat.succ (Nat.succ m))))) zd (.bool false) := by kernel_rfl
theorem Tell_a1xn (m : Nat) : tL (.str nm1) (.int .i64 (.negSucc m)) = tR (.str nm1) (.int .i64 (.negSucc m)) zd (.bool false) := by kernel_rfl
theorem Tell_a2x0 : tL (.str nm2) (.int .i64 (.ofNat 0)) = tR (.str nm2) (.int .i64 (.ofNat 0)) sd2 (.bool true) := by kernel_rfl
theorem Tell_a2x1 : tL (.str nm2) (.int .i64 (.ofNat 1)) = tR (.str nm2) (.int .i64 (.ofNat 1)) zd (.bool false) := by kernel_rfl
theorem Tell_a2x2 : tL (.str nm2) (.int .i64 (.ofNat 2)) = tR (.str nm2) (.int .i64 (.ofNat 2)) zd (.bool false) := by kernel_rfl
theorem Tell_a2x3 (m : Nat) : tL (.str nm2) (.int .i64 (.ofNat (Nat.succ (Nat.succ (Nat.succ m))))) = tR (.str nm2) (.int .i64 (.ofNat (Nat.succ (Nat.succ (Nat.succ m))))) zd (.bool false) := by kernel_rfl
theorem Tell_a2xn (m : Nat) : tL (.str nm2) (.int .i64 (.negSucc m)) = tR (.str nm2) (.int .i64 (.negSucc m)) zd (.bool false) := by kernel_rfl
theorem Tell_a3x0 : tL (.str nm3) (.int .i64 (.ofNat 0)) = tR (.str nm3) (.int .i64 (.ofNat 0)) sd3 (.bool true) := by kernel_rfl
theorem Tell_a3x1 : tL (.str nm3) (.int .i64 (.ofNat 1)) = tR (.str nm3) (.int .i64 (.ofNat 1)) zd (.bool false) := by kernel_rfl
theorem Tell_a3x2 : tL (.str nm3) (.int .i64 (.ofNat 2)) = tR (.str nm3) (.int .i64 (.ofNat 2)) zd (.bool false) := by kernel_rfl
theorem Tell_a3x3 (m : Nat) : tL (.str nm3) (.int .i64 (.ofNat (Nat.succ (Nat.succ (Nat.succ m))))) = tR (.str nm3) (.int .i64 (.ofNat (Nat.succ (Nat.succ (Nat.succ m))))) zd (.bool false) := by kernel_rfl
theorem Tell_a3xn (m : Nat) : tL (.str nm3) (.int .i64 (.negSucc m)) = tR (.str nm3) (.int .i64 (.negSucc m)) zd (.bool false) := by kernel_rfl
theorem Tell_a4x0 : tL (.str nm4) (.int .i64 (.ofNat 0)) = tR (.str nm4) (.int .i64 (.ofNat 0)) sd4 (.bool true) := by kernel_rfl
theorem Tell_a4x1 : tL (.str nm4) (.int .i64 (.ofNat 1)) = tR (.str nm4) (.int .i64 (.ofNat 1)) zd (.bool false) := by kernel_rfl
theorem Tell_a4x2 : tL (.str nm4) (.int .i64 (.ofNat 2)) = tR (.str nm4) (.int .i64 (.ofNat 2)) zd (.bool false) := by kernel_rfl
theorem Tell_a4x3 (m : Nat) : tL (.str nm4) (.int .i64 (.ofNat (Nat.succ (Nat.succ (Nat.succ m))))) = tR (.str nm4) (.int .i64 (.ofNat (Nat.succ (Nat.succ (Nat.succ m))))) zd (.bool false) := by kernel_rfl
theorem Tell_a4xn (m : Nat) : tL (.str nm4) (.int .i64 (.negSucc m)) = tR (.str nm4) (.int .i64 (.negSucc m)) zd (.bool false) := by kernel_rfl
theorem Tell_a5x0 : tL (.str nm5) (.int .i64 (.ofNat 0)) = tR (.str nm5) (.int .i64 (.ofNat 0)) sd5 (.bool true) := by kernel_rfl
theorem Tell_a5x1 : tL (.str nm5) (.int .i64 (.ofNat 1)) = tR (.str nm5) (.int .i64 (.ofNat 1)) zd (.bool false) := by kernel_rfl
theorem Tell_a5x2 : tL (.str nm5) (.int .i64 (.ofNat 2)) = tR (.str nm5) (.int .i64 (.ofNat 2)) zd (.bool false) := by kernel_rfl
theorem Tell_a5x3 (m : Nat) : tL (.str nm5) (.int .i64 (.ofNat (Nat.succ (Nat.succ (Nat.succ m))))) = tR (.str nm5) (.int .i64 (.ofNat (Nat.succ (Nat.succ (Nat.succ m))))) zd (.bool false) := by kernel_rfl
theorem Tell_a5xn (m : Nat) : tL (.str nm5) (.int .i64 (.negSucc m)) = tR (.str nm5) (.int .i64 (.negSucc m)) zd (.bool false) := by kernel_rfl
theorem Tell_a6x0 : tL (.str nm6) (.int .i64 (.ofNat 0)) = tR (.str nm6) (.int .i64 (.ofNat 0)) sd8 (.bool true) := by kernel_rfl
theorem Tell_a6x1 : tL (.str nm6) (.int .i64 (.ofNat 1)) = tR (.str nm6) (.int .i64 (.ofNat 1)) sd6 (.bool true) := by kernel_rfl
theorem Tell_a6x2 : tL (.str nm6) (.int .i64 (.ofNat 2)) = tR (.str nm6) (.int .i64 (.ofNat 2)) sd7 (.bool true) := by kernel_rfl
theorem Tell_a6x3 (m : Nat) : tL (.str nm6) (.int .i64 (.ofNat (Nat.succ (Nat.succ (Nat.succ m))))) = tR (.str nm6) (.int .i64 (.ofNat (Nat.succ (Nat.succ (Nat.succ m))))) zd (.bool false) := by kernel_rfl
theorem Tell_a6xn (m : Nat) : tL (.str nm6) (.int .i64 (.negSucc m)) = tR (.str nm6) (.int .i64 (.negSucc m)) zd (.bool false) := by kernel_rfl
theorem Tell_a7x0 : tL (.str nm7) (.int .i64 (.ofNat 0)) = tR (.str nm7) (.int .i64 (.ofNat 0)) sd10 (.bool true) := by kernel_rfl
theorem Tell_a7x1 : tL (.str nm7) (.int .i64 (.ofNat 1)) = tR (.str nm7) (.int .i64 (.ofNat 1)) sd9 (.bool true) := by kernel_rfl
theorem Tell_a7x2 : tL (.str nm7) (.int .i64 (.ofNat 2)) = tR (.str nm7) (.int .i64 (.ofNat 2)) zd (.bool false) := by kernel_rfl
theorem Tell_a7x3 (m : Nat) : tL (.str nm7) (.int .i64 (.ofNat (Nat.succ (Nat.succ (Nat.succ m))))) = tR (.str nm7) (.int .i64 (.ofNat (Nat.succ (Nat.succ (Nat.succ m))))) zd (.bool false) := by kernel_rfl
theorem Tell_a7xn (m : Nat) : tL (.str nm7) (.int .i64 (.negSucc m)) = tR (.str nm7) (.int .i64 (.negSucc m)) zd (.bool false) := by kernel_rfl
theorem Tell_a8x0 : tL (.str nm8) (.int .i64 (.ofNat 0)) = tR (.str nm8) (.int .i64 (.ofNat 0)) sd12 (.bool true) := by kernel_rfl
theorem Tell_a8x1 : tL (.str nm8) (.int .i64 (.ofNat 1)) = tR (.str nm8) (.int .i64 (.ofNat 1)) sd11 (.bool true) := by kernel_rfl
theorem Tell_a8x2 : tL (.str nm8) (.int .i64 (.ofNat 2)) = tR (.str nm8) (.int .i64 (.ofNat 2)) zd (.bool false) := by kernel_rfl
theorem Tell_a8x3 (m : Nat) : tL (.str nm8) (.int .i64 (.ofNat (Nat.succ (Nat.succ (Nat.succ m))))) = tR (.str nm8) (.int .i64 (.ofNat (Nat.succ (Nat.succ (Nat.succ m))))) zd (.bool false) := by kernel_rfl
theorem Tell_a8xn (m : Nat) : tL (.str nm8) (.int .i64 (.negSucc m)) = tR (.str nm8) (.int .i64 (.negSucc m)) zd (.bool false) := by kernel_rfl
theorem Tell_a9x0 : tL (.str nm9) (.int .i64 (.ofNat 0)) = tR (.str nm9) (.int .i64 (.ofNat 0)) zd (.bool false) := by kernel_rfl
theorem Tell_a9x1 : tL (.str nm9) (.int .i64 (.ofNat 1)) = tR (.str nm9) (.int .i64 (.ofNat 1)) zd (.bool false) := by kernel_rfl
theorem Tell_a9x2 : tL (.str nm9) (.int .i64 (.ofNat 2)) = tR (.str nm9) (.int .i64 (.ofNat 2)) sd13 (.bool true) := by kernel_rfl
theorem Tell_a9x3 (m : Nat) : tL (.str nm9) (.int .i64 (.ofNat (Nat.succ (Nat.succ (Nat.succ m))))) = tR (.str nm9) (.int .i64 (.ofNat (Nat.succ (Nat.succ (Nat.succ m))))) zd (.bool false) := by kernel_rfl
theorem Tell_a9xn (m : Nat) : tL (.str nm9) (.int .i64 (.negSucc m)) = tR (.str nm9) (.int .i64 (.negSucc m)) zd (.bool false) := by kernel_rfl
theorem Tell_a10x0 : tL (.str nm10) (.int .i64 (.ofNat 0)) = tR (.str nm10) (.int .i64 (.ofNat 0)) zd (.bool false) := by kernel_rfl
theorem Tell_a10x1 : tL (.str nm10) (.int .i64 (.ofNat 1)) = tR (.str nm10) (.int .i64 (.ofNat 1)) zd (.bool false) := by kernel_rfl
theorem Tell_a10x2 : tL (.str nm10) (.int .i64 (.ofNat 2)) = tR (.str nm10) (.int .i64 (.ofNat 2)) sd14 (.bool true) := by kernel_rfl
theorem Tell_a10x3 (m : Nat) : tL (.str nm10) (.int .i64 (.ofNat (Nat.succ (Nat.succ (Nat.succ m))))) = tR (.str nm10) (.int .i64 (.ofNat (Nat.succ (Nat.succ (Nat.succ m))))) zd (.bool false) := by kernel_rfl
theorem Tell_a10xn (m : Nat) : tL (.str nm10) (.int .i64 (.negSucc m)) = tR (.str nm10) (.int .i64 (.negSucc m)) zd (.bool false) := by kernel_rfl
end Go.AM.T
