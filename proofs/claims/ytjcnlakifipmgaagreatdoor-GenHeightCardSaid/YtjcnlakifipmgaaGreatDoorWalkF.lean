/- Both checks of a code. -/
import Derived.Test.YtjcnlakifipmgaaGreatDoorWalkE
set_option linter.unusedVariables false
set_option linter.unusedSimpArgs false
set_option linter.unnecessarySimpa false
set_option maxRecDepth 100000
/- Codes: both checks of a code. -/
namespace Go.AM.T
section
variable {X : Ctx}
def limS (op : Int) (n c : Nat) : Int × Int :=
  if op = 1 then ((c : Int) - 1, 0) else if op = 28 then ((n : Int) - 1, 8) else if op ∈ goesL then ((n : Int) - 1, 0) else if op = 17 then (10, 0) else
  if op = 14 ∨ op = 41 then (15, 0) else if uses op = 0 then (0, 0) else if uses op = 1 then (4096, 0) else (4096, 4096)
def mayS (op a b : Int) (n c : Nat) : Bool :=
  if op = 16 then decide (natCnt a = some b) else (decide (0 ≤ a ∧ a ≤ (limS op n c).1) && decide (0 ≤ b ∧ b ≤ (limS op n c).2))
def Other (op : Int) : Prop := ¬ op = 1 ∧ ¬ op = 16 ∧ ¬ op = 17 ∧ ¬ op = 14 ∧ ¬ op = 41 ∧ ¬ op = 28 ∧ ¬ op = 25 ∧ ¬ op = 27 ∧ ¬ op = 31 ∧ ¬ op = 34 ∧ ¬ op = 45 ∧ ¬ op = 30 ∧ ¬ op = 33 ∧ ¬ op = 5 ∧ ¬ op = 6 ∧ ¬ op = 19 ∧ ¬ op = 20 ∧ ¬ op = 22 ∧ ¬ op = 29
theorem ops_cat (op : Int) : op = 1 ∨ op = 17 ∨ op = 14 ∨ op = 41 ∨ op = 28 ∨ op = 25 ∨ op = 27 ∨ op = 31 ∨ op = 34 ∨ op = 45 ∨ op = 30 ∨ op = 33 ∨ op = 5 ∨ op = 6 ∨ op = 19 ∨ op = 20 ∨ op = 22 ∨ op = 29 ∨ op = 16 ∨ Other op := by
  unfold Other; omega
theorem uses_other {op : Int} (h : Other op) : uses op = 0 := by
  unfold Other at h; unfold uses
  rw [if_neg (by simp; omega), if_neg (by simp; omega)]
theorem goes_other {op : Int} (h : Other op) : (op ∈ goesL) = False := by
  unfold Other at h; unfold goesL
  simp; omega

theorem natCnt_nn {a b : Int} (h : natCnt a = some b) : uses 16 = 2 := rfl
end
end Go.AM.T
/- Codes: both checks of a code. -/
namespace Go.AM.T
section
variable {X : Ctx}
def instrsE (n c : Nat) : List Instr → Int
  | [] => 0
  | x :: r => if ¬ (0 ≤ x.op ∧ x.op < 46) then 23 else if mayS x.op x.a x.b n c = false then 4 else instrsE n c r
def lastOp (l : List Instr) : Int := match l.getLast? with
  | some x => x.op
  | none => 0
def chkC (c : Code) : Int :=
  if 16384 < c.instrs.length ∨ 4096 < c.consts.length then 5 else if c.instrs.length = 0 then 8 else
  if instrsE c.instrs.length c.consts.length c.instrs ≠ 0 then instrsE c.instrs.length c.consts.length c.instrs else
  if chksS c.consts ≠ 0 then chksS c.consts else if lastOp c.instrs ∈ endsL then 0 else 22
def Code.ok (c : Code) : Prop := (c.instrs.length : Int) ≤ 9223372036854775807 ∧ (c.consts.length : Int) ≤ 9223372036854775807 ∧ ∀ x ∈ c.consts, x.wf
theorem lastOp_eq {l : List Instr} (h : 0 < l.length) : lastOp l = (l[l.length - 1]'(by omega)).op := by
  unfold lastOp
  rw [List.getLast?_eq_getElem?, List.getElem?_eq_getElem (by omega)]

end
end Go.AM.T
