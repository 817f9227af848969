/- A world in which the four tables are laid; what the machine is told of it. -/
import Derived.Test.YtmmgmcihiilfbabGreatDoorRows
import Derived.Test.YtmmgmcihiilfbabGreatDoorCtx
import Derived.Test.YtmmgmcihiilfbabGreatDoorAmJ
import Derived.Lib.LaidU8
import Derived.Lib.Space
import Derived.Lib.SpaceR
import Derived.LaidLaws
import Derived.Stop.LaidErr
import Derived.Deep.DeepWitnessRowRef
set_option linter.unusedVariables false
set_option maxRecDepth 100000
namespace Go.Proofs.YtmmgmcihiilfbabGreatDoor
open Go.AM Go.AM.T

theorem own : ownKnob Tryz.prog.godebug = none := by kernel_rfl

noncomputable def laidWorld (os : Os) : World :=
  let N := (World.settled Tryz.prog os).heap.size
  let w0 := World.holding Tryz.prog os ⟨#[.cells (Lib.whiteT.map fun (z : Nat) => Value.int .u16 (z : Int)).toArray 231, .cells #[.slice (some ⟨N, 0, none⟩) 7 7, .slice none 0 0, .int .i64 2] 228], #[], []⟩
  let put (h : Array Obj) (g : Nat) (cs : Array Value) : Array Obj := h.modify g fun
    | .cells _ t frozen => .cells cs t frozen
    | o => o
  let h1 := put w0.heap 1 (Lib.asciiSpaceTab.map fun z => Value.int .u8 z).toArray
  let h2 := put h1 3 (Lib.firstTab.map fun z => Value.int .u8 z).toArray
  let h3 := put h2 4 ((List.range 16).flatMap fun i => [Value.int .u8 (Lib.accLo i), Value.int .u8 (Lib.accHi i)]).toArray
  let h4 := put h3 2 #[.pointer (some ⟨N + 1, 0, none⟩)]
  { w0 with heap := h4 }

theorem laid_met (os : Os) : laidMet Tryz.prog Rows.lintCountsRow.laid ((laidWorld os).forCall (fun _ _ => 0) ⟨#[], #[.slice none 0 0], []⟩).memory :=
  laidMet_of_run' 10 (by kernel_rfl) (by kernel_rfl)

theorem gT : Tryz.prog.globalNamed "strings.asciiSpace" = some 1 := by kernel_rfl
theorem gTType : (Tryz.prog.globals[1]?).map (·.type) = some 150 := by kernel_rfl
theorem cells150 : Tryz.prog.cellsOf 150 = 256 := by kernel_rfl
theorem cells5 : Tryz.prog.cellsOf 5 = 1 := by kernel_rfl

theorem table {W : World} (h : laidMetH Tryz.prog Rows.lintCountsRow.laid W) : Lib.TabIs Tryz.prog W "strings.asciiSpace" .u8 Lib.asciiSpaceTab := by
  have h1 : laidMet Tryz.prog Rows.lintCountsRow.laid W := h
  exact Lib.tabIs_of_head (rest := [("unicode/utf8.first", Rows.laid_unicode_utf8_first)]) gT gTType Tryz.underlying150 Tryz.underlying5 cells5 cells150 h1.tail.tail

theorem tab_eq : asciiSpace = Lib.asciiSpaceTab.map (D.int .u8) := by kernel_rfl

theorem globs {W : World} (h : laidMetH Tryz.prog Rows.lintCountsRow.laid W) : ∀ g cs, X0.G g = some cs → ∃ cur e fr, W.heap[g]? = some (.cells cur e fr) ∧ FRs cs (Fz.all W) cur 0 := by
  intro g cs hg
  have hg' : Bool.rec (motive := fun _ => Option (List D)) none (some asciiSpace) (Nat.beq g 1) = some cs := hg
  cases hb : Nat.beq g 1 with
  | false => rw [hb] at hg'; cases hg'
  | true =>
    rw [hb] at hg'
    cases hg'
    rw [Nat.eq_of_beq_eq_true hb, tab_eq]
    exact glob_tab gT (table h)
end Go.Proofs.YtmmgmcihiilfbabGreatDoor
