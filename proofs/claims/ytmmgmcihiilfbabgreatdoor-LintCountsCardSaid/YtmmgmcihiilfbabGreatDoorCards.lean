/-
  DERIVED. GIVEN WITH THE SEED: THE CARDS: each row of YtmmgmcihiilfbabGreatDoorRows.lean that lists a variable, with what it lists TIED to the program's text (the seventh form; the later family's looks); each row that meets fmt, with fmt's text TOLD by the authors' own Lean function (tested against real Go, not proved from fmt's source: count such statements apart). THE CARD IS WHAT COUNTS. Prove the row's statement (the work); the ties are given (YtmmgmcihiilfbabGreatDoorTie.lean); close each card by the builder's one call (the guide's Derived/Test/ToyasCard.lean, 'card_holds'). Laid BY PROGRAM, IN A SANDBOX (cutbox-door.mjs). By AI agents, Wed Nov 11 2026. No macro, syntax, notation, axiom, sorry.
-/
import Derived.Test.YtmmgmcihiilfbabGreatDoorRows
import GoSem.ClaimSeven
namespace Go.Proofs.YtmmgmcihiilfbabGreatDoor
namespace Rows

/-- THE TIED CARD OF 'bolterlaw32.LintCounts'. -/
def lintCountsCard : Claim7 := { stood := { row := lintCountsRow, standIns := [], harness := (true, "2cc9e4f477d378d3c037d4ce296609751e1acadf83ae72a996ced6b0714e68d5"), looks := true }, kinds := [], alts := [], laidByText := true, laidKinds := [.data, .listed, .data, .pinned], laidTests := true, laidLooks := .later }
def LintCountsCardSaid : Prop := Claim7.holds Tryz.pinned (.plain (OpenSpec.ofChange lintCountsSpec)) lintCountsCard

/-- THE SECOND FORM's CARD OF 'bolterlaw32.LintCounts'. -/
def lintCountsUptoCard : Claim7 := { stood := { row := lintCountsUptoRow, standIns := [], harness := (true, "2cc9e4f477d378d3c037d4ce296609751e1acadf83ae72a996ced6b0714e68d5"), looks := true }, kinds := [], alts := [], laidByText := true, laidKinds := [.data, .listed, .data, .pinned], laidTests := true, laidLooks := .later }
def LintCountsUptoCardSaid : Prop := Claim7.holds Tryz.pinned (.plain (OpenSpec.upto lintCountsSpec)) lintCountsUptoCard
end Rows
end Go.Proofs.YtmmgmcihiilfbabGreatDoor
