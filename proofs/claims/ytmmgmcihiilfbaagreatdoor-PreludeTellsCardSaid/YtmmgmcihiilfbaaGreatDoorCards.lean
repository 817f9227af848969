/-
  DERIVED. GIVEN WITH THE SEED: THE CARDS: each row of YtmmgmcihiilfbaaGreatDoorRows.lean that lists a variable, with what it lists TIED to the program's text (the seventh form; the later family's looks); each row that meets fmt, with fmt's text TOLD by the authors' own Lean function (tested against real Go, not proved from fmt's source: count such statements apart). THE CARD IS WHAT COUNTS. Prove the row's statement (the work); the ties are given (YtmmgmcihiilfbaaGreatDoorTie.lean); close each card by the builder's one call (the guide's Derived/Test/ToyasCard.lean, 'card_holds'). Laid BY PROGRAM, IN A SANDBOX (cutbox-door.mjs). By AI agents, Wed Nov 11 2026. No macro, syntax, notation, axiom, sorry.
-/
import Derived.Test.YtmmgmcihiilfbaaGreatDoorRows
import GoSem.ClaimSeven
namespace Go.Proofs.YtmmgmcihiilfbaaGreatDoor
namespace Rows

/-- THE TIED CARD OF 'bolterlaw22.PreludeBound'. -/
def preludeBoundCard : Claim7 := { stood := { row := preludeBoundRow, standIns := [], harness := (true, "c65c441e1a3be66805738e9111c96bf9d5791c0d8221972aa03fb56f93b4e7ea"), looks := true }, kinds := [], alts := [], laidByText := true, laidKinds := [.data, .listed, .data, .pinned], laidTests := true, laidLooks := .later }
def PreludeBoundCardSaid : Prop := Claim7.holds Tryz.pinned (.plain (OpenSpec.ofChange preludeBoundSpec)) preludeBoundCard

/-- THE TIED CARD OF 'bolterlaw22.PreludeOwn'. -/
def preludeOwnCard : Claim7 := { stood := { row := preludeOwnRow, standIns := [], harness := (true, "c65c441e1a3be66805738e9111c96bf9d5791c0d8221972aa03fb56f93b4e7ea"), looks := true }, kinds := [], alts := [], laidByText := true, laidKinds := [.data, .listed, .data, .pinned], laidTests := true, laidLooks := .later }
def PreludeOwnCardSaid : Prop := Claim7.holds Tryz.pinned (.plain (OpenSpec.ofChange preludeOwnSpec)) preludeOwnCard

/-- THE TIED CARD OF 'bolterlaw22.PreludeFinds'. -/
def preludeFindsCard : Claim7 := { stood := { row := preludeFindsRow, standIns := [], harness := (true, "c65c441e1a3be66805738e9111c96bf9d5791c0d8221972aa03fb56f93b4e7ea"), looks := true }, kinds := [], alts := [], laidByText := true, laidKinds := [.data, .listed, .data, .pinned], laidTests := true, laidLooks := .later }
def PreludeFindsCardSaid : Prop := Claim7.holds Tryz.pinned (.plain (OpenSpec.ofChange preludeFindsSpec)) preludeFindsCard

/-- THE TIED CARD OF 'bolterlaw22.PreludeReads'. -/
def preludeReadsCard : Claim7 := { stood := { row := preludeReadsRow, standIns := [], harness := (true, "c65c441e1a3be66805738e9111c96bf9d5791c0d8221972aa03fb56f93b4e7ea"), looks := true }, kinds := [], alts := [], laidByText := true, laidKinds := [.data, .listed, .data, .pinned], laidTests := true, laidLooks := .later }
def PreludeReadsCardSaid : Prop := Claim7.holds Tryz.pinned (.plain (OpenSpec.ofChange preludeReadsSpec)) preludeReadsCard

/-- THE TIED CARD OF 'bolterlaw22.PreludeTells'. -/
def preludeTellsCard : Claim7 := { stood := { row := preludeTellsRow, standIns := [], harness := (true, "c65c441e1a3be66805738e9111c96bf9d5791c0d8221972aa03fb56f93b4e7ea"), looks := true }, kinds := [], alts := [], laidByText := true, laidKinds := [.data, .listed, .data, .pinned], laidTests := true, laidLooks := .later }
def PreludeTellsCardSaid : Prop := Claim7.holds Tryz.pinned (.plain (OpenSpec.ofChange preludeTellsSpec)) preludeTellsCard

/-- THE SECOND FORM's CARD OF 'bolterlaw22.PreludeBound'. -/
def preludeBoundUptoCard : Claim7 := { stood := { row := preludeBoundUptoRow, standIns := [], harness := (true, "c65c441e1a3be66805738e9111c96bf9d5791c0d8221972aa03fb56f93b4e7ea"), looks := true }, kinds := [], alts := [], laidByText := true, laidKinds := [.data, .listed, .data, .pinned], laidTests := true, laidLooks := .later }
def PreludeBoundUptoCardSaid : Prop := Claim7.holds Tryz.pinned (.plain (OpenSpec.upto preludeBoundSpec)) preludeBoundUptoCard

/-- THE SECOND FORM's CARD OF 'bolterlaw22.PreludeOwn'. -/
def preludeOwnUptoCard : Claim7 := { stood := { row := preludeOwnUptoRow, standIns := [], harness := (true, "c65c441e1a3be66805738e9111c96bf9d5791c0d8221972aa03fb56f93b4e7ea"), looks := true }, kinds := [], alts := [], laidByText := true, laidKinds := [.data, .listed, .data, .pinned], laidTests := true, laidLooks := .later }
def PreludeOwnUptoCardSaid : Prop := Claim7.holds Tryz.pinned (.plain (OpenSpec.upto preludeOwnSpec)) preludeOwnUptoCard

/-- THE SECOND FORM's CARD OF 'bolterlaw22.PreludeFinds'. -/
def preludeFindsUptoCard : Claim7 := { stood := { row := preludeFindsUptoRow, standIns := [], harness := (true, "c65c441e1a3be66805738e9111c96bf9d5791c0d8221972aa03fb56f93b4e7ea"), looks := true }, kinds := [], alts := [], laidByText := true, laidKinds := [.data, .listed, .data, .pinned], laidTests := true, laidLooks := .later }
def PreludeFindsUptoCardSaid : Prop := Claim7.holds Tryz.pinned (.plain (OpenSpec.upto preludeFindsSpec)) preludeFindsUptoCard

/-- THE SECOND FORM's CARD OF 'bolterlaw22.PreludeReads'. -/
def preludeReadsUptoCard : Claim7 := { stood := { row := preludeReadsUptoRow, standIns := [], harness := (true, "c65c441e1a3be66805738e9111c96bf9d5791c0d8221972aa03fb56f93b4e7ea"), looks := true }, kinds := [], alts := [], laidByText := true, laidKinds := [.data, .listed, .data, .pinned], laidTests := true, laidLooks := .later }
def PreludeReadsUptoCardSaid : Prop := Claim7.holds Tryz.pinned (.plain (OpenSpec.upto preludeReadsSpec)) preludeReadsUptoCard

/-- THE SECOND FORM's CARD OF 'bolterlaw22.PreludeTells'. -/
def preludeTellsUptoCard : Claim7 := { stood := { row := preludeTellsUptoRow, standIns := [], harness := (true, "c65c441e1a3be66805738e9111c96bf9d5791c0d8221972aa03fb56f93b4e7ea"), looks := true }, kinds := [], alts := [], laidByText := true, laidKinds := [.data, .listed, .data, .pinned], laidTests := true, laidLooks := .later }
def PreludeTellsUptoCardSaid : Prop := Claim7.holds Tryz.pinned (.plain (OpenSpec.upto preludeTellsSpec)) preludeTellsUptoCard
end Rows
end Go.Proofs.YtmmgmcihiilfbaaGreatDoor
