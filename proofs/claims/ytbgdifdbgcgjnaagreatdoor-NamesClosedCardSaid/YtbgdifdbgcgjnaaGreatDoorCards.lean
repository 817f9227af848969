/-
  DERIVED. GIVEN WITH THE SEED: THE CARDS: each row of YtbgdifdbgcgjnaaGreatDoorRows.lean that lists a variable, with what it lists TIED to the program's text (the seventh form; the later family's looks); each row that meets fmt, with fmt's text TOLD by the authors' own Lean function (tested against real Go, not proved from fmt's source: count such statements apart). THE CARD IS WHAT COUNTS. Prove the row's statement (the work); the ties are given (YtbgdifdbgcgjnaaGreatDoorTie.lean); close each card by the builder's one call (the guide's Derived/Test/ToyasCard.lean, 'card_holds'). Laid BY PROGRAM, IN A SANDBOX (cutbox-door.mjs). By AI agents, Wed Nov 11 2026. No macro, syntax, notation, axiom, sorry.
-/
import Derived.Test.YtbgdifdbgcgjnaaGreatDoorRows
import GoSem.ClaimSeven
namespace Go.Proofs.YtbgdifdbgcgjnaaGreatDoor
namespace Rows

/-- THE TIED CARD OF 'bolterlaw20.NamesClosed'. -/
def namesClosedCard : Claim7 := { stood := { row := namesClosedRow, standIns := [], harness := (true, "963450aff8c1259ebb942ded74a4edf3f9cf672b55c8446720db6aec803a67bb"), looks := false }, kinds := [], alts := [], laidByText := true, laidKinds := [.data, .listed, .data, .pinned], laidTests := true, laidLooks := .later }
def NamesClosedCardSaid : Prop := Claim7.holds Tryz.pinned (.plain (OpenSpec.ofChange namesClosedSpec)) namesClosedCard

/-- THE TIED CARD OF 'bolterlaw20.NamesVars'. -/
def namesVarsCard : Claim7 := { stood := { row := namesVarsRow, standIns := [], harness := (true, "963450aff8c1259ebb942ded74a4edf3f9cf672b55c8446720db6aec803a67bb"), looks := false }, kinds := [], alts := [], laidByText := true, laidKinds := [.data, .listed, .data, .pinned], laidTests := true, laidLooks := .later }
def NamesVarsCardSaid : Prop := Claim7.holds Tryz.pinned (.plain (OpenSpec.ofChange namesVarsSpec)) namesVarsCard

/-- THE TIED CARD OF 'bolterlaw20.NamesOwn'. -/
def namesOwnCard : Claim7 := { stood := { row := namesOwnRow, standIns := [], harness := (true, "963450aff8c1259ebb942ded74a4edf3f9cf672b55c8446720db6aec803a67bb"), looks := false }, kinds := [], alts := [], laidByText := true, laidKinds := [.data, .listed, .data, .pinned], laidTests := true, laidLooks := .later }
def NamesOwnCardSaid : Prop := Claim7.holds Tryz.pinned (.plain (OpenSpec.ofChange namesOwnSpec)) namesOwnCard

/-- THE TIED CARD OF 'bolterlaw23.LinkEnough'. -/
def linkEnoughCard : Claim7 := { stood := { row := linkEnoughRow, standIns := [], harness := (true, "963450aff8c1259ebb942ded74a4edf3f9cf672b55c8446720db6aec803a67bb"), looks := false }, kinds := [], alts := [], laidByText := true, laidKinds := [.data, .listed, .data, .pinned], laidTests := true, laidLooks := .later }
def LinkEnoughCardSaid : Prop := Claim7.holds Tryz.pinned (.plain (OpenSpec.ofChange linkEnoughSpec)) linkEnoughCard

/-- THE TIED CARD OF 'bolterlaw20.NamesKnown'. -/
def namesKnownCard : Claim7 := { stood := { row := namesKnownRow, standIns := [], harness := (true, "963450aff8c1259ebb942ded74a4edf3f9cf672b55c8446720db6aec803a67bb"), looks := false }, kinds := [], alts := [], laidByText := true, laidKinds := [.data, .listed, .data, .pinned], laidTests := true, laidLooks := .later }
def NamesKnownCardSaid : Prop := Claim7.holds Tryz.pinned (.plain (OpenSpec.ofChange namesKnownSpec)) namesKnownCard

/-- THE TIED CARD OF 'bolterlaw20.NamesFewer'. -/
def namesFewerCard : Claim7 := { stood := { row := namesFewerRow, standIns := [], harness := (true, "963450aff8c1259ebb942ded74a4edf3f9cf672b55c8446720db6aec803a67bb"), looks := false }, kinds := [], alts := [], laidByText := true, laidKinds := [.data, .listed, .data, .pinned], laidTests := true, laidLooks := .later }
def NamesFewerCardSaid : Prop := Claim7.holds Tryz.pinned (.plain (OpenSpec.ofChange namesFewerSpec)) namesFewerCard

/-- THE SECOND FORM's CARD OF 'bolterlaw20.NamesClosed'. -/
def namesClosedUptoCard : Claim7 := { stood := { row := namesClosedUptoRow, standIns := [], harness := (true, "963450aff8c1259ebb942ded74a4edf3f9cf672b55c8446720db6aec803a67bb"), looks := false }, kinds := [], alts := [], laidByText := true, laidKinds := [.data, .listed, .data, .pinned], laidTests := true, laidLooks := .later }
def NamesClosedUptoCardSaid : Prop := Claim7.holds Tryz.pinned (.plain (OpenSpec.upto namesClosedSpec)) namesClosedUptoCard

/-- THE SECOND FORM's CARD OF 'bolterlaw20.NamesVars'. -/
def namesVarsUptoCard : Claim7 := { stood := { row := namesVarsUptoRow, standIns := [], harness := (true, "963450aff8c1259ebb942ded74a4edf3f9cf672b55c8446720db6aec803a67bb"), looks := false }, kinds := [], alts := [], laidByText := true, laidKinds := [.data, .listed, .data, .pinned], laidTests := true, laidLooks := .later }
def NamesVarsUptoCardSaid : Prop := Claim7.holds Tryz.pinned (.plain (OpenSpec.upto namesVarsSpec)) namesVarsUptoCard

/-- THE SECOND FORM's CARD OF 'bolterlaw20.NamesOwn'. -/
def namesOwnUptoCard : Claim7 := { stood := { row := namesOwnUptoRow, standIns := [], harness := (true, "963450aff8c1259ebb942ded74a4edf3f9cf672b55c8446720db6aec803a67bb"), looks := false }, kinds := [], alts := [], laidByText := true, laidKinds := [.data, .listed, .data, .pinned], laidTests := true, laidLooks := .later }
def NamesOwnUptoCardSaid : Prop := Claim7.holds Tryz.pinned (.plain (OpenSpec.upto namesOwnSpec)) namesOwnUptoCard

/-- THE SECOND FORM's CARD OF 'bolterlaw23.LinkEnough'. -/
def linkEnoughUptoCard : Claim7 := { stood := { row := linkEnoughUptoRow, standIns := [], harness := (true, "963450aff8c1259ebb942ded74a4edf3f9cf672b55c8446720db6aec803a67bb"), looks := false }, kinds := [], alts := [], laidByText := true, laidKinds := [.data, .listed, .data, .pinned], laidTests := true, laidLooks := .later }
def LinkEnoughUptoCardSaid : Prop := Claim7.holds Tryz.pinned (.plain (OpenSpec.upto linkEnoughSpec)) linkEnoughUptoCard

/-- THE SECOND FORM's CARD OF 'bolterlaw20.NamesKnown'. -/
def namesKnownUptoCard : Claim7 := { stood := { row := namesKnownUptoRow, standIns := [], harness := (true, "963450aff8c1259ebb942ded74a4edf3f9cf672b55c8446720db6aec803a67bb"), looks := false }, kinds := [], alts := [], laidByText := true, laidKinds := [.data, .listed, .data, .pinned], laidTests := true, laidLooks := .later }
def NamesKnownUptoCardSaid : Prop := Claim7.holds Tryz.pinned (.plain (OpenSpec.upto namesKnownSpec)) namesKnownUptoCard

/-- THE SECOND FORM's CARD OF 'bolterlaw20.NamesFewer'. -/
def namesFewerUptoCard : Claim7 := { stood := { row := namesFewerUptoRow, standIns := [], harness := (true, "963450aff8c1259ebb942ded74a4edf3f9cf672b55c8446720db6aec803a67bb"), looks := false }, kinds := [], alts := [], laidByText := true, laidKinds := [.data, .listed, .data, .pinned], laidTests := true, laidLooks := .later }
def NamesFewerUptoCardSaid : Prop := Claim7.holds Tryz.pinned (.plain (OpenSpec.upto namesFewerSpec)) namesFewerUptoCard
end Rows
end Go.Proofs.YtbgdifdbgcgjnaaGreatDoor
