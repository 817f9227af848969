/-
  DERIVED. GIVEN WITH THE SEED: THE CARDS: each row of YtjcnlakifipmgaaGreatDoorRows.lean that lists a variable, with what it lists TIED to the program's text (the seventh form; the later family's looks); each row that meets fmt, with fmt's text TOLD by the authors' own Lean function (tested against real Go, not proved from fmt's source: count such statements apart). THE CARD IS WHAT COUNTS. Prove the row's statement (the work); the ties are given (YtjcnlakifipmgaaGreatDoorTie.lean); close each card by the builder's one call (the guide's Derived/Test/ToyasCard.lean, 'card_holds'). Laid BY PROGRAM, IN A SANDBOX (cutbox-door.mjs). By AI agents, Wed Nov 11 2026. No macro, syntax, notation, axiom, sorry.
-/
import Derived.Test.YtjcnlakifipmgaaGreatDoorRows
import GoSem.ClaimSeven
namespace Go.Proofs.YtjcnlakifipmgaaGreatDoor
namespace Rows

/-- THE TIED CARD OF 'bolterlaw27.PeepOwn'. -/
def peepOwnCard : Claim7 := { stood := { row := peepOwnRow, standIns := [], harness := (true, "35c27dadf965df6bb633f1eabd6e8e875294630beef2d15dfb8cd3b5bb820663"), looks := true }, kinds := [], alts := [], laidByText := true, laidKinds := [.data, .listed, .data, .pinned], laidTests := true, laidLooks := .later }
def PeepOwnCardSaid : Prop := Claim7.holds Tryz.pinned (.plain (OpenSpec.ofChange peepOwnSpec)) peepOwnCard

/-- THE TIED CARD OF 'bolterlaw27.PeepReaches'. -/
def peepReachesCard : Claim7 := { stood := { row := peepReachesRow, standIns := [], harness := (true, "35c27dadf965df6bb633f1eabd6e8e875294630beef2d15dfb8cd3b5bb820663"), looks := true }, kinds := [], alts := [], laidByText := true, laidKinds := [.data, .listed, .data, .pinned], laidTests := true, laidLooks := .later }
def PeepReachesCardSaid : Prop := Claim7.holds Tryz.pinned (.plain (OpenSpec.ofChange peepReachesSpec)) peepReachesCard

/-- THE TIED CARD OF 'bolterlaw27.PeepPools'. -/
def peepPoolsCard : Claim7 := { stood := { row := peepPoolsRow, standIns := [], harness := (true, "35c27dadf965df6bb633f1eabd6e8e875294630beef2d15dfb8cd3b5bb820663"), looks := true }, kinds := [], alts := [], laidByText := true, laidKinds := [.data, .listed, .data, .pinned], laidTests := true, laidLooks := .later }
def PeepPoolsCardSaid : Prop := Claim7.holds Tryz.pinned (.plain (OpenSpec.ofChange peepPoolsSpec)) peepPoolsCard

/-- THE TIED CARD OF 'bolterlaw27.PeepTwice'. -/
def peepTwiceCard : Claim7 := { stood := { row := peepTwiceRow, standIns := [], harness := (true, "35c27dadf965df6bb633f1eabd6e8e875294630beef2d15dfb8cd3b5bb820663"), looks := true }, kinds := [], alts := [], laidByText := true, laidKinds := [.data, .listed, .data, .pinned], laidTests := true, laidLooks := .later }
def PeepTwiceCardSaid : Prop := Claim7.holds Tryz.pinned (.plain (OpenSpec.ofChange peepTwiceSpec)) peepTwiceCard

/-- THE TIED CARD OF 'bolterlaw27.PeepThreads'. -/
def peepThreadsCard : Claim7 := { stood := { row := peepThreadsRow, standIns := [], harness := (true, "35c27dadf965df6bb633f1eabd6e8e875294630beef2d15dfb8cd3b5bb820663"), looks := true }, kinds := [], alts := [], laidByText := true, laidKinds := [.data, .listed, .data, .pinned], laidTests := true, laidLooks := .later }
def PeepThreadsCardSaid : Prop := Claim7.holds Tryz.pinned (.plain (OpenSpec.ofChange peepThreadsSpec)) peepThreadsCard

/-- THE TIED CARD OF 'bolterlaw26.GenHeight'. -/
def genHeightCard : Claim7 := { stood := { row := genHeightRow, standIns := [], harness := (true, "35c27dadf965df6bb633f1eabd6e8e875294630beef2d15dfb8cd3b5bb820663"), looks := true }, kinds := [], alts := [], laidByText := true, laidKinds := [.data, .listed, .data, .pinned], laidTests := true, laidLooks := .later }
def GenHeightCardSaid : Prop := Claim7.holds Tryz.pinned (.plain (OpenSpec.ofChange genHeightSpec)) genHeightCard

/-- THE SECOND FORM's CARD OF 'bolterlaw27.PeepOwn'. -/
def peepOwnUptoCard : Claim7 := { stood := { row := peepOwnUptoRow, standIns := [], harness := (true, "35c27dadf965df6bb633f1eabd6e8e875294630beef2d15dfb8cd3b5bb820663"), looks := true }, kinds := [], alts := [], laidByText := true, laidKinds := [.data, .listed, .data, .pinned], laidTests := true, laidLooks := .later }
def PeepOwnUptoCardSaid : Prop := Claim7.holds Tryz.pinned (.plain (OpenSpec.upto peepOwnSpec)) peepOwnUptoCard

/-- THE SECOND FORM's CARD OF 'bolterlaw27.PeepReaches'. -/
def peepReachesUptoCard : Claim7 := { stood := { row := peepReachesUptoRow, standIns := [], harness := (true, "35c27dadf965df6bb633f1eabd6e8e875294630beef2d15dfb8cd3b5bb820663"), looks := true }, kinds := [], alts := [], laidByText := true, laidKinds := [.data, .listed, .data, .pinned], laidTests := true, laidLooks := .later }
def PeepReachesUptoCardSaid : Prop := Claim7.holds Tryz.pinned (.plain (OpenSpec.upto peepReachesSpec)) peepReachesUptoCard

/-- THE SECOND FORM's CARD OF 'bolterlaw27.PeepPools'. -/
def peepPoolsUptoCard : Claim7 := { stood := { row := peepPoolsUptoRow, standIns := [], harness := (true, "35c27dadf965df6bb633f1eabd6e8e875294630beef2d15dfb8cd3b5bb820663"), looks := true }, kinds := [], alts := [], laidByText := true, laidKinds := [.data, .listed, .data, .pinned], laidTests := true, laidLooks := .later }
def PeepPoolsUptoCardSaid : Prop := Claim7.holds Tryz.pinned (.plain (OpenSpec.upto peepPoolsSpec)) peepPoolsUptoCard

/-- THE SECOND FORM's CARD OF 'bolterlaw27.PeepTwice'. -/
def peepTwiceUptoCard : Claim7 := { stood := { row := peepTwiceUptoRow, standIns := [], harness := (true, "35c27dadf965df6bb633f1eabd6e8e875294630beef2d15dfb8cd3b5bb820663"), looks := true }, kinds := [], alts := [], laidByText := true, laidKinds := [.data, .listed, .data, .pinned], laidTests := true, laidLooks := .later }
def PeepTwiceUptoCardSaid : Prop := Claim7.holds Tryz.pinned (.plain (OpenSpec.upto peepTwiceSpec)) peepTwiceUptoCard

/-- THE SECOND FORM's CARD OF 'bolterlaw27.PeepThreads'. -/
def peepThreadsUptoCard : Claim7 := { stood := { row := peepThreadsUptoRow, standIns := [], harness := (true, "35c27dadf965df6bb633f1eabd6e8e875294630beef2d15dfb8cd3b5bb820663"), looks := true }, kinds := [], alts := [], laidByText := true, laidKinds := [.data, .listed, .data, .pinned], laidTests := true, laidLooks := .later }
def PeepThreadsUptoCardSaid : Prop := Claim7.holds Tryz.pinned (.plain (OpenSpec.upto peepThreadsSpec)) peepThreadsUptoCard

/-- THE SECOND FORM's CARD OF 'bolterlaw26.GenHeight'. -/
def genHeightUptoCard : Claim7 := { stood := { row := genHeightUptoRow, standIns := [], harness := (true, "35c27dadf965df6bb633f1eabd6e8e875294630beef2d15dfb8cd3b5bb820663"), looks := true }, kinds := [], alts := [], laidByText := true, laidKinds := [.data, .listed, .data, .pinned], laidTests := true, laidLooks := .later }
def GenHeightUptoCardSaid : Prop := Claim7.holds Tryz.pinned (.plain (OpenSpec.upto genHeightSpec)) genHeightUptoCard
end Rows
end Go.Proofs.YtjcnlakifipmgaaGreatDoor
