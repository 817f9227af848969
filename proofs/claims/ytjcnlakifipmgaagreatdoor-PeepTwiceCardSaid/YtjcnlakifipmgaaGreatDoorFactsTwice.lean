/- What the row asks of the program itself. -/
import Derived.Test.YtjcnlakifipmgaaGreatDoorCards
import Derived.Test.YtjcnlakifipmgaaGreatDoorTie
import Derived.Test.YtjcnlakifipmgaaGreatDoorLaidTwice
import Derived.WalkKit
import Derived.ProofKit
import Derived.OpenShut
import Derived.ChangeMaps5
import Derived.Deep.Slices
import Derived.Carry
import Derived.Deep.DeepHandedRow
import Derived.Lib.LaidTab
set_option linter.unusedVariables false
set_option linter.unusedSimpArgs false
set_option linter.unnecessarySimpa false
set_option maxRecDepth 100000
/- What the row of bolterlaw27.PeepTwice asks of the program itself. -/
namespace Go.Proofs.YtjcnlakifipmgaaGreatDoor.twice
open Go.Deep Go.ChangeShapes Go.WideShapes Go.ChangeAt Go.ChangeMaps Go.RowKit Go.AM Go.AM.T

theorem laid_met (os : Os) : laidMet Tryz.prog Rows.peepTwiceRow.laid ((laidWorld os).forCall (fun _ _ => 0) ⟨#[], #[.agg #[.slice none 0 0, .slice none 0 0]], []⟩).memory :=
  laidMet_of_run' 10 (by kernel_rfl) (by kernel_rfl)

theorem reads (os : Os) {H : Type} (enc : TypeId × Value → H) : ∃ places, DataW.whole enc Tryz.prog ((laidWorld os).forCall (fun _ _ => 0) ⟨#[], #[.agg #[.slice none 0 0, .slice none 0 0]], []⟩).memory Tryz.f6.params.toList Rows.peepTwiceSpec.vars false #[Value.agg #[.slice none 0 0, .slice none 0 0]].toList 8 = some ([.agg [.nil, .nil]], [], places) :=
  ⟨[], by kernel_rfl⟩

theorem k1 : (Rows.peepTwiceRow.inPlace == Tryz.pinned.checked.prog.inPlace 6) = true := by kernel_rfl
theorem k2 : (Rows.peepTwiceRow.unfollowed == Tryz.pinned.checked.prog.unfollowed 6) = true := by kernel_rfl
theorem k3 : (Rows.peepTwiceRow.recurses == Tryz.pinned.checked.prog.recurses 6) = true := by kernel_rfl
theorem k4 : (Rows.peepTwiceRow.named == Tryz.pinned.checked.prog.varsNamed 6) = true := by kernel_rfl
theorem closed : joinedFacts Tryz.pinned.checked.prog 6 Tryz.f6 (OpenSpec.ofChange Rows.peepTwiceSpec).bare Rows.peepTwiceRow = true := by
  unfold joinedFacts
  rw [k1, k2, k3, k4]
  kernel_rfl

theorem wrap : Tryz.f6.isWrapper Tryz.pinned.checked.prog Rows.peepTwiceRow.wrapper Rows.peepTwiceRow.mainSum := by
  unfold Func.isWrapper; first | (rw [if_pos (by decide +kernel)]; kernel_rfl) | (rw [if_neg (by decide +kernel)]; exact ⟨rfl, rfl⟩)

theorem inst : Tryz.f6.isInstance Tryz.pinned.checked.prog Rows.peepTwiceRow.origin Rows.peepTwiceRow.targs := of_decide_eq_true (by kernel_rfl)

theorem named6 : Tryz.pinned.checked.prog.funcNamed Rows.peepTwiceRow.func = some 6 := by kernel_rfl

theorem plain (f : FuncId) (fn : Func) (hf : Tryz.pinned.checked.prog.funcNamed "bolter/bolterlaw27.PeepTwice" = some f) (hfn : Tryz.pinned.checked.prog.funcs[f]? = some fn) :
    true = Tryz.pinned.checked.prog.looks [] ∧ ∀ (j : Nat) t, fn.params[j]? = some t → Tryz.pinned.checked.prog.wantsStandIn t = false := by
  obtain rfl : f = 6 := Option.some.inj ((show Tryz.prog.funcNamed "bolter/bolterlaw27.PeepTwice" = some 6 by kernel_rfl).symm.trans hf) |>.symm
  obtain rfl : fn = Tryz.f6 := (Option.some.inj (Tryz.func6.symm.trans hfn)).symm
  refine ⟨by kernel_rfl, fun j t ht => ?_⟩
  rw [Tryz.params6] at ht
  obtain rfl : t = 25 := by simpa using Array.mem_of_getElem? ht
  exact (show Tryz.prog.wantsStandIn 25 = false by kernel_rfl)

end Go.Proofs.YtjcnlakifipmgaaGreatDoor.twice
