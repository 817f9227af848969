/- What the row asks of the program itself. -/
import Derived.Test.YtjcnlakifipmgaaGreatDoorCards
import Derived.Test.YtjcnlakifipmgaaGreatDoorTie
import Derived.Test.YtjcnlakifipmgaaGreatDoorLaidHeight
import Derived.WalkKit
import Derived.ProofKit
import Derived.OpenShut
import Derived.ChangeMaps5
import Derived.Deep.Slices
import Derived.Carry
import Derived.Deep.DeepHandedRow
import Derived.Lib.LaidTab
set_option linter.unusedVariables false
set_option linter.unusedSimpArgs false
set_option linter.unnecessarySimpa false
set_option maxRecDepth 100000
/- What the row of bolterlaw26.GenHeight asks of the program itself. -/
namespace Go.Proofs.YtjcnlakifipmgaaGreatDoor.height
open Go.Deep Go.ChangeShapes Go.WideShapes Go.ChangeAt Go.ChangeMaps Go.RowKit Go.AM Go.AM.T

theorem laid_met (os : Os) : laidMet Tryz.prog Rows.genHeightRow.laid ((laidWorld os).forCall (fun _ _ => 0) ⟨#[], #[.agg #[.int .i64 0, .int .i64 0, .int .i64 0, .string ⟨#[]⟩, .int .i64 0, .bool false, .slice none 0 0, .int .i64 0, .string ⟨#[]⟩, .slice none 0 0, .slice none 0 0, .slice none 0 0]], []⟩).memory :=
  laidMet_of_run' 10 (by kernel_rfl) (by kernel_rfl)

theorem reads (os : Os) {H : Type} (enc : TypeId × Value → H) : ∃ places, DataW.whole enc Tryz.prog ((laidWorld os).forCall (fun _ _ => 0) ⟨#[], #[.agg #[.int .i64 0, .int .i64 0, .int .i64 0, .string ⟨#[]⟩, .int .i64 0, .bool false, .slice none 0 0, .int .i64 0, .string ⟨#[]⟩, .slice none 0 0, .slice none 0 0, .slice none 0 0]], []⟩).memory Tryz.f8.params.toList Rows.genHeightSpec.vars false #[Value.agg #[.int .i64 0, .int .i64 0, .int .i64 0, .string ⟨#[]⟩, .int .i64 0, .bool false, .slice none 0 0, .int .i64 0, .string ⟨#[]⟩, .slice none 0 0, .slice none 0 0, .slice none 0 0]].toList 8 = some ([.agg [.lit (.int .i64 0), .lit (.int .i64 0), .lit (.int .i64 0), .lit (.string []), .agg [.lit (.int .i64 0), .agg [.lit (.bool false), .nil, .lit (.int .i64 0)], .lit (.string []), .nil, .nil], .nil]], [], places) :=
  ⟨[], by kernel_rfl⟩

theorem k1 : (Rows.genHeightRow.inPlace == Tryz.pinned.checked.prog.inPlace 8) = true := by kernel_rfl
theorem k2 : (Rows.genHeightRow.unfollowed == Tryz.pinned.checked.prog.unfollowed 8) = true := by kernel_rfl
theorem k3 : (Rows.genHeightRow.recurses == Tryz.pinned.checked.prog.recurses 8) = true := by kernel_rfl
theorem k4 : (Rows.genHeightRow.named == Tryz.pinned.checked.prog.varsNamed 8) = true := by kernel_rfl
theorem closed : joinedFacts Tryz.pinned.checked.prog 8 Tryz.f8 (OpenSpec.ofChange Rows.genHeightSpec).bare Rows.genHeightRow = true := by
  unfold joinedFacts
  rw [k1, k2, k3, k4]
  kernel_rfl

theorem wrap : Tryz.f8.isWrapper Tryz.pinned.checked.prog Rows.genHeightRow.wrapper Rows.genHeightRow.mainSum := by
  unfold Func.isWrapper; first | (rw [if_pos (by decide +kernel)]; kernel_rfl) | (rw [if_neg (by decide +kernel)]; exact ⟨rfl, rfl⟩)

theorem inst : Tryz.f8.isInstance Tryz.pinned.checked.prog Rows.genHeightRow.origin Rows.genHeightRow.targs := of_decide_eq_true (by kernel_rfl)

theorem named8 : Tryz.pinned.checked.prog.funcNamed Rows.genHeightRow.func = some 8 := by kernel_rfl

theorem plain (f : FuncId) (fn : Func) (hf : Tryz.pinned.checked.prog.funcNamed "bolter/bolterlaw26.GenHeight" = some f) (hfn : Tryz.pinned.checked.prog.funcs[f]? = some fn) :
    true = Tryz.pinned.checked.prog.looks [] ∧ ∀ (j : Nat) t, fn.params[j]? = some t → Tryz.pinned.checked.prog.wantsStandIn t = false := by
  obtain rfl : f = 8 := Option.some.inj ((show Tryz.prog.funcNamed "bolter/bolterlaw26.GenHeight" = some 8 by kernel_rfl).symm.trans hf) |>.symm
  obtain rfl : fn = Tryz.f8 := (Option.some.inj (Tryz.func8.symm.trans hfn)).symm
  refine ⟨by kernel_rfl, fun j t ht => ?_⟩
  rw [Tryz.params8] at ht
  obtain rfl : t = 56 := by simpa using Array.mem_of_getElem? ht
  exact (show Tryz.prog.wantsStandIn 56 = false by kernel_rfl)

end Go.Proofs.YtjcnlakifipmgaaGreatDoor.height
