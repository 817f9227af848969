/- bolterlaw22.PreludeTells hands back true at every name and number; nothing that lay there is changed. -/
import Derived.Test.YtmmgmcihiilfbaaGreatDoorCards
import Derived.Test.YtmmgmcihiilfbaaGreatDoorTie
import Derived.Test.YtmmgmcihiilfbaaGreatDoorTTellAll
import Derived.Test.YtmmgmcihiilfbaaGreatDoorTLaid
import Derived.WalkKit
import Derived.ProofKit
import Derived.OpenShut
import Derived.ChangeMaps5
import Derived.Deep.DeepHandedRow
import Derived.Lib.LaidTab
set_option linter.unusedVariables false
set_option maxRecDepth 100000
namespace Go.Proofs.YtmmgmcihiilfbaaGreatDoor.tells
open Go.ChangeShapes Go.WideShapes Go.ChangeAt Go.ChangeMaps Go.RowKit Go.AM Go.AM.T

theorem laid_met (os : Os) : laidMet Tryz.prog Rows.preludeTellsRow.laid ((laidWorld os).forCall (fun _ _ => 0) ⟨#[], #[.string ⟨#[]⟩, .int .i64 0], []⟩).memory :=
  laidMet_of_run' 10 (by kernel_rfl) (by kernel_rfl)

theorem reads (os : Os) {H : Type} (enc : TypeId × Value → H) : ∃ places, DataW.whole enc Tryz.prog ((laidWorld os).forCall (fun _ _ => 0) ⟨#[], #[.string ⟨#[]⟩, .int .i64 0], []⟩).memory Tryz.f7.params.toList Rows.preludeTellsSpec.vars false #[Value.string ⟨#[]⟩, Value.int .i64 0].toList 8 = some ([.lit (.string []), .lit (.int .i64 0)], [], places) :=
  ⟨[], by kernel_rfl⟩

theorem contract (H : Type) (enc : TypeId × Value → H) (W : World) (base : Nat) (args : Array Value) (ds gs : List (DataW H)) (before : List MemPlace)
    (hval : ∀ (j : Nat) t v, Tryz.f7.params[j]? = some t → args[j]? = some v → Value.okWide Tryz.prog W .any base t v)
    (hW : DataW.Whole enc Tryz.prog Tryz.f7.params.toList Rows.preludeTellsSpec.vars false W args.toList ds gs before) (hL : laidMetH Tryz.prog Rows.preludeTellsRow.laid W) :
    Calls Tryz.prog 7 args W fun e W' => ∃ v, e = .returned v ∧ Rows.preludeTellsSpec.post enc Tryz.prog Tryz.f7 false true false false W args v W' := by
  have hW' := hW
  obtain ⟨p, q, hA0, hV, rfl, hfz, hnd⟩ := hW
  have hA : DataW.TrodAll enc Tryz.prog W 0 (fun _ => true) true Tryz.f7.params.toList args.toList ds p := hA0
  rw [Tryz.params7] at hA hval
  obtain ⟨v0, v1, d0, d1, p0, p1, rfl, rfl, rfl, h0, h1⟩ := trodAll_two hA
  obtain ⟨rfl, rfl⟩ := trodVars_none hV
  obtain ⟨s, rfl, rfl, rfl, hs⟩ := open_string Tryz.underlying9 (hval 0 9 v0 rfl rfl) h0
  obtain ⟨n, rfl, rfl, rfl, hwf⟩ := open_int Tryz.underlying3 (hval 1 3 v1 rfl rfl) h1
  clear hA0
  simp only [List.append_nil] at hW'
  have hL' : laidMetH Tryz.prog Rows.preludeBoundRow.laid W := hL
  have hG : ∀ g cs, X9.G g = some cs → ∃ cur e fr, W.heap[g]? = some (.cells cur e fr) ∧ FRs cs (Fz.all W) cur 0 := globs hL'
  have hc : Calls Tryz.prog 7 #[.string s, .int .i64 n] W fun e w' => ∃ v, e = .returned v ∧ (∃ Φ, VR (.bool true) Bk.none Φ v) ∧ w'.os = W.os ∧ w'.output = W.output ∧ W.heap.size ≤ w'.heap.size ∧ ∀ j, j < W.heap.size → w'.heap[j]? = W.heap[j]? := by
    by_cases hm : s.data.toList ∈ nms
    · have hrun : callN X9 2001 (.func 7 [] []) [.str s.data.toList, .int .i64 n] [] = some (.bool true, []) := by rw [← fcallN_eq]; exact (Tell_each n).mem hm
      exact calls_of good9 hrun (w := W) hG (vs := [.string s, .int .i64 n]) (by simp [VRs, VR]) (fun x hx => by
        rcases List.mem_cons.1 hx with rfl | hx
        · exact .inr rfl
        · rw [List.mem_singleton.1 hx]; exact .inr rfl) ⟨Tryz.f7, Tryz.func7, rfl, rfl⟩ rfl
    · have hrun : callN X9 2001 (.func 7 [] []) [.sym s.data.toList nms, .int .i64 n] [] = some (.bool true, []) := by rw [← fcallN_eq]; exact Tell_none s.data.toList n
      exact calls_of good9 hrun (w := W) hG (vs := [.string s, .int .i64 n]) (by
        simp only [VRs, VR]
        exact ⟨_, _, rfl, ⟨rfl, fun x hx e => hm (e ▸ hx)⟩, _, _, rfl, rfl, rfl⟩) (fun x hx => by
        rcases List.mem_cons.1 hx with rfl | hx
        · exact .inr rfl
        · rw [List.mem_singleton.1 hx]; exact .inr rfl) ⟨Tryz.f7, Tryz.func7, rfl, rfl⟩ rfl
  refine hc.mono fun e W' ⟨v, he, ⟨Φ, hv⟩, h1, h2, h3, h4⟩ => ?_
  simp only [VR] at hv
  subst he hv
  exact ⟨_, rfl, post_of_lies (pa := []) (pv := []) hW' (fun _ _ _ => trodAll_cons_mk (shut_bool Tryz.underlying4 _) trodAll_mk0) (fun _ _ => trodAll_cons_mk (shut_string Tryz.underlying9 hs) (trodAll_cons_mk (shut_int Tryz.underlying3 hwf) trodAll_mk0)) (fun _ _ => rfl) rfl
    h1 h2 h4 (ok_one (by kernel_rfl) rfl (okWide_bool_mk Tryz.underlying4 _))⟩

theorem lifted (os : Os) (started : os.Started) (H : Type) (enc : TypeId × Value → H) (F : Stop.Interp) :
    ReturnsInHanded {} Tryz.checked os 7 .any ((OpenSpec.ofChange Rows.preludeTellsSpec).preRow enc Tryz.prog Tryz.f7 Rows.preludeTellsRow.domain false Rows.preludeTellsRow.laid) (((OpenSpec.ofChange Rows.preludeTellsSpec).at F).post enc Tryz.prog Tryz.f7 false true false false) := by
  obtain ⟨places, hx⟩ := reads os enc
  refine returnsInHanded_of_row (C := Tryz.checked) (s := OpenSpec.ofChange Rows.preludeTellsSpec) own started (by kernel_rfl) Tryz.func7
    (witness_row_atRef (enc := enc) (C := Tryz.checked) false (laidWorld os) #[.string ⟨#[]⟩, .int .i64 0] rfl (by kernel_rfl) (by kernel_rfl) (by kernel_rfl)
      (OpenSpec.preRow_of_cond 8 hx (by kernel_rfl) (fun k hk => by cases hk) (by kernel_rfl) (laid_met os))) ?_
  intro W base args ds gs before hval hW _ _ _ hL _ _
  exact contract H enc W base args ds gs before hval hW hL

theorem k1 : (Rows.preludeTellsRow.inPlace == Tryz.pinned.checked.prog.inPlace 7) = true := by kernel_rfl
theorem k2 : (Rows.preludeTellsRow.unfollowed == Tryz.pinned.checked.prog.unfollowed 7) = true := by kernel_rfl
theorem k3 : (Rows.preludeTellsRow.recurses == Tryz.pinned.checked.prog.recurses 7) = true := by kernel_rfl
theorem k4 : (Rows.preludeTellsRow.named == Tryz.pinned.checked.prog.varsNamed 7) = true := by kernel_rfl
theorem closed : joinedFacts Tryz.pinned.checked.prog 7 Tryz.f7 (OpenSpec.ofChange Rows.preludeTellsSpec).bare Rows.preludeTellsRow = true := by
  unfold joinedFacts
  rw [k1, k2, k3, k4]
  kernel_rfl

theorem wrap : Tryz.f7.isWrapper Tryz.pinned.checked.prog Rows.preludeTellsRow.wrapper Rows.preludeTellsRow.mainSum := by
  unfold Func.isWrapper; first | (rw [if_pos (by decide +kernel)]; kernel_rfl) | (rw [if_neg (by decide +kernel)]; exact ⟨rfl, rfl⟩)

theorem inst : Tryz.f7.isInstance Tryz.pinned.checked.prog Rows.preludeTellsRow.origin Rows.preludeTellsRow.targs := of_decide_eq_true (by kernel_rfl)

theorem named7 : Tryz.pinned.checked.prog.funcNamed Rows.preludeTellsRow.func = some 7 := by kernel_rfl

theorem said : Rows.PreludeTellsSaid :=
  OpenClaim.holds_of_cond 7 Tryz.f7 rfl rfl rfl rfl rfl rfl rfl ⟨rfl, rfl, rfl, rfl, rfl⟩ rfl rfl rfl rfl rfl named7 Tryz.func7 closed
    inst wrap
    (fun os started H enc _ F => by rw [OpenClaim.pre_eq_preRow]; exact lifted os started H enc F)

theorem plain (f : FuncId) (fn : Func) (hf : Tryz.pinned.checked.prog.funcNamed "bolter/bolterlaw22.PreludeTells" = some f) (hfn : Tryz.pinned.checked.prog.funcs[f]? = some fn) :
    true = Tryz.pinned.checked.prog.looks [] ∧ ∀ (j : Nat) t, fn.params[j]? = some t → Tryz.pinned.checked.prog.wantsStandIn t = false := by
  obtain rfl : f = 7 := Option.some.inj ((show Tryz.prog.funcNamed "bolter/bolterlaw22.PreludeTells" = some 7 by kernel_rfl).symm.trans hf) |>.symm
  obtain rfl : fn = Tryz.f7 := (Option.some.inj (Tryz.func7.symm.trans hfn)).symm
  refine ⟨by kernel_rfl, fun j t ht => ?_⟩
  rw [Tryz.params7] at ht
  have hm : t = 9 ∨ t = 3 := by simpa using Array.mem_of_getElem? ht
  rcases hm with rfl | rfl
  · exact (show Tryz.prog.wantsStandIn 9 = false by kernel_rfl)
  · exact (show Tryz.prog.wantsStandIn 3 = false by kernel_rfl)

theorem card : Rows.PreludeTellsCardSaid :=
  Claim7.holds_tied_plain_at .later [] _ _ _ _ said (fun _ h => by cases h) (by kernel_rfl) (fun _ h => by cases h) preludeTells_row_tie rfl ⟨rfl, rfl⟩ (by kernel_rfl) rfl plain (by kernel_rfl)
end Go.Proofs.YtmmgmcihiilfbaaGreatDoor.tells
