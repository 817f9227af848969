/- bolterlaw26.GenHeight hands back true at every argument; nothing that lay there is changed. -/
import Derived.Test.YtjcnlakifipmgaaGreatDoorCards
import Derived.Test.YtjcnlakifipmgaaGreatDoorTie
import Derived.Test.YtjcnlakifipmgaaGreatDoorWalkI
import Derived.Test.YtjcnlakifipmgaaGreatDoorCtx
import Derived.Test.YtjcnlakifipmgaaGreatDoorOpen
import Derived.Test.YtjcnlakifipmgaaGreatDoorLaidHeight
import Derived.Test.YtjcnlakifipmgaaGreatDoorFactsHeight
import Derived.WalkKit
import Derived.ProofKit
import Derived.OpenShut
import Derived.ChangeMaps5
import Derived.Deep.Slices
import Derived.Carry
import Derived.Deep.DeepHandedRow
import Derived.Lib.LaidTab
set_option linter.unusedVariables false
set_option linter.unusedSimpArgs false
set_option linter.unnecessarySimpa false
set_option maxRecDepth 100000
/- bolterlaw26.GenHeight hands back true at every core; nothing that lay there is changed. -/
namespace Go.Proofs.YtjcnlakifipmgaaGreatDoor.height
open Go.Deep Go.ChangeShapes Go.WideShapes Go.ChangeAt Go.ChangeMaps Go.RowKit Go.AM Go.AM.T

theorem calls_below {P : Program} {X : Ctx} (hX : Go.AM.Good P X) {k f : Nat} {args : List D} {d : D} {H' : Heap} (h : callN X k (.func f [] []) args [] = some (d, H')) {w : World} (hG : ∀ g cs, X.G g = some cs → ∃ cur e fr, w.heap[g]? = some (.cells cur e fr) ∧ FRs cs (Fz.all w) cur 0)
    {vs : List Value} (hv : VRs args Bk.none (Fz.all w) vs) (hu : ∀ x ∈ args, UN 0 x) (he : EntersAt P f) (hd : d.under 0 = true) :
    Calls P f vs.toArray w fun e w' => ∃ v, e = .returned v ∧ (∃ Φ, VR d Bk.none Φ v) ∧ Below w.heap.size w w' := by
  have hr := call_from hX h hG hv hu
  rw [enter_run he] at hr
  have hc : CallsIn Fence.wide 0 P f vs.toArray w (ret (Res P X.G (fun _ => False) Bk.none (Fz.all w) [] w d H')) := hr
  refine (callsIn_wide.1 hc).mono fun e w' q => ?_
  cases e with
  | returned v =>
    obtain ⟨β', Φ', q1, q2, q3, _⟩ := q
    exact ⟨v, rfl, ⟨Φ', VR.closed d hd q1⟩, q3.os, q3.tape, q3.output, q3.size, fun j hj => q3.same j hj (by rintro ⟨id, c, hc, _⟩; simp at hc)⟩
  | panicked c => exact q.elim
  | outgrown => exact q.elim

theorem contract (H : Type) (enc : TypeId × Value → H) (W : World) (base : Nat) (args : Array Value) (ds gs : List (DataW H)) (before : List MemPlace)
    (hval : ∀ (j : Nat) t v, Tryz.f8.params[j]? = some t → args[j]? = some v → Value.okWide Tryz.prog W .any base t v)
    (hW : DataW.Whole enc Tryz.prog Tryz.f8.params.toList Rows.genHeightSpec.vars false W args.toList ds gs before) (hL : laidMetH Tryz.prog Rows.genHeightRow.laid W) :
    Calls Tryz.prog 8 args W fun e W' => ∃ v, e = .returned v ∧ Rows.genHeightSpec.post enc Tryz.prog Tryz.f8 false true false false W args v W' := by
  have hW' := hW
  obtain ⟨p, q, hA0, hV, rfl, hfz, hnd⟩ := hW
  have hA : DataW.TrodAll enc Tryz.prog W 0 (fun _ => true) true Tryz.f8.params.toList args.toList ds p := hA0
  rw [Tryz.params8] at hA hval
  obtain ⟨v0, vs0, d0, ds0, p0, q0, hargs, rfl, rfl, h0, r0⟩ := trodAll_cons hA
  obtain ⟨rfl, rfl, rfl⟩ := trodAll_nil r0
  obtain rfl : args = #[v0] := by cases args; simp_all
  obtain ⟨rfl, rfl⟩ := trodVars_none hV
  clear hA0
  simp only [List.append_nil] at hW'
  have hlt : ∀ x ∈ p0, x.block < W.heap.size := fun x hx => hW'.lt x (by simpa using hx)
  have hG : ∀ g cs, XN.G g = some cs → ∃ cur e fr, W.heap[g]? = some (.cells cur e fr) ∧ FRs cs (Fz.all W) cur 0 := globs hL
  have hc : Calls Tryz.prog 8 #[v0] W fun e w' => ∃ v, e = .returned v ∧ (∃ Φ, VR (.bool true) Bk.none Φ v) ∧ Below W.heap.size W w' := by
    obtain ⟨fuel, hf⟩ := h0
    obtain ⟨y, hy, hvr, _⟩ := open_core _ _ _ hf
    have hvr' : VR (.agg y.cells) Bk.none (Fz.all W) v0 := by
      have hlen := VRs.len hvr
      rw [Core.cells_length] at hlen
      cases v0 with
      | agg vs => exact ⟨vs.toList, by simp, hvr⟩
      | _ => simp [Value.cells] at hlen
    obtain ⟨n, hn⟩ := callΩ_iff.1 (GenHeight cx [] y hy)
    exact calls_below goodN (hn n (Nat.le_refl n)) (w := W) hG (vs := [v0]) ⟨_, _, rfl, hvr', rfl⟩ (fun x hx => by
      rw [List.mem_singleton.1 hx]; exact .inr (by rw [under_agg]; exact Core.unders _ _)) ⟨Tryz.f8, Tryz.func8, rfl, rfl⟩ rfl
  refine hc.mono fun e W' ⟨v, he, ⟨Φ, hv⟩, hb⟩ => ?_
  simp only [VR] at hv
  subst he hv
  refine ⟨_, rfl, post_of_lies (pa := p0) (pv := []) hW' (fun _ _ _ => trodAll_cons_mk (shut_bool Tryz.underlying4 _) trodAll_mk0) (fun sp hsp => ?_) (fun _ _ => rfl) (by simp)
    hb.os hb.output hb.block (ok_one (by kernel_rfl) rfl (okWide_bool_mk Tryz.underlying4 _))⟩
  have h1 := WideElems.Trod_stays (by kernel_rfl) (by kernel_rfl) (of_decide_eq_true (by kernel_rfl)) h0 (fun x hx => hb.same (hlt x hx)) (fun x hx => hsp x (by simpa using hx))
  have := trodAll_cons_mk h1 (trodAll_mk0 (enc := enc) (P := Tryz.prog) (w := W') (base := 0) (spare := sp) (held := true))
  rw [List.append_nil] at this
  exact this

theorem lifted (os : Os) (started : os.Started) (H : Type) (enc : TypeId × Value → H) (F : Stop.Interp) :
    ReturnsInHanded {} Tryz.checked os 8 .any ((OpenSpec.ofChange Rows.genHeightSpec).preRow enc Tryz.prog Tryz.f8 Rows.genHeightRow.domain false Rows.genHeightRow.laid) (((OpenSpec.ofChange Rows.genHeightSpec).at F).post enc Tryz.prog Tryz.f8 false true false false) := by
  obtain ⟨places, hx⟩ := reads os enc
  refine returnsInHanded_of_row (C := Tryz.checked) (s := OpenSpec.ofChange Rows.genHeightSpec) own started (by kernel_rfl) Tryz.func8
    (witness_row_atRef (enc := enc) (C := Tryz.checked) false (laidWorld os) #[.agg #[.int .i64 0, .int .i64 0, .int .i64 0, .string ⟨#[]⟩, .int .i64 0, .bool false, .slice none 0 0, .int .i64 0, .string ⟨#[]⟩, .slice none 0 0, .slice none 0 0, .slice none 0 0]] rfl (by kernel_rfl) (by kernel_rfl) (by kernel_rfl)
      (OpenSpec.preRow_of_cond 8 hx (by kernel_rfl) (fun k hk => by cases hk) (by kernel_rfl) (laid_met os))) ?_
  intro W base args ds gs before hval hW _ _ _ hL _ _
  exact contract H enc W base args ds gs before hval hW hL

theorem said : Rows.GenHeightSaid :=
  OpenClaim.holds_of_cond 8 Tryz.f8 rfl rfl rfl rfl rfl rfl rfl ⟨rfl, rfl, rfl, rfl, rfl⟩ rfl rfl rfl rfl rfl named8 Tryz.func8 closed
    inst wrap
    (fun os started H enc _ F => by rw [OpenClaim.pre_eq_preRow]; exact lifted os started H enc F)

theorem card : Rows.GenHeightCardSaid :=
  Claim7.holds_tied_plain_at .later [] _ _ _ _ said (fun _ h => by cases h) (by kernel_rfl) (fun _ h => by cases h) genHeight_row_tie rfl ⟨rfl, rfl⟩ (by kernel_rfl) rfl plain (by kernel_rfl)
end Go.Proofs.YtjcnlakifipmgaaGreatDoor.height
