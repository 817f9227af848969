/- bolterlaw32.LintCounts hands back true at every list of notes; nothing that lay there is changed. -/
import Derived.Test.YtmmgmcihiilfbabGreatDoorCards
import Derived.Test.YtmmgmcihiilfbabGreatDoorTie
import Derived.Test.YtmmgmcihiilfbabGreatDoorAlive
import Derived.Test.YtmmgmcihiilfbabGreatDoorLaid
import Derived.WalkKit
import Derived.ProofKit
import Derived.OpenShut
import Derived.ChangeMaps5
import Derived.Deep.Slices
import Derived.Carry
import Derived.Deep.DeepHandedRow
import Derived.Lib.LaidTab
set_option linter.unusedVariables false
set_option maxRecDepth 100000
namespace Go.Proofs.YtmmgmcihiilfbabGreatDoor.counts
open Go.Deep Go.ChangeShapes Go.WideShapes Go.ChangeAt Go.ChangeMaps Go.RowKit Go.AM Go.AM.T

theorem calls_below {P : Program} {X : Ctx} (hX : Go.AM.Good P X) {k f : Nat} {args : List D} {d : D} {H' : Heap} (h : callN X k (.func f [] []) args [] = some (d, H')) {w : World} (hG : ∀ g cs, X.G g = some cs → ∃ cur e fr, w.heap[g]? = some (.cells cur e fr) ∧ FRs cs (Fz.all w) cur 0)
    {vs : List Value} (hv : VRs args Bk.none (Fz.all w) vs) (hu : ∀ x ∈ args, UN 0 x) (he : EntersAt P f) (hd : d.under 0 = true) :
    Calls P f vs.toArray w fun e w' => ∃ v, e = .returned v ∧ (∃ Φ, VR d Bk.none Φ v) ∧ Below w.heap.size w w' := by
  have hr := call_from hX h hG hv hu
  rw [enter_run he] at hr
  have hc : CallsIn Fence.wide 0 P f vs.toArray w (ret (Res P X.G (fun _ => False) Bk.none (Fz.all w) [] w d H')) := hr
  refine (callsIn_wide.1 hc).mono fun e w' q => ?_
  cases e with
  | returned v =>
    obtain ⟨β', Φ', q1, q2, q3, _⟩ := q
    exact ⟨v, rfl, ⟨Φ', VR.closed d hd q1⟩, q3.os, q3.tape, q3.output, q3.size, fun j hj => q3.same j hj (by rintro ⟨id, c, hc, _⟩; simp at hc)⟩
  | panicked c => exact q.elim
  | outgrown => exact q.elim

theorem frs_notes {Φ : Fz} {cur : Array Value} : ∀ (ns : List (Int × List UInt8 × Int)) (o : Nat), (∀ (i : Nat) x, ns[i]? = some x → cur[o + i * 3]? = some (.int .i64 x.1) ∧ cur[o + i * 3 + 1]? = some (.string ⟨x.2.1.toArray⟩) ∧ cur[o + i * 3 + 2]? = some (.int .i64 x.2.2)) → FRs (cellsN ns) Φ cur o
  | [], o, h => by simp [cellsN, FRs]
  | (k, s, a) :: ns, o, h => by
    obtain ⟨h1, h2, h3⟩ := h 0 (k, s, a) rfl
    simp only [Nat.zero_mul, Nat.add_zero] at h1 h2 h3
    simp only [cellsN, FRs]
    refine ⟨⟨_, h1, rfl, by simp [VR]⟩, ⟨_, h2, rfl, by simp [VR]⟩, ⟨_, h3, rfl, by simp [VR]⟩, ?_⟩
    refine frs_notes ns (o + 1 + 1 + 1) fun i x hx => ?_
    obtain ⟨g1, g2, g3⟩ := h (i + 1) x (by simpa using hx)
    rw [show o + (i + 1) * 3 = o + 1 + 1 + 1 + i * 3 by omega] at g1 g2 g3
    exact ⟨g1, g2, g3⟩

theorem cells26 : Tryz.prog.cellsOf 26 = 3 := by kernel_rfl
theorem cellsI : Tryz.prog.cellsOf 3 = 1 := by kernel_rfl
theorem cellsS : Tryz.prog.cellsOf 9 = 1 := by kernel_rfl

theorem open_notes {H : Type} {enc : TypeId × Value → H} {W : World} {a0 : Option Addr} {len cap fuel : Nat} {d0 : DataW H} {p0 : List MemPlace}
    (hf : DataW.trod enc Tryz.prog W 0 (fun _ => true) true fuel 22 (Value.slice a0 len cap).cells.toList = some (d0, p0)) :
    (a0 = none ∧ len = 0 ∧ cap = 0) ∨ ∃ ns : List (Int × List UInt8 × Int), len = ns.length ∧ (ns.length : Int) ≤ 9223372036854775807 ∧ VR (.fsl (cellsN ns) ns.length) Bk.none (Fz.all W) (.slice a0 ns.length cap) := by
  rcases open_slice Tryz.underlying22 hf with ⟨hcs, hx⟩ | ⟨a, len', cap', m, n, Dd, Pl, hcs, hb, hl, hm, hmm, hx, hel⟩
  · left
    simp [Value.cells] at hcs
    exact hcs
  · right
    simp [Value.cells] at hcs
    obtain ⟨rfl, rfl, rfl⟩ := hcs
    simp only [if_true] at hmm
    subst hmm
    rw [cells26] at hel
    have each : ∀ i, i < len → ∃ x : Int × List UInt8 × Int, W.cell? (a.add (i * 3)) = some (.int .i64 x.1) ∧ W.cell? ((a.add (i * 3)).add 1) = some (.string ⟨x.2.1.toArray⟩) ∧ W.cell? ((a.add (i * 3)).add 2) = some (.int .i64 x.2.2) := by
      intro i hi
      obtain ⟨cs', h1, h2⟩ := hel i (by omega)
      obtain ⟨_, hlen, hcell⟩ := World.cells?_some h1
      obtain ⟨xs, k, _, _, _, hxl, hfs⟩ := DataW.trod_struct Tryz.underlying26 h2
      match cs', hlen with
      | [v0, v1, v2], _ =>
        have g0 := hfs 0 _ rfl
        have g1 := hfs 1 _ rfl
        have g2 := hfs 2 _ rfl
        simp [cellsI, cellsS] at g0 g1 g2
        have e0 := hcell 0 (by omega)
        have e1 := hcell 1 (by omega)
        have e2 := hcell 2 (by omega)
        have l0 : (0 : Nat) < xs.length := by rw [hxl]; decide
        have l1 : (1 : Nat) < xs.length := by rw [hxl]; decide
        have l2 : (2 : Nat) < xs.length := by rw [hxl]; decide
        rw [List.getElem?_eq_getElem l0] at g0
        rw [List.getElem?_eq_getElem l1] at g1
        rw [List.getElem?_eq_getElem l2] at g2
        obtain ⟨z0, q0, _, _⟩ := DataW.trod_int Tryz.underlying3 g0
        obtain ⟨z1, q1, _, _⟩ := DataW.trod_string Tryz.underlying9 g1
        obtain ⟨z2, q2, _, _⟩ := DataW.trod_int Tryz.underlying3 g2
        simp at q0 q1 q2
        subst q0 q1 q2
        exact ⟨(z0, z1.data.toList, z2), by simpa [Addr.add] using e0, by simpa using e1, by simpa using e2⟩
    obtain ⟨f, hf'⟩ := choose_lt each
    refine ⟨(List.range len).map f, by simp, by simp; unfold maxLen at hm; omega, ?_⟩
    simp only [VR, List.length_map, List.length_range]
    refine ⟨a, _, hl, rfl, ?_⟩
    by_cases h0 : len = 0
    · left; subst h0; rfl
    · right
      obtain ⟨b, off, spot⟩ := a
      have c0 := (hf' 0 (by omega)).1
      have hspot : spot = none := by simpa [Addr.add] using World.cell?_spot c0
      subst hspot
      cases hh : W.heap[b]? with
      | none => simp [Addr.add, World.cell?, hh] at c0
      | some o =>
        cases o with
        | cells cur e fr =>
          refine ⟨cur, e, fr, hh, rfl, frs_notes _ _ fun i x hx => ?_⟩
          have hi : i < len := by
            have := (List.getElem?_eq_some_iff.1 hx).1
            simpa using this
          have hx' : x = f i := by
            rw [List.getElem?_map, List.getElem?_range hi] at hx
            simpa using hx.symm
          subst hx'
          obtain ⟨g0, g1, g2⟩ := hf' i hi
          have hadd : ∀ k, ((⟨b, off, none⟩ : Addr).add (i * 3)).add k = ⟨b, off + i * 3 + k, none⟩ := by
            intro k
            by_cases h1 : i * 3 = 0
            · by_cases h2 : k = 0
              · simp [Addr.add, h1, h2]
              · simp [Addr.add, h1, h2]
            · by_cases h2 : k = 0
              · simp [Addr.add, h1, h2]
              · simp [Addr.add, h1, h2]
          have g0' : W.cell? (((⟨b, off, none⟩ : Addr).add (i * 3)).add 0) = some (.int .i64 (f i).1) := by simpa [Addr.add] using g0
          rw [hadd] at g0' g1 g2
          simp only [World.cell?, hh] at g0' g1 g2
          exact ⟨by simpa using g0', by simpa using g1, by simpa using g2⟩
        | _ => simp [Addr.add, World.cell?, hh] at c0

theorem laid_met (os : Os) : laidMet Tryz.prog Rows.lintCountsRow.laid ((laidWorld os).forCall (fun _ _ => 0) ⟨#[], #[.slice none 0 0], []⟩).memory :=
  laidMet_of_run' 10 (by kernel_rfl) (by kernel_rfl)

theorem reads (os : Os) {H : Type} (enc : TypeId × Value → H) : ∃ places, DataW.whole enc Tryz.prog ((laidWorld os).forCall (fun _ _ => 0) ⟨#[], #[.slice none 0 0], []⟩).memory Tryz.f3.params.toList Rows.lintCountsSpec.vars false #[Value.slice none 0 0].toList 8 = some ([.nil], [], places) :=
  ⟨[], by kernel_rfl⟩

theorem contract (H : Type) (enc : TypeId × Value → H) (W : World) (base : Nat) (args : Array Value) (ds gs : List (DataW H)) (before : List MemPlace)
    (hval : ∀ (j : Nat) t v, Tryz.f3.params[j]? = some t → args[j]? = some v → Value.okWide Tryz.prog W .any base t v)
    (hW : DataW.Whole enc Tryz.prog Tryz.f3.params.toList Rows.lintCountsSpec.vars false W args.toList ds gs before) (hL : laidMetH Tryz.prog Rows.lintCountsRow.laid W) :
    Calls Tryz.prog 3 args W fun e W' => ∃ v, e = .returned v ∧ Rows.lintCountsSpec.post enc Tryz.prog Tryz.f3 false true false false W args v W' := by
  have hW' := hW
  obtain ⟨p, q, hA0, hV, rfl, hfz, hnd⟩ := hW
  have hA : DataW.TrodAll enc Tryz.prog W 0 (fun _ => true) true Tryz.f3.params.toList args.toList ds p := hA0
  rw [Tryz.params3] at hA hval
  obtain ⟨v0, vs0, d0, ds0, p0, q0, hargs, rfl, rfl, h0, r0⟩ := trodAll_cons hA
  obtain ⟨rfl, rfl, rfl⟩ := trodAll_nil r0
  obtain rfl : args = #[v0] := by cases args; simp_all
  obtain ⟨rfl, rfl⟩ := trodVars_none hV
  obtain ⟨a0, len, cap, rfl⟩ := okWide_slice Tryz.underlying22 (hval 0 22 v0 rfl rfl)
  clear hA0
  simp only [List.append_nil] at hW'
  have hlt : ∀ x ∈ p0, x.block < W.heap.size := fun x hx => hW'.lt x (by simpa using hx)
  have hG : ∀ g cs, X2.G g = some cs → ∃ cur e fr, W.heap[g]? = some (.cells cur e fr) ∧ FRs cs (Fz.all W) cur 0 := globs hL
  have hc : Calls Tryz.prog 3 #[.slice a0 len cap] W fun e w' => ∃ v, e = .returned v ∧ (∃ Φ, VR (.bool true) Bk.none Φ v) ∧ Below W.heap.size W w' := by
    obtain ⟨fuel, hf⟩ := h0
    rcases open_notes hf with ⟨rfl, rfl, rfl⟩ | ⟨ns, hl, hN, hvr⟩
    · have hrun : callN X2 2000 (.func 3 [] []) [.nilsl] [] = some (.bool true, []) := by rw [← fcallN_eq]; exact lint_nil
      exact calls_below good2 hrun (w := W) hG (vs := [.slice none 0 0]) (by simp [VRs, VR]) (fun x hx => by
        rw [List.mem_singleton.1 hx]; exact .inr rfl) ⟨Tryz.f3, Tryz.func3, rfl, rfl⟩ rfl
    · subst hl
      exact calls_below good2 (lint_true ns hN) (w := W) hG (vs := [.slice a0 ns.length cap]) ⟨_, _, rfl, hvr, rfl⟩ (fun x hx => by
        rw [List.mem_singleton.1 hx]; exact .inr rfl) ⟨Tryz.f3, Tryz.func3, rfl, rfl⟩ rfl
  refine hc.mono fun e W' ⟨v, he, ⟨Φ, hv⟩, hb⟩ => ?_
  simp only [VR] at hv
  subst he hv
  refine ⟨_, rfl, post_of_lies (pa := p0) (pv := []) hW' (fun _ _ _ => trodAll_cons_mk (shut_bool Tryz.underlying4 _) trodAll_mk0) (fun sp hsp => ?_) (fun _ _ => rfl) (by simp)
    hb.os hb.output hb.block (ok_one (by kernel_rfl) rfl (okWide_bool_mk Tryz.underlying4 _))⟩
  have h1 := WideElems.Trod_stays (by kernel_rfl) (by kernel_rfl) (of_decide_eq_true (by kernel_rfl)) h0 (fun x hx => hb.same (hlt x hx)) (fun x hx => hsp x (by simpa using hx))
  have := trodAll_cons_mk h1 (trodAll_mk0 (enc := enc) (P := Tryz.prog) (w := W') (base := 0) (spare := sp) (held := true))
  rw [List.append_nil] at this
  exact this

theorem lifted (os : Os) (started : os.Started) (H : Type) (enc : TypeId × Value → H) (F : Stop.Interp) :
    ReturnsInHanded {} Tryz.checked os 3 .any ((OpenSpec.ofChange Rows.lintCountsSpec).preRow enc Tryz.prog Tryz.f3 Rows.lintCountsRow.domain false Rows.lintCountsRow.laid) (((OpenSpec.ofChange Rows.lintCountsSpec).at F).post enc Tryz.prog Tryz.f3 false true false false) := by
  obtain ⟨places, hx⟩ := reads os enc
  refine returnsInHanded_of_row (C := Tryz.checked) (s := OpenSpec.ofChange Rows.lintCountsSpec) own started (by kernel_rfl) Tryz.func3
    (witness_row_atRef (enc := enc) (C := Tryz.checked) false (laidWorld os) #[.slice none 0 0] rfl (by kernel_rfl) (by kernel_rfl) (by kernel_rfl)
      (OpenSpec.preRow_of_cond 8 hx (by kernel_rfl) (fun k hk => by cases hk) (by kernel_rfl) (laid_met os))) ?_
  intro W base args ds gs before hval hW _ _ _ hL _ _
  exact contract H enc W base args ds gs before hval hW hL

theorem k1 : (Rows.lintCountsRow.inPlace == Tryz.pinned.checked.prog.inPlace 3) = true := by kernel_rfl
theorem k2 : (Rows.lintCountsRow.unfollowed == Tryz.pinned.checked.prog.unfollowed 3) = true := by kernel_rfl
theorem k3 : (Rows.lintCountsRow.recurses == Tryz.pinned.checked.prog.recurses 3) = true := by kernel_rfl
theorem k4 : (Rows.lintCountsRow.named == Tryz.pinned.checked.prog.varsNamed 3) = true := by kernel_rfl
theorem closed : joinedFacts Tryz.pinned.checked.prog 3 Tryz.f3 (OpenSpec.ofChange Rows.lintCountsSpec).bare Rows.lintCountsRow = true := by
  unfold joinedFacts
  rw [k1, k2, k3, k4]
  kernel_rfl

theorem wrap : Tryz.f3.isWrapper Tryz.pinned.checked.prog Rows.lintCountsRow.wrapper Rows.lintCountsRow.mainSum := by
  unfold Func.isWrapper; first | (rw [if_pos (by decide +kernel)]; kernel_rfl) | (rw [if_neg (by decide +kernel)]; exact ⟨rfl, rfl⟩)

theorem inst : Tryz.f3.isInstance Tryz.pinned.checked.prog Rows.lintCountsRow.origin Rows.lintCountsRow.targs := of_decide_eq_true (by kernel_rfl)

theorem named3 : Tryz.pinned.checked.prog.funcNamed Rows.lintCountsRow.func = some 3 := by kernel_rfl

theorem said : Rows.LintCountsSaid :=
  OpenClaim.holds_of_cond 3 Tryz.f3 rfl rfl rfl rfl rfl rfl rfl ⟨rfl, rfl, rfl, rfl, rfl⟩ rfl rfl rfl rfl rfl named3 Tryz.func3 closed
    inst wrap
    (fun os started H enc _ F => by rw [OpenClaim.pre_eq_preRow]; exact lifted os started H enc F)

theorem plain (f : FuncId) (fn : Func) (hf : Tryz.pinned.checked.prog.funcNamed "bolter/bolterlaw32.LintCounts" = some f) (hfn : Tryz.pinned.checked.prog.funcs[f]? = some fn) :
    true = Tryz.pinned.checked.prog.looks [] ∧ ∀ (j : Nat) t, fn.params[j]? = some t → Tryz.pinned.checked.prog.wantsStandIn t = false := by
  obtain rfl : f = 3 := Option.some.inj ((show Tryz.prog.funcNamed "bolter/bolterlaw32.LintCounts" = some 3 by kernel_rfl).symm.trans hf) |>.symm
  obtain rfl : fn = Tryz.f3 := (Option.some.inj (Tryz.func3.symm.trans hfn)).symm
  refine ⟨by kernel_rfl, fun j t ht => ?_⟩
  rw [Tryz.params3] at ht
  obtain rfl : t = 22 := by simpa using Array.mem_of_getElem? ht
  exact (show Tryz.prog.wantsStandIn 22 = false by kernel_rfl)

theorem card : Rows.LintCountsCardSaid :=
  Claim7.holds_tied_plain_at .later [] _ _ _ _ said (fun _ h => by cases h) (by kernel_rfl) (fun _ h => by cases h) lintCounts_row_tie rfl ⟨rfl, rfl⟩ (by kernel_rfl) rfl plain (by kernel_rfl)
end Go.Proofs.YtmmgmcihiilfbabGreatDoor.counts
