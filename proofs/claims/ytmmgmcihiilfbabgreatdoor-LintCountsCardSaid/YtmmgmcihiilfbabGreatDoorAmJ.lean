/- From a run of the abstract machine to a row's own words. -/
import Derived.Test.YtmmgmcihiilfbabGreatDoorAmI
import Derived.ChangeSame
import Derived.RowKit3
import Derived.Lib.LaidTab
import Derived.CallsIn
/- From a run to a row's own words. -/
set_option linter.unusedVariables false
namespace Go.AM
open Go.RowKit Go.ChangeShapes

theorem frs_ints {k : IntKind} {Φ : Fz} : ∀ (zs pre : List Int), FRs (zs.map (D.int k)) Φ ((pre ++ zs).map (Value.int k)).toArray pre.length
  | [], pre => by simp [FRs]
  | z :: zs, pre => by
    simp only [List.map_cons, FRs]
    refine ⟨⟨.int k z, by simp, rfl, by simp [VR]⟩, ?_⟩
    have := frs_ints (k := k) (Φ := Φ) zs (pre ++ [z])
    simpa using this

/-- A table of numbers that is laid is a global of the machine. -/
theorem glob_tab {P : Program} {W : World} {name : String} {k : IntKind} {zs : List Int} {g : Nat} (hg : P.globalNamed name = some g) (h : Lib.TabIs P W name k zs) :
    ∃ cur e fr, W.heap[g]? = some (.cells cur e fr) ∧ FRs (zs.map (D.int k)) (Fz.all W) cur 0 := by
  unfold Lib.TabIs World.var? at h
  rw [hg] at h
  simp only [Option.bind_some] at h
  split at h
  · rename_i cs e fr hc
    cases h
    exact ⟨_, e, fr, hc, frs_ints zs []⟩
  · cases h

/-- What a run from without gives: the answer; all that lay there lies there. -/
theorem calls_of {P : Program} {X : Ctx} (hX : Good P X) {k f : Nat} {args : List D} {d : D} {H' : Heap} (h : callN X k (.func f [] []) args [] = some (d, H')) {w : World} (hG : ∀ g cs, X.G g = some cs → ∃ cur e fr, w.heap[g]? = some (.cells cur e fr) ∧ FRs cs (Fz.all w) cur 0)
    {vs : List Value} (hv : VRs args Bk.none (Fz.all w) vs) (hu : ∀ x ∈ args, UN 0 x) (he : EntersAt P f) (hd : d.under 0 = true) :
    Calls P f vs.toArray w fun e w' => ∃ v, e = .returned v ∧ (∃ Φ, VR d Bk.none Φ v) ∧ w'.os = w.os ∧ w'.output = w.output ∧ w.heap.size ≤ w'.heap.size ∧ ∀ j, j < w.heap.size → w'.heap[j]? = w.heap[j]? := by
  have hr := call_from hX h hG hv hu
  rw [enter_run he] at hr
  have hc : CallsIn Fence.wide 0 P f vs.toArray w (ret (Res P X.G (fun _ => False) Bk.none (Fz.all w) [] w d H')) := hr
  refine (callsIn_wide.1 hc).mono fun e w' q => ?_
  cases e with
  | returned v =>
    obtain ⟨β', Φ', q1, q2, q3, _⟩ := q
    exact ⟨v, rfl, ⟨Φ', VR.closed d hd q1⟩, q3.os, q3.output, q3.size, fun j hj => q3.same j hj (by rintro ⟨id, c, hc, _⟩; simp at hc)⟩
  | panicked c => exact q.elim
  | outgrown => exact q.elim

theorem keptBut_of_same {W W' : World} (h1 : W'.os = W.os) (h2 : W'.output = W.output) (h3 : ∀ j, j < W.heap.size → W'.heap[j]? = W.heap[j]?) (may : MemPlace → Prop) : W.keptBut W' may := by
  refine ⟨h1, h2, fun i hi => ?_⟩
  rw [h3 i hi]
  cases hc : W.heap[i]? with
  | none => rfl
  | some o =>
    cases o <;> simp

section
variable {H : Type} {enc : TypeId × Value → H} {P : Program}
/-- A law's postcondition where all that lay there lies there. -/
theorem post_of_lies {f : Func} {s : ChangeSpec} {apart fresh handsOn again : Bool} {W W' : World} {args : Array Value} {v : Value} {ds gs : List (DataW H)} {before pa pv : List MemPlace}
    (hW : DataW.Whole enc P f.params.toList s.vars apart W args.toList ds gs before)
    (hres : ∀ (b : Nat) (sp : Nat → Bool) (hd : Bool), DataW.TrodAll enc P W' b sp hd f.resultTypes.toList (v.resultList f.resultTypes.size) (s.fn H (ds ++ gs)).results [])
    (hargs : ∀ sp : Nat → Bool, (∀ p ∈ before, sp p.block = true) → DataW.TrodAll enc P W' 0 sp true f.params.toList args.toList (s.fn H (ds ++ gs)).args pa)
    (hvars : ∀ sp : Nat → Bool, (∀ p ∈ before, sp p.block = true) → DataW.TrodVars enc P W' sp s.vars (s.fn H (ds ++ gs)).vars pv)
    (hps : before = pa ++ pv) (h1 : W'.os = W.os) (h2 : W'.output = W.output) (h3 : ∀ j, j < W.heap.size → W'.heap[j]? = W.heap[j]?)
    (hok : ∀ (j : Nat) (t : TypeId) (r : Value), f.resultTypes[j]? = some t → (v.resultList f.resultTypes.size)[j]? = some r → Value.okWide P W' .any 0 t r) :
    s.post enc P f apart fresh handsOn again W args v W' := by
  have hold : ∀ p ∈ before, (fun b => decide (b < W.heap.size)) p.block = true := fun p hp => by simpa using hW.lt p hp
  have hlt := hW.lt
  refine ⟨ds, gs, before, [], pa, pv, hW, hres _ _ _, hargs _ hold, hvars _ hold, World.keptBut_mono (fun p hp => ⟨hp, ?_⟩) (keptBut_of_same h1 h2 h3 (· ∈ before)), fun _ => ?_⟩
  · rw [hps, List.mem_append] at hp
    exact Or.inr hp
  · obtain ⟨_, _, _, _, _, hz, hn⟩ := hW
    refine ⟨hok, _, _, ([] ++ pa) ++ pv, ⟨[] ++ pa, pv, trodAll_append (hargs _ (fun _ _ => rfl)) (hres _ _ _), hvars _ (fun _ _ => rfl), rfl, ?_, ?_⟩, ?_⟩
    · intro b off hp
      have hm : MemPlace.cell b off ∈ before := by rw [hps]; simpa using hp
      have hb : b < W.heap.size := hlt _ hm
      have := hz b off hm
      unfold World.frozen? at this ⊢
      rw [h3 b hb]
      exact this
    · intro ha
      have := hn ha
      rw [hps] at this
      simpa using this
    · intro p hp _
      rw [hps]
      simpa using hp
end
end Go.AM
