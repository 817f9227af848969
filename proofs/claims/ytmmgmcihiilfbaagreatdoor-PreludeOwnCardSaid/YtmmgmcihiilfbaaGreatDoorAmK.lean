/- The abstract machine: a call that is cut twice. -/
import Derived.Test.YtmmgmcihiilfbaaGreatDoorAmI
/- A call that is cut twice; a function compiled in two ways. -/
set_option linter.unusedVariables false
namespace Go.AM
theorem cut2 {G : Nat → Option (List D)} {call : D → List D → Heap → Option (D × Heap)} {lf : Nat} {fn : AFunc} {a b r : ACode} {s1 s2 : St} {res : Option (D × Heap)} (hA : fexec (.seq a b) G 0 call lf none s1 = some (.normal, s2)) (hB : ffin fn (fexec r G 0 call lf none s2) = res) :
    ffin fn (fexec (.seq a (.seq b r)) G 0 call lf none s1) = res := by
  rw [← fexec_assoc, fexec_seq, hA]
  exact hB

/-- One function of a context is another's text compiled in another way. -/
noncomputable def Ctx.fnset (X : Ctx) (f : Nat) (af : AFunc) : Ctx := ⟨X.G, fun i => Bool.rec (motive := fun _ => Option AFunc) (X.fn i) (some af) (Nat.beq i f), X.prims⟩
theorem Good.fnset {P : Program} {X : Ctx} (hX : Good P X) {f : Nat} {af : AFunc} (h : FnOk P f af) : Good P (X.fnset f af) := by
  refine ⟨fun i a hi => ?_, hX.prims, hX.primsY⟩
  have h' : Bool.rec (motive := fun _ => Option AFunc) (X.fn i) (some af) (Nat.beq i f) = some a := hi
  cases hb : Nat.beq i f with
  | false => rw [hb] at h'; exact hX.fn i a h'
  | true =>
    rw [hb] at h'
    cases h'
    rw [Nat.eq_of_beq_eq_true hb]
    exact h
end Go.AM
