import Derived.Test.YtmmgmcihiilfbabGreatDoorProg
import Derived.Test.YtmmgmcihiilfbabGreatDoorAmG
import Derived.Tactics
import Derived.Tactics2
import Derived.Defers
import Derived.Recover
import Derived.Laws.Pointers
import Derived.TacticsInMore
import Derived.RegionIn
import Derived.LoopNIn
import Derived.RecoverIn
set_option linter.unusedVariables false
set_option linter.unusedSimpArgs false
namespace Go.Proofs
open Go Go.AM

theorem quiet14 : Quiet Tryz.prog 14 := by
  have hta : ∀ w, (Instr.typeAssert .nilIface 20 55 true).run Tryz.prog w = .ok (.tuple #[.agg #[.int .i64 0, .int .i64 0], .bool false]) w := fun w => by simp [go_sem, Instr.typeAssert]
  refine ⟨⟨Tryz.f14, Tryz.func14, rfl, rfl⟩, fun args w => ?_⟩
  refine callsDIn_of_wpSIn Tryz.func14 rfl trivial fun c₀ cs hu => ?_
  generalize ht : args ++ Array.replicate (Tryz.f14.ntmps - args.size) undef = tmps
  have hs : 15 ≤ tmps.size := by rw [← ht]; simp [Tryz.ntmps14]; omega
  clear ht
  have h3 : 3 < tmps.size := by omega
  have h4 : 4 < tmps.size := by omega
  have h5 : 5 < tmps.size := by omega
  have h6 : 6 < tmps.size := by omega
  have h7 : 7 < tmps.size := by omega
  have h8 : 8 < tmps.size := by omega
  have h9 : 9 < tmps.size := by omega
  have h10 : 10 < tmps.size := by omega
  apply wpSIn_seq
  apply wpSIn_region
  simp [wpOpsSIn, go_sem, recoverD, hu, Tryz.ntmps14, Exit.thenS, h3, h4, h5, h6, h7, h8, h9, h10, hta]
  apply wpSIn_seq
  apply wpSIn_region
  simp [wpOpsSIn, go_sem, Exit.thenS, h3, h4, h5, h6, h7, h8, h9, h10]
  refine wpSIn_cond (t := false) (by simp [Act.eval, h3, h4, h10]) ?_
  simp only [Bool.false_eq_true, if_false]
  refine wpSIn_of_wpIn rfl (wpIn_skip ?_)
  cases c₀
  simp_all [bodyPostS, results, Tryz.results14, settle]
  exact ⟨fun k hk => by show (w.heap.push _)[k]? = _; rw [Array.getElem?_push_lt hk], rfl, rfl⟩

theorem quiet17 : Quiet Tryz.prog 17 := by
  have hta : ∀ w, (Instr.typeAssert .nilIface 20 65 true).run Tryz.prog w = .ok (.tuple #[.agg #[.int .i64 0, .int .i64 0], .bool false]) w := fun w => by simp [go_sem, Instr.typeAssert]
  refine ⟨⟨Tryz.f17, Tryz.func17, rfl, rfl⟩, fun args w => ?_⟩
  refine callsDIn_of_wpSIn Tryz.func17 rfl trivial fun c₀ cs hu => ?_
  generalize ht : args ++ Array.replicate (Tryz.f17.ntmps - args.size) undef = tmps
  have hs : 16 ≤ tmps.size := by rw [← ht]; simp [Tryz.ntmps17]; omega
  clear ht
  have h3 : 3 < tmps.size := by omega
  have h4 : 4 < tmps.size := by omega
  have h5 : 5 < tmps.size := by omega
  have h6 : 6 < tmps.size := by omega
  have h7 : 7 < tmps.size := by omega
  have h8 : 8 < tmps.size := by omega
  have h9 : 9 < tmps.size := by omega
  have h10 : 10 < tmps.size := by omega
  apply wpSIn_seq
  apply wpSIn_region
  simp [wpOpsSIn, go_sem, recoverD, hu, Tryz.ntmps17, Exit.thenS, h3, h4, h5, h6, h7, h8, h9, h10, hta]
  apply wpSIn_seq
  apply wpSIn_region
  simp [wpOpsSIn, go_sem, Exit.thenS, h3, h4, h5, h6, h7, h8, h9, h10]
  refine wpSIn_cond (t := false) (by simp [Act.eval, h3, h4, h10]) ?_
  simp only [Bool.false_eq_true, if_false]
  refine wpSIn_of_wpIn rfl (wpIn_skip ?_)
  cases c₀
  simp_all [bodyPostS, results, Tryz.results17, settle]
  exact ⟨fun k hk => by show (w.heap.push _)[k]? = _; rw [Array.getElem?_push_lt hk], rfl, rfl⟩

end Go.Proofs
namespace Go.AM.T
open Go.Proofs
theorem quiets : ∀ g ∈ [14, 17], Quiet Tryz.prog g := by
  intro g hg
  rcases List.mem_cons.1 hg with rfl | h
  · exact quiet14
  · rcases List.mem_cons.1 h with rfl | h
    · exact quiet17
    · cases h
end Go.AM.T
