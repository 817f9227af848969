/- The functions of the abstract machine are the program's. -/
import Derived.Test.YtjcnlakifipmgaaGreatDoorProg
import Derived.Test.YtjcnlakifipmgaaGreatDoorAmG
import Derived.Tactics
import Derived.Tactics2
import Derived.Defers
import Derived.Recover
import Derived.Laws.Pointers
import Derived.TacticsInMore
import Derived.RegionIn
import Derived.LoopNIn
import Derived.RecoverIn
import Derived.Test.YtjcnlakifipmgaaGreatDoorCodes1
import Derived.KernelRfl
set_option linter.unusedVariables false
set_option linter.unusedSimpArgs false
set_option linter.unnecessarySimpa false
set_option maxRecDepth 100000
/- A deferred call that recovers nothing does nothing. -/
namespace Go.Proofs
open Go Go.AM

theorem quiet76 : Quiet Tryz.prog 76 := by
  have hta : ∀ w, (Instr.typeAssert .nilIface 20 28 true).run Tryz.prog w = .ok (.tuple #[.int .i64 0, .bool false]) w := fun w => by simp [go_sem, Instr.typeAssert]
  refine ⟨⟨Tryz.f76, Tryz.func76, rfl, rfl⟩, fun args w => ?_⟩
  refine callsDIn_of_wpSIn Tryz.func76 rfl trivial fun c₀ cs hu => ?_
  generalize ht : args ++ Array.replicate (Tryz.f76.ntmps - args.size) undef = tmps
  have hs : 12 ≤ tmps.size := by rw [← ht]; simp [Tryz.ntmps76]; omega
  clear ht
  have h2 : 2 < tmps.size := by omega
  have h3 : 3 < tmps.size := by omega
  have h4 : 4 < tmps.size := by omega
  have h5 : 5 < tmps.size := by omega
  have h6 : 6 < tmps.size := by omega
  have h7 : 7 < tmps.size := by omega
  have h8 : 8 < tmps.size := by omega
  have h9 : 9 < tmps.size := by omega
  apply wpSIn_seq
  apply wpSIn_region
  simp [wpOpsSIn, go_sem, recoverD, hu, Tryz.ntmps76, Exit.thenS, h2, h3, h4, h5, h6, h7, h8, h9, hta]
  apply wpSIn_seq
  apply wpSIn_region
  simp [wpOpsSIn, go_sem, Exit.thenS, h2, h3, h4, h5, h6, h7, h8, h9]
  refine wpSIn_cond (t := false) (by simp [Act.eval, h2, h3, h9]) ?_
  simp only [Bool.false_eq_true, if_false]
  refine wpSIn_of_wpIn rfl (wpIn_skip ?_)
  cases c₀
  simp_all [bodyPostS, results, Tryz.results76, settle]

end Go.Proofs
namespace Go.AM.T
open Go.Proofs
theorem quiets : ∀ g ∈ [76], Quiet Tryz.prog g := by
  intro g hg
  rcases List.mem_cons.1 hg with rfl | h
  · exact quiet76
  · cases h
end Go.AM.T
/- The functions of the abstract machine are the program's. -/
namespace Go.AM.T
open Go.Proofs
theorem ok_bolterlaw26_GenHeight : FnOk Tryz.prog 8 a_bolterlaw26_GenHeight := FnOk.mk' (l := []) (fun _ h => by cases h) Tryz.func8 (pols := [(0, 0, .frz)]) (keep := none) (by kernel_rfl) rfl
theorem ok_bolterref05_Same : FnOk Tryz.prog 19 a_bolterref05_Same := FnOk.mk' (l := []) (fun _ h => by cases h) Tryz.func19 (pols := [(0, 0, .frz),(0, 1, .frz)]) (keep := none) (by kernel_rfl) rfl
theorem ok_gen_Height : FnOk Tryz.prog 24 a_gen_Height := FnOk.mk' (l := []) (fun _ h => by cases h) Tryz.func24 (pols := [(0, 0, .frz)]) (keep := none) (by kernel_rfl) rfl
theorem ok_bolterref21_Check : FnOk Tryz.prog 25 a_bolterref21_Check := FnOk.mk' (l := []) (fun _ h => by cases h) Tryz.func25 (pols := [(0, 0, .frz),(5, 0, .res [(0,1)]),(9, 1, .frz)]) (keep := none) (by kernel_rfl) rfl
theorem ok_bolterlaw26_num : FnOk Tryz.prog 26 a_bolterlaw26_num := FnOk.mk' (l := []) (fun _ h => by cases h) Tryz.func26 (pols := []) (keep := none) (by kernel_rfl) rfl
theorem ok_bolterlaw26_alive : FnOk Tryz.prog 27 a_bolterlaw26_alive := FnOk.mk' (l := []) (fun _ h => by cases h) Tryz.func27 (pols := [(1, 5, .hole),(1, 6, .hole)]) (keep := none) (by kernel_rfl) rfl
theorem ok_bolterlaw26_deep : FnOk Tryz.prog 28 a_bolterlaw26_deep := FnOk.mk' (l := []) (fun _ h => by cases h) Tryz.func28 (pols := [(0, 0, .frz)]) (keep := none) (by kernel_rfl) rfl
theorem ok_bolterref05_Check : FnOk Tryz.prog 39 a_bolterref05_Check := FnOk.mk' (l := []) (fun _ h => by cases h) Tryz.func39 (pols := [(0, 0, .frz)]) (keep := none) (by kernel_rfl) rfl
theorem ok_bolterref02_Same : FnOk Tryz.prog 40 a_bolterref02_Same := FnOk.mk' (l := []) (fun _ h => by cases h) Tryz.func40 (pols := [(0, 0, .frz),(0, 1, .frz)]) (keep := none) (by kernel_rfl) rfl
theorem ok_core_Check : FnOk Tryz.prog 43 a_core_Check := FnOk.mk' (l := []) (fun _ h => by cases h) Tryz.func43 (pols := [(0, 0, .frz),(6, 2, .frz)]) (keep := none) (by kernel_rfl) rfl
theorem ok_gen_height : FnOk Tryz.prog 44 a_gen_height := FnOk.mk' (l := []) (fun _ h => by cases h) Tryz.func44 (pols := [(0, 0, .frz),(4, 2, .hole),(4, 3, .hole)]) (keep := none) (by kernel_rfl) rfl
theorem ok_bolterref21_Deep : FnOk Tryz.prog 45 a_bolterref21_Deep := FnOk.mk' (l := []) (fun _ h => by cases h) Tryz.func45 (pols := [(0, 0, .frz)]) (keep := none) (by kernel_rfl) rfl
theorem ok_bolterref21_Size : FnOk Tryz.prog 46 a_bolterref21_Size := FnOk.mk' (l := []) (fun _ h => by cases h) Tryz.func46 (pols := [(0, 0, .frz)]) (keep := none) (by kernel_rfl) rfl
theorem ok_bolterref21_check : FnOk Tryz.prog 47 a_bolterref21_check := FnOk.mk' (l := []) (fun _ h => by cases h) Tryz.func47 (pols := [(0, 0, .frz),(7, 1, .frz),(9, 1, .frz),(11, 4, .frz),(15, 1, .frz)]) (keep := none) (by kernel_rfl) rfl
theorem ok_gen_Gen : FnOk Tryz.prog 48 a_gen_Gen := FnOk.mk' (l := [76]) quiets Tryz.func48 (pols := [(0, 0, .frz),(6, 1, .quiet 76),(7, 1, .res [(0,3),(1,7)])]) (keep := none) (by kernel_rfl) rfl
theorem ok_slices_IndexFunc_api_Value_api_Value : FnOk Tryz.prog 56 a_slices_IndexFunc_api_Value_api_Value := FnOk.mk' (l := []) (fun _ h => by cases h) Tryz.func56 (pols := []) (keep := none) (by kernel_rfl) rfl
theorem ok_value_Same : FnOk Tryz.prog 58 a_value_Same := FnOk.mk' (l := []) (fun _ h => by cases h) Tryz.func58 (pols := [(0, 0, .frz),(0, 1, .frz)]) (keep := none) (by kernel_rfl) rfl
theorem ok_bolterref16_Name : FnOk Tryz.prog 64 a_bolterref16_Name := FnOk.mk' (l := []) (fun _ h => by cases h) Tryz.func64 (pols := []) (keep := none) (by kernel_rfl) rfl
theorem ok_bolterref05_Deep : FnOk Tryz.prog 65 a_bolterref05_Deep := FnOk.mk' (l := []) (fun _ h => by cases h) Tryz.func65 (pols := [(0, 0, .frz)]) (keep := none) (by kernel_rfl) rfl
theorem ok_bolterref05_Size : FnOk Tryz.prog 66 a_bolterref05_Size := FnOk.mk' (l := []) (fun _ h => by cases h) Tryz.func66 (pols := [(0, 0, .frz)]) (keep := none) (by kernel_rfl) rfl
theorem ok_bolterref05_all : FnOk Tryz.prog 67 a_bolterref05_all := FnOk.mk' (l := []) (fun _ h => by cases h) Tryz.func67 (pols := [(0, 0, .frz)]) (keep := none) (by kernel_rfl) rfl
theorem ok_core_deep : FnOk Tryz.prog 69 a_core_deep := FnOk.mk' (l := []) (fun _ h => by cases h) Tryz.func69 (pols := [(0, 0, .frz),(4, 2, .hole),(4, 3, .hole)]) (keep := none) (by kernel_rfl) rfl
theorem ok_core_Size : FnOk Tryz.prog 70 a_core_Size := FnOk.mk' (l := []) (fun _ h => by cases h) Tryz.func70 (pols := [(0, 0, .frz),(4, 2, .hole),(4, 3, .hole)]) (keep := none) (by kernel_rfl) rfl
theorem ok_core_env_with : FnOk Tryz.prog 71 a_core_env_with := FnOk.mk' (l := []) (fun _ h => by cases h) Tryz.func71 (pols := [(3, 2, .hole),(3, 3, .hole),(4, 7, .frz)]) (keep := none) (by kernel_rfl) rfl
theorem ok_slices_Repeat_core_binder_core_binder : FnOk Tryz.prog 72 a_slices_Repeat_core_binder_core_binder := FnOk.mk' (l := []) (fun _ h => by cases h) Tryz.func72 (pols := []) (keep := none) (by kernel_rfl) rfl
theorem ok_core_env_check : FnOk Tryz.prog 73 a_core_env_check := FnOk.mk' (l := []) (fun _ h => by cases h) Tryz.func73 (pols := [(0, 0, .frz),(4, 3, .hole),(4, 5, .hole)]) (keep := none) (by kernel_rfl) rfl
theorem ok_bolterref21_single : FnOk Tryz.prog 74 a_bolterref21_single := FnOk.mk' (l := []) (fun _ h => by cases h) Tryz.func74 (pols := [(0, 0, .frz)]) (keep := none) (by kernel_rfl) rfl
theorem ok_bolterref21_around : FnOk Tryz.prog 75 a_bolterref21_around := FnOk.mk' (l := []) (fun _ h => by cases h) Tryz.func75 (pols := [(0, 0, .res [(0,1)]),(1, 0, .res [(0,1)])]) (keep := none) (by kernel_rfl) rfl
theorem ok_gen_Gen_1 : FnOk Tryz.prog 76 a_gen_Gen_1 := FnOk.mk' (l := []) (fun _ h => by cases h) Tryz.func76 (pols := []) (keep := none) (by kernel_rfl) rfl
theorem ok_gen_emitter_core : FnOk Tryz.prog 77 a_gen_emitter_core := FnOk.mk' (l := []) (fun _ h => by cases h) Tryz.func77 (pols := [(0, 0, .frz),(7, 3, .frz),(11, 2, .hole),(11, 3, .hole),(33, 3, .frz)]) (keep := none) (by kernel_rfl) rfl
theorem ok_gen_emitter_put : FnOk Tryz.prog 78 a_gen_emitter_put := FnOk.mk' (l := []) (fun _ h => by cases h) Tryz.func78 (pols := [(3, 3, .res []),(3, 2, .hole),(11, 7, .frz)]) (keep := none) (by kernel_rfl) rfl
theorem ok_gen_emitter_tails : FnOk Tryz.prog 79 a_gen_emitter_tails := FnOk.mk' (l := []) (fun _ h => by cases h) Tryz.func79 (pols := [(2, 3, .hole),(2, 5, .hole)]) (keep := none) (by kernel_rfl) rfl
theorem ok_natives_Name : FnOk Tryz.prog 81 a_natives_Name := FnOk.mk' (l := []) (fun _ h => by cases h) Tryz.func81 (pols := []) (keep := none) (by kernel_rfl) rfl
theorem ok_value_Check : FnOk Tryz.prog 84 a_value_Check := FnOk.mk' (l := []) (fun _ h => by cases h) Tryz.func84 (pols := [(0, 0, .frz),(6, 0, .hole),(6, 1, .hole)]) (keep := none) (by kernel_rfl) rfl
theorem ok_slices_Contains_int_int : FnOk Tryz.prog 85 a_slices_Contains_int_int := FnOk.mk' (l := []) (fun _ h => by cases h) Tryz.func85 (pols := []) (keep := none) (by kernel_rfl) rfl
theorem ok_slices_Equal_uint32_uint32 : FnOk Tryz.prog 86 a_slices_Equal_uint32_uint32 := FnOk.mk' (l := []) (fun _ h => by cases h) Tryz.func86 (pols := []) (keep := none) (by kernel_rfl) rfl
theorem ok_slices_Equal_string_string : FnOk Tryz.prog 87 a_slices_Equal_string_string := FnOk.mk' (l := []) (fun _ h => by cases h) Tryz.func87 (pols := []) (keep := none) (by kernel_rfl) rfl
theorem ok_slices_EqualFunc_api_Value_api_Value_api_Value_api_Value : FnOk Tryz.prog 88 a_slices_EqualFunc_api_Value_api_Value_api_Value_api_Value := FnOk.mk' (l := []) (fun _ h => by cases h) Tryz.func88 (pols := [(5, 3, .hole),(5, 5, .hole),(6, 4, .hole),(6, 5, .hole)]) (keep := none) (by kernel_rfl) rfl
theorem ok_bolterref16_Names : FnOk Tryz.prog 92 a_bolterref16_Names := FnOk.mk' (l := []) (fun _ h => by cases h) Tryz.func92 (pols := [(1, 0, .frz)]) (keep := none) (by kernel_rfl) rfl
theorem ok_bolterref16_Counts : FnOk Tryz.prog 93 a_bolterref16_Counts := FnOk.mk' (l := []) (fun _ h => by cases h) Tryz.func93 (pols := [(1, 0, .frz)]) (keep := none) (by kernel_rfl) rfl
theorem ok_bolterref05_deep : FnOk Tryz.prog 94 a_bolterref05_deep := FnOk.mk' (l := []) (fun _ h => by cases h) Tryz.func94 (pols := [(0, 0, .frz)]) (keep := none) (by kernel_rfl) rfl
theorem ok_bolterref05_own : FnOk Tryz.prog 95 a_bolterref05_own := FnOk.mk' (l := []) (fun _ h => by cases h) Tryz.func95 (pols := [(0, 0, .frz)]) (keep := none) (by kernel_rfl) rfl
theorem ok_core_env_size : FnOk Tryz.prog 96 a_core_env_size := FnOk.mk' (l := []) (fun _ h => by cases h) Tryz.func96 (pols := []) (keep := none) (by kernel_rfl) rfl
theorem ok_math_bits_Mul : FnOk Tryz.prog 97 a_math_bits_Mul := FnOk.mk' (l := []) (fun _ h => by cases h) Tryz.func97 (pols := []) (keep := none) (by kernel_rfl) rfl
theorem ok_core_env_single : FnOk Tryz.prog 98 a_core_env_single := FnOk.mk' (l := []) (fun _ h => by cases h) Tryz.func98 (pols := [(0, 0, .frz)]) (keep := none) (by kernel_rfl) rfl
theorem ok_core_env_inside : FnOk Tryz.prog 99 a_core_env_inside := FnOk.mk' (l := []) (fun _ h => by cases h) Tryz.func99 (pols := [(0, 0, .frz),(1, 1, .hole),(1, 2, .hole),(3, 2, .frz),(5, 2, .frz),(7, 4, .frz),(9, 2, .frz)]) (keep := none) (by kernel_rfl) rfl
theorem ok_bolterref21_count : FnOk Tryz.prog 100 a_bolterref21_count := FnOk.mk' (l := []) (fun _ h => by cases h) Tryz.func100 (pols := [(0, 0, .frz)]) (keep := none) (by kernel_rfl) rfl
theorem ok_bolterref21_binder : FnOk Tryz.prog 101 a_bolterref21_binder := FnOk.mk' (l := []) (fun _ h => by cases h) Tryz.func101 (pols := []) (keep := none) (by kernel_rfl) rfl
theorem ok_gen_emitter_commas : FnOk Tryz.prog 103 a_gen_emitter_commas := FnOk.mk' (l := []) (fun _ h => by cases h) Tryz.func103 (pols := [(0, 0, .res [(0,1)]),(3, 3, .hole),(3, 5, .hole),(8, 3, .frz),(9, 2, .frz)]) (keep := none) (by kernel_rfl) rfl
theorem ok_gen_emitter_value : FnOk Tryz.prog 104 a_gen_emitter_value := FnOk.mk' (l := []) (fun _ h => by cases h) Tryz.func104 (pols := [(0, 0, .frz)]) (keep := none) (by kernel_rfl) rfl
end Go.AM.T
/- The functions of the abstract machine are the program's. -/
namespace Go.AM.T
open Go.Proofs
theorem ok_gen_emitter_collect : FnOk Tryz.prog 105 a_gen_emitter_collect := FnOk.mk' (l := []) (fun _ h => by cases h) Tryz.func105 (pols := [(4, 2, .hole),(4, 3, .hole),(6, 1, .frz),(11, 2, .frz)]) (keep := none) (by kernel_rfl) rfl
theorem ok_gen_emitter_object : FnOk Tryz.prog 106 a_gen_emitter_object := FnOk.mk' (l := []) (fun _ h => by cases h) Tryz.func106 (pols := [(4, 3, .hole),(4, 5, .hole)]) (keep := none) (by kernel_rfl) rfl
theorem ok_gen_emitter_native : FnOk Tryz.prog 107 a_gen_emitter_native := FnOk.mk' (l := []) (fun _ h => by cases h) Tryz.func107 (pols := [(0, 0, .frz),(3, 3, .hole),(3, 5, .hole),(8, 6, .frz)]) (keep := none) (by kernel_rfl) rfl
theorem ok_gen_emitter_again : FnOk Tryz.prog 108 a_gen_emitter_again := FnOk.mk' (l := []) (fun _ h => by cases h) Tryz.func108 (pols := [(0, 0, .frz),(1, 2, .frz)]) (keep := none) (by kernel_rfl) rfl
theorem ok_gen_emitter_branch : FnOk Tryz.prog 109 a_gen_emitter_branch := FnOk.mk' (l := []) (fun _ h => by cases h) Tryz.func109 (pols := [(4, 2, .frz),(6, 2, .frz)]) (keep := none) (by kernel_rfl) rfl
theorem ok_gen_emitter_bigger : FnOk Tryz.prog 110 a_gen_emitter_bigger := FnOk.mk' (l := []) (fun _ h => by cases h) Tryz.func110 (pols := [(0, 0, .frz),(10, 3, .frz),(15, 5, .frz),(16, 6, .frz),(18, 1, .frz),(22, 3, .frz)]) (keep := none) (by kernel_rfl) rfl
theorem ok_gen_emitter_tail : FnOk Tryz.prog 111 a_gen_emitter_tail := FnOk.mk' (l := []) (fun _ h => by cases h) Tryz.func111 (pols := [(3, 8, .hole),(3, 9, .hole)]) (keep := none) (by kernel_rfl) rfl
theorem ok_strings_Fields : FnOk Tryz.prog 112 a_strings_Fields := FnOk.mk' (l := []) (fun _ h => by cases h) Tryz.func112 (pols := []) (keep := none) (by kernel_rfl) rfl
theorem ok_natives_table : FnOk Tryz.prog 113 a_natives_table := FnOk.mk' (l := []) (fun _ h => by cases h) Tryz.func113 (pols := [(0, 0, .res [(0,2)]),(1, 0, .res [(0,2)]),(6, 7, .frz)]) (keep := none) (by kernel_rfl) rfl
theorem ok_value_Deep : FnOk Tryz.prog 115 a_value_Deep := FnOk.mk' (l := []) (fun _ h => by cases h) Tryz.func115 (pols := [(0, 0, .frz)]) (keep := none) (by kernel_rfl) rfl
theorem ok_value_Size : FnOk Tryz.prog 116 a_value_Size := FnOk.mk' (l := []) (fun _ h => by cases h) Tryz.func116 (pols := [(0, 0, .frz),(4, 2, .hole),(4, 3, .hole)]) (keep := none) (by kernel_rfl) rfl
theorem ok_value_all : FnOk Tryz.prog 117 a_value_all := FnOk.mk' (l := []) (fun _ h => by cases h) Tryz.func117 (pols := [(0, 0, .frz)]) (keep := none) (by kernel_rfl) rfl
theorem ok_value_own : FnOk Tryz.prog 118 a_value_own := FnOk.mk' (l := []) (fun _ h => by cases h) Tryz.func118 (pols := [(0, 0, .frz)]) (keep := none) (by kernel_rfl) rfl
theorem ok_slices_Index_int_int : FnOk Tryz.prog 119 a_slices_Index_int_int := FnOk.mk' (l := []) (fun _ h => by cases h) Tryz.func119 (pols := []) (keep := none) (by kernel_rfl) rfl
theorem ok_bolterref05_text : FnOk Tryz.prog 120 a_bolterref05_text := FnOk.mk' (l := []) (fun _ h => by cases h) Tryz.func120 (pols := []) (keep := none) (by kernel_rfl) rfl
theorem ok_bolterref02_Check : FnOk Tryz.prog 121 a_bolterref02_Check := FnOk.mk' (l := []) (fun _ h => by cases h) Tryz.func121 (pols := [(0, 0, .frz),(3, 2, .hole),(3, 3, .hole)]) (keep := none) (by kernel_rfl) rfl
theorem ok_math_bits_Mul32 : FnOk Tryz.prog 122 a_math_bits_Mul32 := FnOk.mk' (l := []) (fun _ h => by cases h) Tryz.func122 (pols := []) (keep := none) (by kernel_rfl) rfl
theorem ok_math_bits_Mul64 : FnOk Tryz.prog 123 a_math_bits_Mul64 := FnOk.mk' (l := []) (fun _ h => by cases h) Tryz.func123 (pols := []) (keep := none) (by kernel_rfl) rfl
theorem ok_core_bounds : FnOk Tryz.prog 124 a_core_bounds := FnOk.mk' (l := []) (fun _ h => by cases h) Tryz.func124 (pols := [(0, 0, .frz)]) (keep := none) (by kernel_rfl) rfl
theorem ok_core_env_indexed : FnOk Tryz.prog 125 a_core_env_indexed := FnOk.mk' (l := []) (fun _ h => by cases h) Tryz.func125 (pols := [(0, 0, .frz)]) (keep := none) (by kernel_rfl) rfl
theorem ok_core_nameable : FnOk Tryz.prog 126 a_core_nameable := FnOk.mk' (l := []) (fun _ h => by cases h) Tryz.func126 (pols := [(1, 0, .frz)]) (keep := none) (by kernel_rfl) rfl
theorem ok_gen_emitter_land : FnOk Tryz.prog 127 a_gen_emitter_land := FnOk.mk' (l := []) (fun _ h => by cases h) Tryz.func127 (pols := []) (keep := none) (by kernel_rfl) rfl
theorem ok_gen_emitter_guarded : FnOk Tryz.prog 128 a_gen_emitter_guarded := FnOk.mk' (l := []) (fun _ h => by cases h) Tryz.func128 (pols := [(4, 2, .frz),(6, 2, .frz)]) (keep := none) (by kernel_rfl) rfl
theorem ok_gen_emitter_loop : FnOk Tryz.prog 129 a_gen_emitter_loop := FnOk.mk' (l := []) (fun _ h => by cases h) Tryz.func129 (pols := [(0, 0, .frz),(3, 1, .frz),(8, 2, .frz),(12, 1, .frz)]) (keep := none) (by kernel_rfl) rfl
theorem ok_gen_emitter_bound : FnOk Tryz.prog 130 a_gen_emitter_bound := FnOk.mk' (l := []) (fun _ h => by cases h) Tryz.func130 (pols := [(0, 0, .frz),(3, 1, .frz)]) (keep := none) (by kernel_rfl) rfl
theorem ok_gen_emitter_routines : FnOk Tryz.prog 131 a_gen_emitter_routines := FnOk.mk' (l := []) (fun _ h => by cases h) Tryz.func131 (pols := [(0, 0, .res [(0,1)]),(2, 0, .res [(0,1)]),(4, 0, .res [(0,1)]),(7, 2, .hole),(7, 3, .hole),(8, 7, .frz),(12, 2, .frz)]) (keep := none) (by kernel_rfl) rfl
theorem ok_gen_emitter_call : FnOk Tryz.prog 132 a_gen_emitter_call := FnOk.mk' (l := []) (fun _ h => by cases h) Tryz.func132 (pols := [(0, 0, .frz),(4, 2, .frz),(6, 6, .frz)]) (keep := none) (by kernel_rfl) rfl
theorem ok_strings_FieldsFunc : FnOk Tryz.prog 133 a_strings_FieldsFunc := FnOk.mk' (l := []) (fun _ h => by cases h) Tryz.func133 (pols := [(8, 4, .frz),(13, 5, .frz),(17, 3, .hole),(17, 5, .hole)]) (keep := none) (by kernel_rfl) rfl
theorem ok_unicode_IsSpace : FnOk Tryz.prog 134 a_unicode_IsSpace := FnOk.mk' (l := []) (fun _ h => by cases h) Tryz.func134 (pols := []) (keep := none) (by kernel_rfl) rfl
theorem ok_strings_Cut : FnOk Tryz.prog 135 a_strings_Cut := FnOk.mk' (l := []) (fun _ h => by cases h) Tryz.func135 (pols := []) (keep := none) (by kernel_rfl) rfl
theorem ok_value_deep : FnOk Tryz.prog 136 a_value_deep := FnOk.mk' (l := []) (fun _ h => by cases h) Tryz.func136 (pols := [(0, 0, .frz),(6, 2, .hole),(6, 3, .hole)]) (keep := none) (by kernel_rfl) rfl
theorem ok_value_all_1 : FnOk Tryz.prog 137 a_value_all_1 := FnOk.mk' (l := []) (fun _ h => by cases h) Tryz.func137 (pols := []) (keep := none) (by kernel_rfl) rfl
theorem ok_value_walk : FnOk Tryz.prog 138 a_value_walk := FnOk.mk' (l := []) (fun _ h => by cases h) Tryz.func138 (pols := [(0, 0, .frz)]) (keep := none) (by kernel_rfl) rfl
theorem ok_value_texts : FnOk Tryz.prog 139 a_value_texts := FnOk.mk' (l := []) (fun _ h => by cases h) Tryz.func139 (pols := [(0, 0, .frz),(5, 3, .frz)]) (keep := none) (by kernel_rfl) rfl
theorem ok_value_numbers : FnOk Tryz.prog 140 a_value_numbers := FnOk.mk' (l := []) (fun _ h => by cases h) Tryz.func140 (pols := [(0, 0, .frz)]) (keep := none) (by kernel_rfl) rfl
theorem ok_value_used : FnOk Tryz.prog 141 a_value_used := FnOk.mk' (l := []) (fun _ h => by cases h) Tryz.func141 (pols := [(0, 0, .frz)]) (keep := none) (by kernel_rfl) rfl
theorem ok_value_rises : FnOk Tryz.prog 142 a_value_rises := FnOk.mk' (l := []) (fun _ h => by cases h) Tryz.func142 (pols := []) (keep := none) (by kernel_rfl) rfl
theorem ok_bolterref04_Check : FnOk Tryz.prog 143 a_bolterref04_Check := FnOk.mk' (l := []) (fun _ h => by cases h) Tryz.func143 (pols := []) (keep := none) (by kernel_rfl) rfl
theorem ok_bolterref01_Check : FnOk Tryz.prog 144 a_bolterref01_Check := FnOk.mk' (l := []) (fun _ h => by cases h) Tryz.func144 (pols := []) (keep := none) (by kernel_rfl) rfl
theorem ok_bolterref02_Of : FnOk Tryz.prog 145 a_bolterref02_Of := FnOk.mk' (l := []) (fun _ h => by cases h) Tryz.func145 (pols := [(0, 0, .frz)]) (keep := none) (by kernel_rfl) rfl
theorem ok_core_env_is : FnOk Tryz.prog 146 a_core_env_is := FnOk.mk' (l := []) (fun _ h => by cases h) Tryz.func146 (pols := [(0, 0, .frz),(0, 1, .frz)]) (keep := none) (by kernel_rfl) rfl
theorem ok_gen_emitter_fold : FnOk Tryz.prog 147 a_gen_emitter_fold := FnOk.mk' (l := []) (fun _ h => by cases h) Tryz.func147 (pols := [(1, 1, .frz)]) (keep := none) (by kernel_rfl) rfl
theorem ok_unicode_isExcludingLatin : FnOk Tryz.prog 148 a_unicode_isExcludingLatin := FnOk.mk' (l := []) (fun _ h => by cases h) Tryz.func148 (pols := []) (keep := none) (by kernel_rfl) rfl
theorem ok_internal_stringslite_Cut : FnOk Tryz.prog 149 a_internal_stringslite_Cut := FnOk.mk' (l := []) (fun _ h => by cases h) Tryz.func149 (pols := []) (keep := none) (by kernel_rfl) rfl
theorem ok_slices_ContainsFunc_api_Value_api_Value : FnOk Tryz.prog 150 a_slices_ContainsFunc_api_Value_api_Value := FnOk.mk' (l := []) (fun _ h => by cases h) Tryz.func150 (pols := []) (keep := none) (by kernel_rfl) rfl
theorem ok_value_walk_1 : FnOk Tryz.prog 151 a_value_walk_1 := FnOk.mk' (l := []) (fun _ h => by cases h) Tryz.func151 (pols := [(0, 0, .frz)]) (keep := none) (by kernel_rfl) rfl
theorem ok_value_letters : FnOk Tryz.prog 152 a_value_letters := FnOk.mk' (l := []) (fun _ h => by cases h) Tryz.func152 (pols := []) (keep := none) (by kernel_rfl) rfl
theorem ok_cmp_Or_api_Errno : FnOk Tryz.prog 153 a_cmp_Or_api_Errno := FnOk.mk' (l := []) (fun _ h => by cases h) Tryz.func153 (pols := []) (keep := none) (by kernel_rfl) rfl
theorem ok_dec_Check : FnOk Tryz.prog 154 a_dec_Check := FnOk.mk' (l := []) (fun _ h => by cases h) Tryz.func154 (pols := [(0, 0, .frz)]) (keep := none) (by kernel_rfl) rfl
theorem ok_bolterref04_First : FnOk Tryz.prog 155 a_bolterref04_First := FnOk.mk' (l := []) (fun _ h => by cases h) Tryz.func155 (pols := []) (keep := none) (by kernel_rfl) rfl
end Go.AM.T
/- The functions of the abstract machine are the program's. -/
namespace Go.AM.T
open Go.Proofs
theorem ok_bolterref01_Digits : FnOk Tryz.prog 156 a_bolterref01_Digits := FnOk.mk' (l := []) (fun _ h => by cases h) Tryz.func156 (pols := []) (keep := none) (by kernel_rfl) rfl
theorem ok_core_env_find : FnOk Tryz.prog 157 a_core_env_find := FnOk.mk' (l := []) (fun _ h => by cases h) Tryz.func157 (pols := []) (keep := none) (by kernel_rfl) rfl
theorem ok_core_env_is_1 : FnOk Tryz.prog 158 a_core_env_is_1 := FnOk.mk' (l := []) (fun _ h => by cases h) Tryz.func158 (pols := []) (keep := none) (by kernel_rfl) rfl
theorem ok_unicode_is16 : FnOk Tryz.prog 159 a_unicode_is16 := FnOk.mk' (l := []) (fun _ h => by cases h) Tryz.func159 (pols := []) (keep := none) (by kernel_rfl) rfl
theorem ok_unicode_is32 : FnOk Tryz.prog 160 a_unicode_is32 := FnOk.mk' (l := []) (fun _ h => by cases h) Tryz.func160 (pols := [(16, 4, .hole),(16, 5, .hole)]) (keep := none) (by kernel_rfl) rfl
theorem ok_internal_stringslite_Index : FnOk Tryz.prog 161 a_internal_stringslite_Index := FnOk.mk' (l := []) (fun _ h => by cases h) Tryz.func161 (pols := []) (keep := none) (by kernel_rfl) rfl
theorem ok_utf_Check : FnOk Tryz.prog 162 a_utf_Check := FnOk.mk' (l := []) (fun _ h => by cases h) Tryz.func162 (pols := []) (keep := none) (by kernel_rfl) rfl
theorem ok_nat_Check : FnOk Tryz.prog 163 a_nat_Check := FnOk.mk' (l := []) (fun _ h => by cases h) Tryz.func163 (pols := []) (keep := none) (by kernel_rfl) rfl
theorem ok_dec_ten : FnOk Tryz.prog 164 a_dec_ten := FnOk.mk' (l := []) (fun _ h => by cases h) Tryz.func164 (pols := []) (keep := none) (by kernel_rfl) rfl
theorem ok_dec_digits : FnOk Tryz.prog 165 a_dec_digits := FnOk.mk' (l := []) (fun _ h => by cases h) Tryz.func165 (pols := []) (keep := none) (by kernel_rfl) rfl
theorem ok_bolterref04_may : FnOk Tryz.prog 166 a_bolterref04_may := FnOk.mk' (l := []) (fun _ h => by cases h) Tryz.func166 (pols := []) (keep := none) (by kernel_rfl) rfl
theorem ok_bolterref04_Octets : FnOk Tryz.prog 167 a_bolterref04_Octets := FnOk.mk' (l := []) (fun _ h => by cases h) Tryz.func167 (pols := [(2, 2, .frz),(4, 8, .frz),(6, 13, .frz),(7, 18, .frz)]) (keep := none) (by kernel_rfl) rfl
theorem ok_bolterref01_times : FnOk Tryz.prog 168 a_bolterref01_times := FnOk.mk' (l := []) (fun _ h => by cases h) Tryz.func168 (pols := [(0, 0, .res [(0,1)]),(1, 0, .res [(0,1)]),(6, 3, .frz),(9, 3, .frz)]) (keep := none) (by kernel_rfl) rfl
theorem ok_internal_stringslite_IndexByte : FnOk Tryz.prog 169 a_internal_stringslite_IndexByte := FnOk.mk' (l := []) (fun _ h => by cases h) Tryz.func169 (pols := []) (keep := none) (by kernel_rfl) rfl
theorem ok_internal_bytealg_Cutover : FnOk Tryz.prog 171 a_internal_bytealg_Cutover := FnOk.mk' (l := []) (fun _ h => by cases h) Tryz.func171 (pols := []) (keep := none) (by kernel_rfl) rfl
theorem ok_internal_bytealg_IndexRabinKarp_string : FnOk Tryz.prog 172 a_internal_bytealg_IndexRabinKarp_string := FnOk.mk' (l := []) (fun _ h => by cases h) Tryz.func172 (pols := []) (keep := none) (by kernel_rfl) rfl
theorem ok_utf_runes : FnOk Tryz.prog 173 a_utf_runes := FnOk.mk' (l := []) (fun _ h => by cases h) Tryz.func173 (pols := [(0, 0, .frz)]) (keep := none) (by kernel_rfl) rfl
theorem ok_nat_Div : FnOk Tryz.prog 174 a_nat_Div := FnOk.mk' (l := []) (fun _ h => by cases h) Tryz.func174 (pols := []) (keep := none) (by kernel_rfl) rfl
theorem ok_nat_From : FnOk Tryz.prog 175 a_nat_From := FnOk.mk' (l := []) (fun _ h => by cases h) Tryz.func175 (pols := [(1, 5, .frz)]) (keep := none) (by kernel_rfl) rfl
theorem ok_nat_Print : FnOk Tryz.prog 176 a_nat_Print := FnOk.mk' (l := []) (fun _ h => by cases h) Tryz.func176 (pols := [(4, 0, .res [(0,1)]),(11, 5, .frz)]) (keep := none) (by kernel_rfl) rfl
theorem ok_internal_bytealg_hashStr_string : FnOk Tryz.prog 178 a_internal_bytealg_hashStr_string := FnOk.mk' (l := []) (fun _ h => by cases h) Tryz.func178 (pols := []) (keep := none) (by kernel_rfl) rfl
theorem ok_utf_runes_1 : FnOk Tryz.prog 179 a_utf_runes_1 := FnOk.mk' (l := []) (fun _ h => by cases h) Tryz.func179 (pols := []) (keep := none) (by kernel_rfl) rfl
theorem ok_unicode_utf8_DecodeRuneInString : FnOk Tryz.prog 180 a_unicode_utf8_DecodeRuneInString := FnOk.mk' (l := []) (fun _ h => by cases h) Tryz.func180 (pols := []) (keep := none) (by kernel_rfl) rfl
theorem ok_nat_two : FnOk Tryz.prog 181 a_nat_two := FnOk.mk' (l := []) (fun _ h => by cases h) Tryz.func181 (pols := [(1, 4, .frz)]) (keep := none) (by kernel_rfl) rfl
theorem ok_nat_num_div : FnOk Tryz.prog 182 a_nat_num_div := FnOk.mk' (l := []) (fun _ h => by cases h) Tryz.func182 (pols := [(5, 2, .frz),(7, 7, .hole),(7, 9, .hole),(7, 8, .hole),(7, 10, .hole),(8, 2, .hole),(8, 3, .hole),(9, 6, .res []),(9, 5, .hole)]) (keep := none) (by kernel_rfl) rfl
theorem ok_nat_num_trim : FnOk Tryz.prog 183 a_nat_num_trim := FnOk.mk' (l := []) (fun _ h => by cases h) Tryz.func183 (pols := []) (keep := none) (by kernel_rfl) rfl
theorem ok_nat_num_small : FnOk Tryz.prog 184 a_nat_num_small := FnOk.mk' (l := []) (fun _ h => by cases h) Tryz.func184 (pols := [(0, 0, .frz),(0, 1, .frz),(1, 4, .res []),(1, 3, .hole)]) (keep := none) (by kernel_rfl) rfl
theorem ok_slices_Reverse_byte_byte : FnOk Tryz.prog 185 a_slices_Reverse_byte_byte := FnOk.mk' (l := []) (fun _ h => by cases h) Tryz.func185 (pols := []) (keep := none) (by kernel_rfl) rfl
theorem ok_unicode_utf8_decodeRuneInStringSlow : FnOk Tryz.prog 186 a_unicode_utf8_decodeRuneInStringSlow := FnOk.mk' (l := []) (fun _ h => by cases h) Tryz.func186 (pols := [(10, 4, .hole),(10, 5, .hole)]) (keep := none) (by kernel_rfl) rfl
theorem ok_nat_num_compare : FnOk Tryz.prog 187 a_nat_num_compare := FnOk.mk' (l := []) (fun _ h => by cases h) Tryz.func187 (pols := [(0, 0, .frz),(0, 1, .frz)]) (keep := none) (by kernel_rfl) rfl
theorem ok_slices_Clone_nat_num_uint32 : FnOk Tryz.prog 188 a_slices_Clone_nat_num_uint32 := FnOk.mk' (l := []) (fun _ h => by cases h) Tryz.func188 (pols := [(0, 0, .res [(0,1)]),(2, 0, .res [(0,1)])]) (keep := some 0) (by kernel_rfl) rfl
theorem ok_math_bits_LeadingZeros32 : FnOk Tryz.prog 189 a_math_bits_LeadingZeros32 := FnOk.mk' (l := []) (fun _ h => by cases h) Tryz.func189 (pols := []) (keep := none) (by kernel_rfl) rfl
theorem ok_nat_num_left : FnOk Tryz.prog 190 a_nat_num_left := FnOk.mk' (l := []) (fun _ h => by cases h) Tryz.func190 (pols := [(0, 0, .res [(0,1)]),(6, 6, .frz),(9, 2, .frz)]) (keep := none) (by kernel_rfl) rfl
theorem ok_slices_Backward_nat_num_uint32 : FnOk Tryz.prog 191 a_slices_Backward_nat_num_uint32 := FnOk.mk' (l := []) (fun _ h => by cases h) Tryz.func191 (pols := [(0, 0, .frz)]) (keep := none) (by kernel_rfl) rfl
theorem ok_nat_guess : FnOk Tryz.prog 192 a_nat_guess := FnOk.mk' (l := []) (fun _ h => by cases h) Tryz.func192 (pols := []) (keep := none) (by kernel_rfl) rfl
theorem ok_nat_takeOff : FnOk Tryz.prog 193 a_nat_takeOff := FnOk.mk' (l := []) (fun _ h => by cases h) Tryz.func193 (pols := []) (keep := none) (by kernel_rfl) rfl
theorem ok_nat_putBack : FnOk Tryz.prog 194 a_nat_putBack := FnOk.mk' (l := []) (fun _ h => by cases h) Tryz.func194 (pols := []) (keep := none) (by kernel_rfl) rfl
theorem ok_nat_num_right : FnOk Tryz.prog 195 a_nat_num_right := FnOk.mk' (l := []) (fun _ h => by cases h) Tryz.func195 (pols := []) (keep := none) (by kernel_rfl) rfl
theorem ok_math_bits_Div32 : FnOk Tryz.prog 196 a_math_bits_Div32 := FnOk.mk' (l := []) (fun _ h => by cases h) Tryz.func196 (pols := []) (keep := none) (by kernel_rfl) rfl
theorem ok_cmp_Compare_int : FnOk Tryz.prog 197 a_cmp_Compare_int := FnOk.mk' (l := []) (fun _ h => by cases h) Tryz.func197 (pols := []) (keep := none) (by kernel_rfl) rfl
theorem ok_cmp_Compare_uint32 : FnOk Tryz.prog 198 a_cmp_Compare_uint32 := FnOk.mk' (l := []) (fun _ h => by cases h) Tryz.func198 (pols := []) (keep := none) (by kernel_rfl) rfl
theorem ok_math_bits_Len32 : FnOk Tryz.prog 199 a_math_bits_Len32 := FnOk.mk' (l := []) (fun _ h => by cases h) Tryz.func199 (pols := []) (keep := none) (by kernel_rfl) rfl
theorem ok_slices_Backward_nat_num_uint32_1 : FnOk Tryz.prog 200 a_slices_Backward_nat_num_uint32_1 := FnOk.mk' (l := []) (fun _ h => by cases h) Tryz.func200 (pols := []) (keep := none) (by kernel_rfl) rfl
theorem ok_math_bits_Sub32 : FnOk Tryz.prog 201 a_math_bits_Sub32 := FnOk.mk' (l := []) (fun _ h => by cases h) Tryz.func201 (pols := []) (keep := none) (by kernel_rfl) rfl
theorem ok_math_bits_Add32 : FnOk Tryz.prog 202 a_math_bits_Add32 := FnOk.mk' (l := []) (fun _ h => by cases h) Tryz.func202 (pols := []) (keep := none) (by kernel_rfl) rfl
theorem ok_cmp_isNaN_int : FnOk Tryz.prog 203 a_cmp_isNaN_int := FnOk.mk' (l := []) (fun _ h => by cases h) Tryz.func203 (pols := []) (keep := none) (by kernel_rfl) rfl
theorem ok_cmp_isNaN_uint32 : FnOk Tryz.prog 204 a_cmp_isNaN_uint32 := FnOk.mk' (l := []) (fun _ h => by cases h) Tryz.func204 (pols := []) (keep := none) (by kernel_rfl) rfl
end Go.AM.T
