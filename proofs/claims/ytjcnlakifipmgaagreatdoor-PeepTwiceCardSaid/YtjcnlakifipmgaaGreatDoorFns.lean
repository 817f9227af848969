/- The functions of the abstract machine are the program's. -/
import Derived.Test.YtjcnlakifipmgaaGreatDoorProg
import Derived.Test.YtjcnlakifipmgaaGreatDoorCodes0
import Derived.KernelRfl
set_option linter.unusedVariables false
set_option linter.unusedSimpArgs false
set_option linter.unnecessarySimpa false
set_option maxRecDepth 100000
/- The functions of the abstract machine are the program's. -/
namespace Go.AM.T
open Go.Proofs
theorem ok_bolterlaw27_PeepPools : FnOk Tryz.prog 5 a_bolterlaw27_PeepPools := FnOk.mk' (l := []) (fun _ h => by cases h) Tryz.func5 (pols := [(0, 0, .frz),(3, 5, .hole),(3, 6, .hole),(10, 10, .hole),(10, 12, .hole),(10, 11, .hole),(10, 13, .hole)]) (keep := none) (by kernel_rfl) rfl
theorem ok_bolterlaw27_PeepTwice : FnOk Tryz.prog 6 a_bolterlaw27_PeepTwice := FnOk.mk' (l := []) (fun _ h => by cases h) Tryz.func6 (pols := [(0, 0, .frz),(3, 6, .hole),(3, 7, .hole),(6, 6, .hole),(6, 7, .hole)]) (keep := none) (by kernel_rfl) rfl
theorem ok_bolterlaw27_alive : FnOk Tryz.prog 9 a_bolterlaw27_alive := FnOk.mk' (l := []) (fun _ h => by cases h) Tryz.func9 (pols := [(1, 2, .frz),(1, 9, .hole),(1, 10, .hole)]) (keep := none) (by kernel_rfl) rfl
theorem ok_peep_Shorten : FnOk Tryz.prog 11 a_peep_Shorten := FnOk.mk' (l := []) (fun _ h => by cases h) Tryz.func11 (pols := [(0, 0, .frz),(8, 5, .hole),(8, 6, .hole)]) (keep := none) (by kernel_rfl) rfl
theorem ok_bolterref25_Same : FnOk Tryz.prog 13 a_bolterref25_Same := FnOk.mk' (l := []) (fun _ h => by cases h) Tryz.func13 (pols := [(0, 0, .frz),(0, 1, .frz)]) (keep := none) (by kernel_rfl) rfl
theorem ok_peep_Reach : FnOk Tryz.prog 14 a_peep_Reach := FnOk.mk' (l := []) (fun _ h => by cases h) Tryz.func14 (pols := [(0, 0, .frz)]) (keep := none) (by kernel_rfl) rfl
theorem ok_bolterref25_Check : FnOk Tryz.prog 15 a_bolterref25_Check := FnOk.mk' (l := []) (fun _ h => by cases h) Tryz.func15 (pols := [(0, 0, .frz)]) (keep := none) (by kernel_rfl) rfl
theorem ok_bolterlaw27_num : FnOk Tryz.prog 16 a_bolterlaw27_num := FnOk.mk' (l := []) (fun _ h => by cases h) Tryz.func16 (pols := []) (keep := none) (by kernel_rfl) rfl
theorem ok_peep_Pool : FnOk Tryz.prog 18 a_peep_Pool := FnOk.mk' (l := []) (fun _ h => by cases h) Tryz.func18 (pols := [(0, 0, .frz)]) (keep := none) (by kernel_rfl) rfl
theorem ok_bolterref05_Same : FnOk Tryz.prog 19 a_bolterref05_Same := FnOk.mk' (l := []) (fun _ h => by cases h) Tryz.func19 (pols := [(0, 0, .frz),(0, 1, .frz)]) (keep := none) (by kernel_rfl) rfl
theorem ok_bolterref05_SameAll : FnOk Tryz.prog 21 a_bolterref05_SameAll := FnOk.mk' (l := []) (fun _ h => by cases h) Tryz.func21 (pols := []) (keep := none) (by kernel_rfl) rfl
theorem ok_bolterref25_Goes : FnOk Tryz.prog 22 a_bolterref25_Goes := FnOk.mk' (l := []) (fun _ h => by cases h) Tryz.func22 (pols := []) (keep := none) (by kernel_rfl) rfl
theorem ok_code_Check : FnOk Tryz.prog 30 a_code_Check := FnOk.mk' (l := []) (fun _ h => by cases h) Tryz.func30 (pols := [(0, 0, .frz),(8, 2, .hole),(8, 3, .hole)]) (keep := none) (by kernel_rfl) rfl
theorem ok_slices_Clone_api_Instr_api_Instr : FnOk Tryz.prog 31 a_slices_Clone_api_Instr_api_Instr := FnOk.mk' (l := []) (fun _ h => by cases h) Tryz.func31 (pols := [(0, 0, .res [(0,3)]),(2, 0, .res [(0,3)])]) (keep := some 0) (by kernel_rfl) rfl
theorem ok_peep_once : FnOk Tryz.prog 32 a_peep_once := FnOk.mk' (l := []) (fun _ h => by cases h) Tryz.func32 (pols := [(2, 2, .hole),(2, 3, .hole)]) (keep := none) (by kernel_rfl) rfl
theorem ok_slices_Equal_api_Instr_api_Instr : FnOk Tryz.prog 33 a_slices_Equal_api_Instr_api_Instr := FnOk.mk' (l := []) (fun _ h => by cases h) Tryz.func33 (pols := []) (keep := none) (by kernel_rfl) rfl
theorem ok_peep_pool : FnOk Tryz.prog 34 a_peep_pool := FnOk.mk' (l := []) (fun _ h => by cases h) Tryz.func34 (pols := [(1, 5, .res [(1,7)]),(1, 4, .hole),(4, 3, .hole),(4, 5, .hole),(6, 6, .hole),(6, 7, .hole),(10, 4, .frz)]) (keep := none) (by kernel_rfl) rfl
theorem ok_peep_reach : FnOk Tryz.prog 36 a_peep_reach := FnOk.mk' (l := []) (fun _ h => by cases h) Tryz.func36 (pols := [(8, 4, .hole),(8, 5, .hole),(10, 3, .frz),(12, 3, .frz)]) (keep := none) (by kernel_rfl) rfl
theorem ok_bolterref25_Name : FnOk Tryz.prog 37 a_bolterref25_Name := FnOk.mk' (l := []) (fun _ h => by cases h) Tryz.func37 (pols := []) (keep := none) (by kernel_rfl) rfl
theorem ok_bolterref25_may : FnOk Tryz.prog 38 a_bolterref25_may := FnOk.mk' (l := []) (fun _ h => by cases h) Tryz.func38 (pols := [(0, 0, .frz)]) (keep := none) (by kernel_rfl) rfl
theorem ok_bolterref05_Check : FnOk Tryz.prog 39 a_bolterref05_Check := FnOk.mk' (l := []) (fun _ h => by cases h) Tryz.func39 (pols := [(0, 0, .frz)]) (keep := none) (by kernel_rfl) rfl
theorem ok_bolterref02_Same : FnOk Tryz.prog 40 a_bolterref02_Same := FnOk.mk' (l := []) (fun _ h => by cases h) Tryz.func40 (pols := [(0, 0, .frz),(0, 1, .frz)]) (keep := none) (by kernel_rfl) rfl
theorem ok_peep_thread : FnOk Tryz.prog 41 a_peep_thread := FnOk.mk' (l := []) (fun _ h => by cases h) Tryz.func41 (pols := [(4, 3, .hole),(4, 5, .hole)]) (keep := none) (by kernel_rfl) rfl
theorem ok_code_Name : FnOk Tryz.prog 49 a_code_Name := FnOk.mk' (l := []) (fun _ h => by cases h) Tryz.func49 (pols := []) (keep := none) (by kernel_rfl) rfl
theorem ok_code_may : FnOk Tryz.prog 50 a_code_may := FnOk.mk' (l := []) (fun _ h => by cases h) Tryz.func50 (pols := [(0, 0, .frz),(0, 1, .frz)]) (keep := none) (by kernel_rfl) rfl
theorem ok_value_Checks : FnOk Tryz.prog 51 a_value_Checks := FnOk.mk' (l := []) (fun _ h => by cases h) Tryz.func51 (pols := [(3, 2, .hole),(3, 3, .hole)]) (keep := none) (by kernel_rfl) rfl
theorem ok_code_Ends : FnOk Tryz.prog 52 a_code_Ends := FnOk.mk' (l := []) (fun _ h => by cases h) Tryz.func52 (pols := [(1, 0, .frz)]) (keep := none) (by kernel_rfl) rfl
theorem ok_peep_keep : FnOk Tryz.prog 53 a_peep_keep := FnOk.mk' (l := []) (fun _ h => by cases h) Tryz.func53 (pols := [(0, 0, .res [(0,3)]),(10, 0, .res [(0,3)]),(13, 5, .res []),(13, 3, .hole),(17, 2, .frz)]) (keep := none) (by kernel_rfl) rfl
theorem ok_peep_once_1 : FnOk Tryz.prog 54 a_peep_once_1 := FnOk.mk' (l := []) (fun _ h => by cases h) Tryz.func54 (pols := []) (keep := none) (by kernel_rfl) rfl
theorem ok_peep_once_2 : FnOk Tryz.prog 55 a_peep_once_2 := FnOk.mk' (l := []) (fun _ h => by cases h) Tryz.func55 (pols := []) (keep := none) (by kernel_rfl) rfl
theorem ok_slices_IndexFunc_api_Value_api_Value : FnOk Tryz.prog 56 a_slices_IndexFunc_api_Value_api_Value := FnOk.mk' (l := []) (fun _ h => by cases h) Tryz.func56 (pols := []) (keep := none) (by kernel_rfl) rfl
theorem ok_peep_pool_1 : FnOk Tryz.prog 57 a_peep_pool_1 := FnOk.mk' (l := []) (fun _ h => by cases h) Tryz.func57 (pols := [(0, 0, .frz)]) (keep := none) (by kernel_rfl) rfl
theorem ok_value_Same : FnOk Tryz.prog 58 a_value_Same := FnOk.mk' (l := []) (fun _ h => by cases h) Tryz.func58 (pols := [(0, 0, .frz),(0, 1, .frz)]) (keep := none) (by kernel_rfl) rfl
theorem ok_value_Clone : FnOk Tryz.prog 59 a_value_Clone := FnOk.mk' (l := []) (fun _ h => by cases h) Tryz.func59 (pols := [(4, 3, .hole),(4, 5, .hole)]) (keep := none) (by kernel_rfl) rfl
theorem ok_code_Goes : FnOk Tryz.prog 60 a_code_Goes := FnOk.mk' (l := []) (fun _ h => by cases h) Tryz.func60 (pols := [(1, 0, .frz)]) (keep := none) (by kernel_rfl) rfl
theorem ok_bolterref25_Ops : FnOk Tryz.prog 61 a_bolterref25_Ops := FnOk.mk' (l := []) (fun _ h => by cases h) Tryz.func61 (pols := [(1, 0, .frz)]) (keep := none) (by kernel_rfl) rfl
theorem ok_bolterref25_Uses : FnOk Tryz.prog 62 a_bolterref25_Uses := FnOk.mk' (l := []) (fun _ h => by cases h) Tryz.func62 (pols := []) (keep := none) (by kernel_rfl) rfl
theorem ok_bolterref25_in : FnOk Tryz.prog 63 a_bolterref25_in := FnOk.mk' (l := []) (fun _ h => by cases h) Tryz.func63 (pols := []) (keep := none) (by kernel_rfl) rfl
theorem ok_bolterref16_Name : FnOk Tryz.prog 64 a_bolterref16_Name := FnOk.mk' (l := []) (fun _ h => by cases h) Tryz.func64 (pols := []) (keep := none) (by kernel_rfl) rfl
theorem ok_bolterref05_Deep : FnOk Tryz.prog 65 a_bolterref05_Deep := FnOk.mk' (l := []) (fun _ h => by cases h) Tryz.func65 (pols := [(0, 0, .frz)]) (keep := none) (by kernel_rfl) rfl
theorem ok_bolterref05_Size : FnOk Tryz.prog 66 a_bolterref05_Size := FnOk.mk' (l := []) (fun _ h => by cases h) Tryz.func66 (pols := [(0, 0, .frz)]) (keep := none) (by kernel_rfl) rfl
theorem ok_bolterref05_all : FnOk Tryz.prog 67 a_bolterref05_all := FnOk.mk' (l := []) (fun _ h => by cases h) Tryz.func67 (pols := [(0, 0, .frz)]) (keep := none) (by kernel_rfl) rfl
theorem ok_peep_land : FnOk Tryz.prog 68 a_peep_land := FnOk.mk' (l := []) (fun _ h => by cases h) Tryz.func68 (pols := []) (keep := none) (by kernel_rfl) rfl
theorem ok_code_ops : FnOk Tryz.prog 80 a_code_ops := FnOk.mk' (l := []) (fun _ h => by cases h) Tryz.func80 (pols := []) (keep := none) (by kernel_rfl) rfl
theorem ok_natives_Name : FnOk Tryz.prog 81 a_natives_Name := FnOk.mk' (l := []) (fun _ h => by cases h) Tryz.func81 (pols := []) (keep := none) (by kernel_rfl) rfl
theorem ok_code_limits : FnOk Tryz.prog 82 a_code_limits := FnOk.mk' (l := []) (fun _ h => by cases h) Tryz.func82 (pols := [(0, 0, .frz),(0, 1, .frz)]) (keep := none) (by kernel_rfl) rfl
theorem ok_code_in : FnOk Tryz.prog 83 a_code_in := FnOk.mk' (l := []) (fun _ h => by cases h) Tryz.func83 (pols := []) (keep := none) (by kernel_rfl) rfl
theorem ok_value_Check : FnOk Tryz.prog 84 a_value_Check := FnOk.mk' (l := []) (fun _ h => by cases h) Tryz.func84 (pols := [(0, 0, .frz),(6, 0, .hole),(6, 1, .hole)]) (keep := none) (by kernel_rfl) rfl
theorem ok_slices_Contains_int_int : FnOk Tryz.prog 85 a_slices_Contains_int_int := FnOk.mk' (l := []) (fun _ h => by cases h) Tryz.func85 (pols := []) (keep := none) (by kernel_rfl) rfl
theorem ok_slices_Equal_uint32_uint32 : FnOk Tryz.prog 86 a_slices_Equal_uint32_uint32 := FnOk.mk' (l := []) (fun _ h => by cases h) Tryz.func86 (pols := []) (keep := none) (by kernel_rfl) rfl
end Go.AM.T
/- The functions of the abstract machine are the program's. -/
namespace Go.AM.T
open Go.Proofs
theorem ok_slices_Equal_string_string : FnOk Tryz.prog 87 a_slices_Equal_string_string := FnOk.mk' (l := []) (fun _ h => by cases h) Tryz.func87 (pols := []) (keep := none) (by kernel_rfl) rfl
theorem ok_slices_EqualFunc_api_Value_api_Value_api_Value_api_Value : FnOk Tryz.prog 88 a_slices_EqualFunc_api_Value_api_Value_api_Value_api_Value := FnOk.mk' (l := []) (fun _ h => by cases h) Tryz.func88 (pols := [(5, 3, .hole),(5, 5, .hole),(6, 4, .hole),(6, 5, .hole)]) (keep := none) (by kernel_rfl) rfl
theorem ok_slices_Clone_uint32_uint32 : FnOk Tryz.prog 89 a_slices_Clone_uint32_uint32 := FnOk.mk' (l := []) (fun _ h => by cases h) Tryz.func89 (pols := [(0, 0, .res [(0,1)]),(2, 0, .res [(0,1)])]) (keep := none) (by kernel_rfl) rfl
theorem ok_slices_Clone_string_string : FnOk Tryz.prog 90 a_slices_Clone_string_string := FnOk.mk' (l := []) (fun _ h => by cases h) Tryz.func90 (pols := [(0, 0, .res [(0,1)]),(2, 0, .res [(0,1)])]) (keep := none) (by kernel_rfl) rfl
theorem ok_slices_Clone_api_Value_api_Value : FnOk Tryz.prog 91 a_slices_Clone_api_Value_api_Value := FnOk.mk' (l := []) (fun _ h => by cases h) Tryz.func91 (pols := [(0, 0, .res [(0,7)]),(2, 0, .res [(0,7)])]) (keep := some 0) (by kernel_rfl) rfl
theorem ok_bolterref16_Names : FnOk Tryz.prog 92 a_bolterref16_Names := FnOk.mk' (l := []) (fun _ h => by cases h) Tryz.func92 (pols := [(1, 0, .frz)]) (keep := none) (by kernel_rfl) rfl
theorem ok_bolterref16_Counts : FnOk Tryz.prog 93 a_bolterref16_Counts := FnOk.mk' (l := []) (fun _ h => by cases h) Tryz.func93 (pols := [(1, 0, .frz)]) (keep := none) (by kernel_rfl) rfl
theorem ok_bolterref05_deep : FnOk Tryz.prog 94 a_bolterref05_deep := FnOk.mk' (l := []) (fun _ h => by cases h) Tryz.func94 (pols := [(0, 0, .frz)]) (keep := none) (by kernel_rfl) rfl
theorem ok_bolterref05_own : FnOk Tryz.prog 95 a_bolterref05_own := FnOk.mk' (l := []) (fun _ h => by cases h) Tryz.func95 (pols := [(0, 0, .frz)]) (keep := none) (by kernel_rfl) rfl
theorem ok_strings_Fields : FnOk Tryz.prog 112 a_strings_Fields := FnOk.mk' (l := []) (fun _ h => by cases h) Tryz.func112 (pols := []) (keep := none) (by kernel_rfl) rfl
theorem ok_natives_table : FnOk Tryz.prog 113 a_natives_table := FnOk.mk' (l := []) (fun _ h => by cases h) Tryz.func113 (pols := [(0, 0, .res [(0,2)]),(1, 0, .res [(0,2)]),(6, 7, .frz)]) (keep := none) (by kernel_rfl) rfl
theorem ok_code_Uses : FnOk Tryz.prog 114 a_code_Uses := FnOk.mk' (l := []) (fun _ h => by cases h) Tryz.func114 (pols := []) (keep := none) (by kernel_rfl) rfl
theorem ok_value_Deep : FnOk Tryz.prog 115 a_value_Deep := FnOk.mk' (l := []) (fun _ h => by cases h) Tryz.func115 (pols := [(0, 0, .frz)]) (keep := none) (by kernel_rfl) rfl
theorem ok_value_Size : FnOk Tryz.prog 116 a_value_Size := FnOk.mk' (l := []) (fun _ h => by cases h) Tryz.func116 (pols := [(0, 0, .frz),(4, 2, .hole),(4, 3, .hole)]) (keep := none) (by kernel_rfl) rfl
theorem ok_value_all : FnOk Tryz.prog 117 a_value_all := FnOk.mk' (l := []) (fun _ h => by cases h) Tryz.func117 (pols := [(0, 0, .frz)]) (keep := none) (by kernel_rfl) rfl
theorem ok_value_own : FnOk Tryz.prog 118 a_value_own := FnOk.mk' (l := []) (fun _ h => by cases h) Tryz.func118 (pols := [(0, 0, .frz)]) (keep := none) (by kernel_rfl) rfl
theorem ok_slices_Index_int_int : FnOk Tryz.prog 119 a_slices_Index_int_int := FnOk.mk' (l := []) (fun _ h => by cases h) Tryz.func119 (pols := []) (keep := none) (by kernel_rfl) rfl
theorem ok_bolterref05_text : FnOk Tryz.prog 120 a_bolterref05_text := FnOk.mk' (l := []) (fun _ h => by cases h) Tryz.func120 (pols := []) (keep := none) (by kernel_rfl) rfl
theorem ok_bolterref02_Check : FnOk Tryz.prog 121 a_bolterref02_Check := FnOk.mk' (l := []) (fun _ h => by cases h) Tryz.func121 (pols := [(0, 0, .frz),(3, 2, .hole),(3, 3, .hole)]) (keep := none) (by kernel_rfl) rfl
theorem ok_strings_FieldsFunc : FnOk Tryz.prog 133 a_strings_FieldsFunc := FnOk.mk' (l := []) (fun _ h => by cases h) Tryz.func133 (pols := [(8, 4, .frz),(13, 5, .frz),(17, 3, .hole),(17, 5, .hole)]) (keep := none) (by kernel_rfl) rfl
theorem ok_unicode_IsSpace : FnOk Tryz.prog 134 a_unicode_IsSpace := FnOk.mk' (l := []) (fun _ h => by cases h) Tryz.func134 (pols := []) (keep := none) (by kernel_rfl) rfl
theorem ok_strings_Cut : FnOk Tryz.prog 135 a_strings_Cut := FnOk.mk' (l := []) (fun _ h => by cases h) Tryz.func135 (pols := []) (keep := none) (by kernel_rfl) rfl
theorem ok_value_deep : FnOk Tryz.prog 136 a_value_deep := FnOk.mk' (l := []) (fun _ h => by cases h) Tryz.func136 (pols := [(0, 0, .frz),(6, 2, .hole),(6, 3, .hole)]) (keep := none) (by kernel_rfl) rfl
theorem ok_value_all_1 : FnOk Tryz.prog 137 a_value_all_1 := FnOk.mk' (l := []) (fun _ h => by cases h) Tryz.func137 (pols := []) (keep := none) (by kernel_rfl) rfl
theorem ok_value_walk : FnOk Tryz.prog 138 a_value_walk := FnOk.mk' (l := []) (fun _ h => by cases h) Tryz.func138 (pols := [(0, 0, .frz)]) (keep := none) (by kernel_rfl) rfl
theorem ok_value_texts : FnOk Tryz.prog 139 a_value_texts := FnOk.mk' (l := []) (fun _ h => by cases h) Tryz.func139 (pols := [(0, 0, .frz),(5, 3, .frz)]) (keep := none) (by kernel_rfl) rfl
theorem ok_value_numbers : FnOk Tryz.prog 140 a_value_numbers := FnOk.mk' (l := []) (fun _ h => by cases h) Tryz.func140 (pols := [(0, 0, .frz)]) (keep := none) (by kernel_rfl) rfl
theorem ok_value_used : FnOk Tryz.prog 141 a_value_used := FnOk.mk' (l := []) (fun _ h => by cases h) Tryz.func141 (pols := [(0, 0, .frz)]) (keep := none) (by kernel_rfl) rfl
theorem ok_value_rises : FnOk Tryz.prog 142 a_value_rises := FnOk.mk' (l := []) (fun _ h => by cases h) Tryz.func142 (pols := []) (keep := none) (by kernel_rfl) rfl
theorem ok_bolterref04_Check : FnOk Tryz.prog 143 a_bolterref04_Check := FnOk.mk' (l := []) (fun _ h => by cases h) Tryz.func143 (pols := []) (keep := none) (by kernel_rfl) rfl
theorem ok_bolterref01_Check : FnOk Tryz.prog 144 a_bolterref01_Check := FnOk.mk' (l := []) (fun _ h => by cases h) Tryz.func144 (pols := []) (keep := none) (by kernel_rfl) rfl
theorem ok_bolterref02_Of : FnOk Tryz.prog 145 a_bolterref02_Of := FnOk.mk' (l := []) (fun _ h => by cases h) Tryz.func145 (pols := [(0, 0, .frz)]) (keep := none) (by kernel_rfl) rfl
theorem ok_unicode_isExcludingLatin : FnOk Tryz.prog 148 a_unicode_isExcludingLatin := FnOk.mk' (l := []) (fun _ h => by cases h) Tryz.func148 (pols := []) (keep := none) (by kernel_rfl) rfl
theorem ok_internal_stringslite_Cut : FnOk Tryz.prog 149 a_internal_stringslite_Cut := FnOk.mk' (l := []) (fun _ h => by cases h) Tryz.func149 (pols := []) (keep := none) (by kernel_rfl) rfl
theorem ok_slices_ContainsFunc_api_Value_api_Value : FnOk Tryz.prog 150 a_slices_ContainsFunc_api_Value_api_Value := FnOk.mk' (l := []) (fun _ h => by cases h) Tryz.func150 (pols := []) (keep := none) (by kernel_rfl) rfl
theorem ok_value_walk_1 : FnOk Tryz.prog 151 a_value_walk_1 := FnOk.mk' (l := []) (fun _ h => by cases h) Tryz.func151 (pols := [(0, 0, .frz)]) (keep := none) (by kernel_rfl) rfl
theorem ok_value_letters : FnOk Tryz.prog 152 a_value_letters := FnOk.mk' (l := []) (fun _ h => by cases h) Tryz.func152 (pols := []) (keep := none) (by kernel_rfl) rfl
theorem ok_cmp_Or_api_Errno : FnOk Tryz.prog 153 a_cmp_Or_api_Errno := FnOk.mk' (l := []) (fun _ h => by cases h) Tryz.func153 (pols := []) (keep := none) (by kernel_rfl) rfl
theorem ok_dec_Check : FnOk Tryz.prog 154 a_dec_Check := FnOk.mk' (l := []) (fun _ h => by cases h) Tryz.func154 (pols := [(0, 0, .frz)]) (keep := none) (by kernel_rfl) rfl
theorem ok_bolterref04_First : FnOk Tryz.prog 155 a_bolterref04_First := FnOk.mk' (l := []) (fun _ h => by cases h) Tryz.func155 (pols := []) (keep := none) (by kernel_rfl) rfl
theorem ok_bolterref01_Digits : FnOk Tryz.prog 156 a_bolterref01_Digits := FnOk.mk' (l := []) (fun _ h => by cases h) Tryz.func156 (pols := []) (keep := none) (by kernel_rfl) rfl
theorem ok_unicode_is16 : FnOk Tryz.prog 159 a_unicode_is16 := FnOk.mk' (l := []) (fun _ h => by cases h) Tryz.func159 (pols := []) (keep := none) (by kernel_rfl) rfl
theorem ok_unicode_is32 : FnOk Tryz.prog 160 a_unicode_is32 := FnOk.mk' (l := []) (fun _ h => by cases h) Tryz.func160 (pols := [(16, 4, .hole),(16, 5, .hole)]) (keep := none) (by kernel_rfl) rfl
theorem ok_internal_stringslite_Index : FnOk Tryz.prog 161 a_internal_stringslite_Index := FnOk.mk' (l := []) (fun _ h => by cases h) Tryz.func161 (pols := []) (keep := none) (by kernel_rfl) rfl
theorem ok_utf_Check : FnOk Tryz.prog 162 a_utf_Check := FnOk.mk' (l := []) (fun _ h => by cases h) Tryz.func162 (pols := []) (keep := none) (by kernel_rfl) rfl
theorem ok_nat_Check : FnOk Tryz.prog 163 a_nat_Check := FnOk.mk' (l := []) (fun _ h => by cases h) Tryz.func163 (pols := []) (keep := none) (by kernel_rfl) rfl
theorem ok_dec_ten : FnOk Tryz.prog 164 a_dec_ten := FnOk.mk' (l := []) (fun _ h => by cases h) Tryz.func164 (pols := []) (keep := none) (by kernel_rfl) rfl
theorem ok_dec_digits : FnOk Tryz.prog 165 a_dec_digits := FnOk.mk' (l := []) (fun _ h => by cases h) Tryz.func165 (pols := []) (keep := none) (by kernel_rfl) rfl
theorem ok_bolterref04_may : FnOk Tryz.prog 166 a_bolterref04_may := FnOk.mk' (l := []) (fun _ h => by cases h) Tryz.func166 (pols := []) (keep := none) (by kernel_rfl) rfl
theorem ok_bolterref04_Octets : FnOk Tryz.prog 167 a_bolterref04_Octets := FnOk.mk' (l := []) (fun _ h => by cases h) Tryz.func167 (pols := [(2, 2, .frz),(4, 8, .frz),(6, 13, .frz),(7, 18, .frz)]) (keep := none) (by kernel_rfl) rfl
end Go.AM.T
/- The functions of the abstract machine are the program's. -/
namespace Go.AM.T
open Go.Proofs
theorem ok_bolterref01_times : FnOk Tryz.prog 168 a_bolterref01_times := FnOk.mk' (l := []) (fun _ h => by cases h) Tryz.func168 (pols := [(0, 0, .res [(0,1)]),(1, 0, .res [(0,1)]),(6, 3, .frz),(9, 3, .frz)]) (keep := none) (by kernel_rfl) rfl
theorem ok_internal_stringslite_IndexByte : FnOk Tryz.prog 169 a_internal_stringslite_IndexByte := FnOk.mk' (l := []) (fun _ h => by cases h) Tryz.func169 (pols := []) (keep := none) (by kernel_rfl) rfl
theorem ok_internal_bytealg_Cutover : FnOk Tryz.prog 171 a_internal_bytealg_Cutover := FnOk.mk' (l := []) (fun _ h => by cases h) Tryz.func171 (pols := []) (keep := none) (by kernel_rfl) rfl
theorem ok_internal_bytealg_IndexRabinKarp_string : FnOk Tryz.prog 172 a_internal_bytealg_IndexRabinKarp_string := FnOk.mk' (l := []) (fun _ h => by cases h) Tryz.func172 (pols := []) (keep := none) (by kernel_rfl) rfl
theorem ok_utf_runes : FnOk Tryz.prog 173 a_utf_runes := FnOk.mk' (l := []) (fun _ h => by cases h) Tryz.func173 (pols := [(0, 0, .frz)]) (keep := none) (by kernel_rfl) rfl
theorem ok_nat_Div : FnOk Tryz.prog 174 a_nat_Div := FnOk.mk' (l := []) (fun _ h => by cases h) Tryz.func174 (pols := []) (keep := none) (by kernel_rfl) rfl
theorem ok_nat_From : FnOk Tryz.prog 175 a_nat_From := FnOk.mk' (l := []) (fun _ h => by cases h) Tryz.func175 (pols := [(1, 5, .frz)]) (keep := none) (by kernel_rfl) rfl
theorem ok_nat_Print : FnOk Tryz.prog 176 a_nat_Print := FnOk.mk' (l := []) (fun _ h => by cases h) Tryz.func176 (pols := [(4, 0, .res [(0,1)]),(11, 5, .frz)]) (keep := none) (by kernel_rfl) rfl
theorem ok_internal_bytealg_hashStr_string : FnOk Tryz.prog 178 a_internal_bytealg_hashStr_string := FnOk.mk' (l := []) (fun _ h => by cases h) Tryz.func178 (pols := []) (keep := none) (by kernel_rfl) rfl
theorem ok_utf_runes_1 : FnOk Tryz.prog 179 a_utf_runes_1 := FnOk.mk' (l := []) (fun _ h => by cases h) Tryz.func179 (pols := []) (keep := none) (by kernel_rfl) rfl
theorem ok_unicode_utf8_DecodeRuneInString : FnOk Tryz.prog 180 a_unicode_utf8_DecodeRuneInString := FnOk.mk' (l := []) (fun _ h => by cases h) Tryz.func180 (pols := []) (keep := none) (by kernel_rfl) rfl
theorem ok_nat_two : FnOk Tryz.prog 181 a_nat_two := FnOk.mk' (l := []) (fun _ h => by cases h) Tryz.func181 (pols := [(1, 4, .frz)]) (keep := none) (by kernel_rfl) rfl
theorem ok_nat_num_div : FnOk Tryz.prog 182 a_nat_num_div := FnOk.mk' (l := []) (fun _ h => by cases h) Tryz.func182 (pols := [(5, 2, .frz),(7, 7, .hole),(7, 9, .hole),(7, 8, .hole),(7, 10, .hole),(8, 2, .hole),(8, 3, .hole),(9, 6, .res []),(9, 5, .hole)]) (keep := none) (by kernel_rfl) rfl
theorem ok_nat_num_trim : FnOk Tryz.prog 183 a_nat_num_trim := FnOk.mk' (l := []) (fun _ h => by cases h) Tryz.func183 (pols := []) (keep := none) (by kernel_rfl) rfl
theorem ok_nat_num_small : FnOk Tryz.prog 184 a_nat_num_small := FnOk.mk' (l := []) (fun _ h => by cases h) Tryz.func184 (pols := [(0, 0, .frz),(0, 1, .frz),(1, 4, .res []),(1, 3, .hole)]) (keep := none) (by kernel_rfl) rfl
theorem ok_slices_Reverse_byte_byte : FnOk Tryz.prog 185 a_slices_Reverse_byte_byte := FnOk.mk' (l := []) (fun _ h => by cases h) Tryz.func185 (pols := []) (keep := none) (by kernel_rfl) rfl
theorem ok_unicode_utf8_decodeRuneInStringSlow : FnOk Tryz.prog 186 a_unicode_utf8_decodeRuneInStringSlow := FnOk.mk' (l := []) (fun _ h => by cases h) Tryz.func186 (pols := [(10, 4, .hole),(10, 5, .hole)]) (keep := none) (by kernel_rfl) rfl
theorem ok_nat_num_compare : FnOk Tryz.prog 187 a_nat_num_compare := FnOk.mk' (l := []) (fun _ h => by cases h) Tryz.func187 (pols := [(0, 0, .frz),(0, 1, .frz)]) (keep := none) (by kernel_rfl) rfl
theorem ok_slices_Clone_nat_num_uint32 : FnOk Tryz.prog 188 a_slices_Clone_nat_num_uint32 := FnOk.mk' (l := []) (fun _ h => by cases h) Tryz.func188 (pols := [(0, 0, .res [(0,1)]),(2, 0, .res [(0,1)])]) (keep := some 0) (by kernel_rfl) rfl
theorem ok_math_bits_LeadingZeros32 : FnOk Tryz.prog 189 a_math_bits_LeadingZeros32 := FnOk.mk' (l := []) (fun _ h => by cases h) Tryz.func189 (pols := []) (keep := none) (by kernel_rfl) rfl
theorem ok_nat_num_left : FnOk Tryz.prog 190 a_nat_num_left := FnOk.mk' (l := []) (fun _ h => by cases h) Tryz.func190 (pols := [(0, 0, .res [(0,1)]),(6, 6, .frz),(9, 2, .frz)]) (keep := none) (by kernel_rfl) rfl
theorem ok_slices_Backward_nat_num_uint32 : FnOk Tryz.prog 191 a_slices_Backward_nat_num_uint32 := FnOk.mk' (l := []) (fun _ h => by cases h) Tryz.func191 (pols := [(0, 0, .frz)]) (keep := none) (by kernel_rfl) rfl
theorem ok_nat_guess : FnOk Tryz.prog 192 a_nat_guess := FnOk.mk' (l := []) (fun _ h => by cases h) Tryz.func192 (pols := []) (keep := none) (by kernel_rfl) rfl
theorem ok_nat_takeOff : FnOk Tryz.prog 193 a_nat_takeOff := FnOk.mk' (l := []) (fun _ h => by cases h) Tryz.func193 (pols := []) (keep := none) (by kernel_rfl) rfl
theorem ok_nat_putBack : FnOk Tryz.prog 194 a_nat_putBack := FnOk.mk' (l := []) (fun _ h => by cases h) Tryz.func194 (pols := []) (keep := none) (by kernel_rfl) rfl
theorem ok_nat_num_right : FnOk Tryz.prog 195 a_nat_num_right := FnOk.mk' (l := []) (fun _ h => by cases h) Tryz.func195 (pols := []) (keep := none) (by kernel_rfl) rfl
theorem ok_math_bits_Div32 : FnOk Tryz.prog 196 a_math_bits_Div32 := FnOk.mk' (l := []) (fun _ h => by cases h) Tryz.func196 (pols := []) (keep := none) (by kernel_rfl) rfl
theorem ok_cmp_Compare_int : FnOk Tryz.prog 197 a_cmp_Compare_int := FnOk.mk' (l := []) (fun _ h => by cases h) Tryz.func197 (pols := []) (keep := none) (by kernel_rfl) rfl
theorem ok_cmp_Compare_uint32 : FnOk Tryz.prog 198 a_cmp_Compare_uint32 := FnOk.mk' (l := []) (fun _ h => by cases h) Tryz.func198 (pols := []) (keep := none) (by kernel_rfl) rfl
theorem ok_math_bits_Len32 : FnOk Tryz.prog 199 a_math_bits_Len32 := FnOk.mk' (l := []) (fun _ h => by cases h) Tryz.func199 (pols := []) (keep := none) (by kernel_rfl) rfl
theorem ok_slices_Backward_nat_num_uint32_1 : FnOk Tryz.prog 200 a_slices_Backward_nat_num_uint32_1 := FnOk.mk' (l := []) (fun _ h => by cases h) Tryz.func200 (pols := []) (keep := none) (by kernel_rfl) rfl
theorem ok_math_bits_Sub32 : FnOk Tryz.prog 201 a_math_bits_Sub32 := FnOk.mk' (l := []) (fun _ h => by cases h) Tryz.func201 (pols := []) (keep := none) (by kernel_rfl) rfl
theorem ok_math_bits_Add32 : FnOk Tryz.prog 202 a_math_bits_Add32 := FnOk.mk' (l := []) (fun _ h => by cases h) Tryz.func202 (pols := []) (keep := none) (by kernel_rfl) rfl
theorem ok_cmp_isNaN_int : FnOk Tryz.prog 203 a_cmp_isNaN_int := FnOk.mk' (l := []) (fun _ h => by cases h) Tryz.func203 (pols := []) (keep := none) (by kernel_rfl) rfl
theorem ok_cmp_isNaN_uint32 : FnOk Tryz.prog 204 a_cmp_isNaN_uint32 := FnOk.mk' (l := []) (fun _ h => by cases h) Tryz.func204 (pols := []) (keep := none) (by kernel_rfl) rfl
end Go.AM.T
