/- Values: depth, size, plain checks. -/
import Derived.Test.YtjcnlakifipmgaaGreatDoorFun
import Derived.Test.YtjcnlakifipmgaaGreatDoorSpec
set_option linter.unusedVariables false
set_option linter.unusedSimpArgs false
set_option linter.unnecessarySimpa false
set_option maxRecDepth 100000
namespace Go.AM.T
section
variable {X : Ctx}
attribute [local simp] YC_bool YS_seq YS_block YS_skip YS_ret YS_exit YS_reg YS_cond YX_seqN YX_seqR YX_seqE YX_blkN YX_blkR YX_blkE YX_lpR YX_lpE YX_lpN YX_nil YO_nil YO_cons Y1_some Y1_none Y1_ite YC_true YC_false YS_dregI statM rIdx allLt allGe AOp.isR AOp.isE AOp.isL YM_nil YM_cons YM1_some YM1_R YM1_ite YZ_nil YZ_cons YZ1_some YZ1_ite strip runOp_n runOp_g gdD_bool gdD_tup gd_tt gd_ff gd_tf gd_ft gd_some gD_tt gD_ff gD_tf gD_ft gD_in pkD_t pkD_f pkD_gt pkD_gf pkD_and pkD_or gdD_gD lenK_str lenK_nil lenK_esl lenK_fsl lenK_osl lenK_SL iaddrK_fsl iaddrK_osl iaddrK_SL okD_ite okD_SL under_SL one_SL cells_SL evalA evalAs evalO evalPs putO Env.put_get loadD_one cells_agg under_agg under_ptr under_osl under_rptr under_mp under_yield under_func under_tup unders_nil unders_cons ones_nil ones_cons j bindO_some bindO_none optK_some optK_ite optH_some pickK_b cellsAt_fptr cellsAt_ptr cellsAt_rptr faddrK_fptr faddrK_ptr faddrK_rptr nilchkK_fptr nilchkK_ptr nilchkK_rptr eqBK_b eqPK_some convIK_int convSBK_str convISK_int sliceSK_str fieldK_agg indexSK_str extractK_tup iaddrAK_fptr iaddrAK_ptr appendSK_str mslK_int boxFK_ok boxRK_some allocK_some reserve_nil fillD_nil fillD_cons storeD_ptr storeD_rptr maxD_nil maxD_cons minD_nil minD_cons k_fill k_fillB mgetK_mp msetK_mp k_dfrop k_eqA eqKs_i eqKs_s bin_add bin_sub bin_mul bin_quo bin_rem bin_eql bin_neq bin_lss bin_leq bin_gtr bin_geq bin_shl bin_shr bin_sadd bin_seql bin_sneq bin_slss bin_sleq un_not un_neg mapO_ints mapO_strs mapO_bools unders_ints unders_strs unders_bools ones_ints ones_strs ones_bools mapO_intsT unders_intsT ones_intsT mapO_nats unders_nats ones_nats add_lt boxO_box rowO_row rowE_row optH_ite bindO_ite getH getH0 setH setH0 takeH storable_i storable_b storable_s storable_SL splice bin_and bin_or bin_xor bin_andNot Int.natCast_inj Int.ofNat_lt Int.ofNat_le step_mov step_len step_iaddr k_pick k_load k_faddr k_nilchk k_bin k_un k_eqB k_eqP k_eqS k_convI k_convSB k_convIS k_convBS k_sliceS k_sliceL k_field k_indexS k_extract k_iaddrA k_append k_appendS k_msl k_boxF k_boxB k_allocB k_build k_bslF k_bslR k_store k_resv k_maxs k_mins k_hole k_call k_mkf k_mkmap k_mget k_mset one_bool one_int one_str one_nilp one_nilsl one_nilf one_esl one_fptr one_fsl one_ptr one_rptr one_osl one_func one_yield one_mp cells_bool cells_int cells_str cells_nilp cells_nilsl cells_nilf cells_esl cells_fptr cells_fsl cells_ptr cells_rptr cells_osl cells_func cells_yield cells_mp under_bool under_int under_str under_nilp under_nilsl under_nilf under_esl under_fptr under_fsl okD_bool okD_int okD_str okD_nilp okD_nilsl okD_nilf okD_esl okD_fptr okD_fsl okD_ptr okD_rptr okD_osl okD_func okD_yield okD_mp okD_agg okD_tup okD_sym Code.load Code.load0 Code.take Code.cells_length Code.unders Code.ones Code.fz Code.l_instrs Code.m_instrs Code.l_consts Code.m_consts Code.t_consts Instr.load Instr.load0 Instr.take Instr.cells_length Instr.unders Instr.ones Instr.fz Instr.l_op Instr.m_op Instr.l_a Instr.m_a Instr.t_a Instr.l_b Instr.m_b Val.load Val.load0 Val.take Val.cells_length Val.unders Val.ones Val.fz Val.l_kind Val.m_kind Val.l_num Val.m_num Val.t_num Val.t_num_neg Val.l_num_neg Val.m_num_neg Val.l_num_coef Val.m_num_coef Val.l_num_exp Val.m_num_exp Val.l_text Val.m_text Val.l_list Val.m_list Val.l_keys Val.m_keys Dec.load Dec.load0 Dec.take Dec.cells_length Dec.unders Dec.ones Dec.fz Dec.l_neg Dec.m_neg Dec.l_coef Dec.m_coef Dec.t_coef Dec.l_exp Dec.m_exp
attribute [local congr] gd_congr

theorem code_in (hX : CX X) (a b : Int) (H : Heap) : callΩ X (.func n_code_in [] []) [.int .i64 a, .int .i64 b] H = some (.bool (decide (0 ≤ a ∧ a ≤ b)), H) := by
  refine c_code_in hX (by simp) ?_
  by_cases h : 0 ≤ a <;>
    simp [a_code_in_B, Env.ofArgs, List.nil_append, List.append_nil, h, FinR, FinP, finish, takesA, readRes, finishP, mapO, fz_SL, fz_agg, fz_ptr, fz_osl, fz_yield, fz_mp, fz_func, pack, fz_bool, fz_int, fz_str, fz_nilp, fz_nilsl, fz_nilf, fz_esl, fz_fptr, fz_fsl]
theorem wrap_succ {k n : Nat} (h : k < n) (hn : (n : Int) ≤ 9223372036854775807) : IntKind.i64.wrap ((k : Int) + 1) = ((k + 1 : Nat) : Int) := by
  rw [wrap_i64 (by omega) (by omega)]; omega
theorem wrap_nat {k : Nat} (h : k ≤ 9223372036854775807) : IntKind.i64.wrap (k : Int) = k := wrap_i64 (by omega) (by omega)
theorem deepL_drop {left : Nat} {l : List Val} {k : Nat} (h : k < l.length) : deepL left (l.drop k) = max (deepS left l[k]) (deepL left (l.drop (k + 1))) := by
  rw [List.drop_eq_getElem_cons h, deepL]

theorem value_deep (hX : CX X) (H : Heap) : ∀ (v : Val), v.wf → ∀ (left : Nat), left ≤ 1000 → callΩ X (.func n_value_deep [] []) [.agg v.cells, .int .i64 left] H = some (.int .i64 (deepS left v), H) := by
  intro v
  induction v using Val.ind with
  | h v ihv =>
  intro hw left hl
  rw [Val.wf_iff] at hw
  obtain ⟨hw1, hw2, hw3, hw4, hw5, hw6⟩ := hw
  refine c_value_deep hX (by simp) ?_
  rw [deepS_eq]
  by_cases hk : (v.kind ≠ 5 ∧ v.kind ≠ 6) ∨ left = 0
  · rw [if_pos hk]
    simp +contextual -implicitDefEqProofs [a_value_deep_B, Env.ofArgs, List.nil_append, List.append_nil, FinR, FinP, finish, takesA, readRes, finishP, mapO, fz_SL, fz_agg, fz_ptr, fz_osl, fz_yield, fz_mp, fz_func, pack, fz_bool, fz_int, fz_str, fz_nilp, fz_nilsl, fz_nilf, fz_esl, fz_fptr, fz_fsl]
    omega
  · rw [if_neg hk]
    simp only [not_or, not_and, ne_eq, Decidable.not_not] at hk
    obtain ⟨hk1, hk2⟩ := hk
    have h5 : IntKind.i64.wrap ((left : Int) - 1) = ((left - 1 : Nat) : Int) := by rw [wrap_i64 (by omega) (by omega)]; omega
    have h6 : deepL (left - 1) v.list < 1000 := by
      have := (deepS_le left v).1
      rw [deepS_eq, if_neg (by simp only [not_or, not_and, ne_eq, Decidable.not_not]; exact ⟨hk1, hk2⟩)] at this
      omega
    have h7 : IntKind.i64.wrap ((deepL (left - 1) v.list : Int) + 1) = ((deepL (left - 1) v.list + 1 : Nat) : Int) := by rw [wrap_i64 (by omega) (by omega)]; omega
    have hkk : (!decide (v.kind = 5) && !decide (v.kind = 6)) = false := by by_cases k5 : v.kind = 5 <;> simp_all
    simp +contextual -implicitDefEqProofs [a_value_deep_B, Env.ofArgs, List.nil_append, List.append_nil, hk2]
    refine ⟨fun h => by simp_all, fun h => ?_⟩
    refine YS_ind (fun (k : Nat × Nat) e H' => H' = H ∧ k.1 ≤ v.list.length ∧ k.2 ≤ left - 1 ∧ e.get 1 = .int .i64 left ∧ e.get 5 = .int .i64 k.2 ∧ e.get 21 = SL v.listF (Val.cellsL v.list) v.list.length ∧ e.get 22 = .int .i64 v.list.length ∧ e.get 23 = .int .i64 k.1 ∧ deepL (left - 1) v.list = max k.2 (deepL (left - 1) (v.list.drop k.1))) (fun k => v.list.length - k.1) ?_ (0, 0) (by simp)
    rintro ⟨k, m⟩ e H' ⟨rfl, hk, hm, h1, h5', h21, h22, h23, hd⟩ L ih
    simp only at *
    by_cases h : k < v.list.length
    · have hc := ihv v.list[k] (by simp) (hw6 _ (by simp)) (left - 1) (by omega)
      have hle := (deepS_le (left - 1) v.list[k]).1
      rw [deepL_drop h] at hd
      simp [a_value_deep_L0, h1, h5', h21, h22, h23, h, Val.cellsL_drop h, h5, hc, wrap_succ h hw3]
      refine ih (k + 1, max m (deepS (left - 1) v.list[k])) _ _ (by simp; omega) ?_
      simp [h1, h21, h22]
      omega
    · obtain rfl : k = v.list.length := by omega
      simp [a_value_deep_L0, h1, h5', h21, h22, h23]
      simp [deepL] at hd
      simp [FinR, FinP, finish, takesA, readRes, finishP, mapO, fz_SL, fz_agg, fz_ptr, fz_osl, fz_yield, fz_mp, fz_func, pack, fz_bool, fz_int, fz_str, fz_nilp, fz_nilsl, fz_nilf, fz_esl, fz_fptr, fz_fsl, ← hd, h7]

theorem ref_deep (hX : CX X) (H : Heap) : ∀ (v : Val), v.wf → ∀ (left : Nat), left ≤ 1000 → callΩ X (.func n_bolterref05_deep [] []) [.agg v.cells, .int .i64 left] H = some (.int .i64 (deepS left v), H) := by
  intro v
  induction v using Val.ind with
  | h v ihv =>
  intro hw left hl
  rw [Val.wf_iff] at hw
  obtain ⟨hw1, hw2, hw3, hw4, hw5, hw6⟩ := hw
  refine c_bolterref05_deep hX (by simp) ?_
  rw [deepS_eq]
  by_cases hk : (v.kind ≠ 5 ∧ v.kind ≠ 6) ∨ left = 0
  · rw [if_pos hk]
    simp +contextual -implicitDefEqProofs [a_bolterref05_deep_B, Env.ofArgs, List.nil_append, List.append_nil, FinR, FinP, finish, takesA, readRes, finishP, mapO, fz_SL, fz_agg, fz_ptr, fz_osl, fz_yield, fz_mp, fz_func, pack, fz_bool, fz_int, fz_str, fz_nilp, fz_nilsl, fz_nilf, fz_esl, fz_fptr, fz_fsl]
    omega
  · rw [if_neg hk]
    simp only [not_or, not_and, ne_eq, Decidable.not_not] at hk
    obtain ⟨hk1, hk2⟩ := hk
    have h5 : IntKind.i64.wrap ((left : Int) - 1) = ((left - 1 : Nat) : Int) := by rw [wrap_i64 (by omega) (by omega)]; omega
    have h6 : deepL (left - 1) v.list < 1000 := by
      have := (deepS_le left v).1
      rw [deepS_eq, if_neg (by simp only [not_or, not_and, ne_eq, Decidable.not_not]; exact ⟨hk1, hk2⟩)] at this
      omega
    have h7 : IntKind.i64.wrap (1 + (deepL (left - 1) v.list : Int)) = ((deepL (left - 1) v.list + 1 : Nat) : Int) := by rw [wrap_i64 (by omega) (by omega)]; omega
    have hkk : (!decide (v.kind = 5) && !decide (v.kind = 6)) = false := by by_cases k5 : v.kind = 5 <;> simp_all
    simp +contextual -implicitDefEqProofs [a_bolterref05_deep_B, Env.ofArgs, List.nil_append, List.append_nil, hk2]
    refine ⟨fun h => by simp_all, fun h => ?_⟩
    refine YS_ind (fun (k : Nat × Nat) e H' => H' = H ∧ k.1 ≤ v.list.length ∧ k.2 ≤ left - 1 ∧ e.get 1 = .int .i64 left ∧ e.get 5 = .int .i64 k.2 ∧ e.get 2 = .fptr v.cells ∧ e.get 6 = .int .i64 k.1 ∧ deepL (left - 1) v.list = max k.2 (deepL (left - 1) (v.list.drop k.1))) (fun k => v.list.length - k.1) ?_ (0, 0) (by simp)
    rintro ⟨k, m⟩ e H' ⟨rfl, hk, hm, h1, h5', h2, h6', hd⟩ L ih
    simp only at *
    by_cases h : k < v.list.length
    · have hc := ihv v.list[k] (by simp) (hw6 _ (by simp)) (left - 1) (by omega)
      have hle := (deepS_le (left - 1) v.list[k]).1
      rw [deepL_drop h] at hd
      simp [a_bolterref05_deep_L0, h1, h5', h2, h6', h, Val.cellsL_drop h, h5, hc, wrap_succ h hw3]
      refine ih (k + 1, max m (deepS (left - 1) v.list[k])) _ _ (by simp; omega) ?_
      simp [h1, h2]
      omega
    · obtain rfl : k = v.list.length := by omega
      simp [a_bolterref05_deep_L0, h1, h5', h2, h6']
      simp [deepL] at hd
      simp [FinR, FinP, finish, takesA, readRes, finishP, mapO, fz_SL, fz_agg, fz_ptr, fz_osl, fz_yield, fz_mp, fz_func, pack, fz_bool, fz_int, fz_str, fz_nilp, fz_nilsl, fz_nilf, fz_esl, fz_fptr, fz_fsl, ← hd, h7]

theorem value_Deep (hX : CX X) (H : Heap) (v : Val) (hw : v.wf) : callΩ X (.func n_value_Deep [] []) [.agg v.cells] H = some (.int .i64 (deepS 1000 v), H) := by
  refine c_value_Deep hX (by simp) ?_
  have := value_deep hX H v hw 1000 (by omega)
  simp at this
  simp [a_value_Deep_B, Env.ofArgs, List.nil_append, List.append_nil, FinR, FinP, finish, takesA, readRes, finishP, mapO, fz_SL, fz_agg, fz_ptr, fz_osl, fz_yield, fz_mp, fz_func, pack, fz_bool, fz_int, fz_str, fz_nilp, fz_nilsl, fz_nilf, fz_esl, fz_fptr, fz_fsl, this]
theorem ref_Deep (hX : CX X) (H : Heap) (v : Val) (hw : v.wf) : callΩ X (.func n_bolterref05_Deep [] []) [.agg v.cells] H = some (.int .i64 (deepS 1000 v), H) := by
  refine c_bolterref05_Deep hX (by simp) ?_
  have := ref_deep hX H v hw 1000 (by omega)
  simp at this
  simp [a_bolterref05_Deep_B, Env.ofArgs, List.nil_append, List.append_nil, FinR, FinP, finish, takesA, readRes, finishP, mapO, fz_SL, fz_agg, fz_ptr, fz_osl, fz_yield, fz_mp, fz_func, pack, fz_bool, fz_int, fz_str, fz_nilp, fz_nilsl, fz_nilf, fz_esl, fz_fptr, fz_fsl, this]

theorem sizeL_drop {n : Nat} {l : List Val} {k : Nat} (h : k < l.length) : sizeL n (l.drop k) = if 1048576 ≤ n then n else sizeL (n + sizeS l[k]) (l.drop (k + 1)) := by
  rw [List.drop_eq_getElem_cons h, sizeL]
theorem value_Size (hX : CX X) (H : Heap) : ∀ (v : Val), v.wf → callΩ X (.func n_value_Size [] []) [.agg v.cells] H = some (.int .i64 (sizeS v), H) := by
  intro v
  induction v using Val.ind with
  | h v ihv =>
  intro hw
  rw [Val.wf_iff] at hw
  obtain ⟨hw1, hw2, hw3, hw4, hw5, hw6⟩ := hw
  refine c_value_Size hX (by simp) ?_
  rw [sizeS_eq]
  simp [a_value_Size_B, Env.ofArgs, List.nil_append, List.append_nil]
  refine YS_ind (fun (k : Nat × Nat) e H' => H' = H ∧ k.1 ≤ v.list.length ∧ k.2 ≤ 2097152 ∧ e.get 3 = .int .i64 k.2 ∧ e.get 7 = SL v.listF (Val.cellsL v.list) v.list.length ∧ e.get 8 = .int .i64 v.list.length ∧ e.get 9 = .int .i64 k.1 ∧ sizeL 1 v.list = sizeL k.2 (v.list.drop k.1)) (fun k => v.list.length - k.1) ?_ (0, 1) (by simp)
  rintro ⟨k, m⟩ e H' ⟨rfl, hk, hm, h1, h2, h3, h4, hd⟩ L ih
  simp only at *
  by_cases h : k < v.list.length
  · have hc := ihv v.list[k] (by simp) (hw6 _ (by simp))
    have hle := sizeS_le v.list[k]
    rw [sizeL_drop h] at hd
    by_cases hm' : 1048576 ≤ m
    · rw [if_pos hm'] at hd
      have hm2 : (1048576 : Int) ≤ m := by omega
      simp [a_value_Size_L0, h1, h2, h3, h4, h, Val.cellsL_drop h, hm2, FinR, FinP, finish, takesA, readRes, finishP, mapO, fz_SL, fz_agg, fz_ptr, fz_osl, fz_yield, fz_mp, fz_func, pack, fz_bool, fz_int, fz_str, fz_nilp, fz_nilsl, fz_nilf, fz_esl, fz_fptr, fz_fsl, hd]
      omega
    · rw [if_neg hm'] at hd
      have hm2 : ¬ (1048576 : Int) ≤ m := by omega
      have hw' : IntKind.i64.wrap ((m : Int) + (sizeS v.list[k] : Int)) = ((m + sizeS v.list[k] : Nat) : Int) := by rw [wrap_i64 (by omega) (by omega)]; omega
      simp [a_value_Size_L0, h1, h2, h3, h4, h, Val.cellsL_drop h, hm2, hc, wrap_succ h hw3, hw']
      refine ih (k + 1, m + sizeS v.list[k]) _ _ (by simp; omega) ?_
      simp [h1, h2, h3, hd]
      omega
  · obtain rfl : k = v.list.length := by omega
    simp [sizeL] at hd
    simp [a_value_Size_L0, h1, h2, h3, h4, FinR, FinP, finish, takesA, readRes, finishP, mapO, fz_SL, fz_agg, fz_ptr, fz_osl, fz_yield, fz_mp, fz_func, pack, fz_bool, fz_int, fz_str, fz_nilp, fz_nilsl, fz_nilf, fz_esl, fz_fptr, fz_fsl, hd]
    omega
theorem ref_Size (hX : CX X) (H : Heap) : ∀ (v : Val), v.wf → callΩ X (.func n_bolterref05_Size [] []) [.agg v.cells] H = some (.int .i64 (sizeS v), H) := by
  intro v
  induction v using Val.ind with
  | h v ihv =>
  intro hw
  rw [Val.wf_iff] at hw
  obtain ⟨hw1, hw2, hw3, hw4, hw5, hw6⟩ := hw
  refine c_bolterref05_Size hX (by simp) ?_
  rw [sizeS_eq]
  simp [a_bolterref05_Size_B, Env.ofArgs, List.nil_append, List.append_nil]
  refine YS_ind (fun (k : Nat × Nat) e H' => H' = H ∧ k.1 ≤ v.list.length ∧ k.2 ≤ 2097152 ∧ e.get 3 = .int .i64 k.2 ∧ e.get 1 = .fptr v.cells ∧ e.get 4 = .int .i64 k.1 ∧ sizeL 1 v.list = sizeL k.2 (v.list.drop k.1)) (fun k => v.list.length - k.1) ?_ (0, 1) (by simp)
  rintro ⟨k, m⟩ e H' ⟨rfl, hk, hm, h1, h2, h4, hd⟩ L ih
  simp only at *
  by_cases h : k < v.list.length
  · have hc := ihv v.list[k] (by simp) (hw6 _ (by simp))
    have hle := sizeS_le v.list[k]
    rw [sizeL_drop h] at hd
    by_cases hm' : 1048576 ≤ m
    · rw [if_pos hm'] at hd
      have hm2 : ¬ (m : Int) < 1048576 := by omega
      simp [a_bolterref05_Size_L0, h1, h2, h4, h, Val.cellsL_drop h, hm2, FinR, FinP, finish, takesA, readRes, finishP, mapO, fz_SL, fz_agg, fz_ptr, fz_osl, fz_yield, fz_mp, fz_func, pack, fz_bool, fz_int, fz_str, fz_nilp, fz_nilsl, fz_nilf, fz_esl, fz_fptr, fz_fsl, hd]
      omega
    · rw [if_neg hm'] at hd
      have hm2 : (m : Int) < 1048576 := by omega
      have hw' : IntKind.i64.wrap ((m : Int) + (sizeS v.list[k] : Int)) = ((m + sizeS v.list[k] : Nat) : Int) := by rw [wrap_i64 (by omega) (by omega)]; omega
      simp [a_bolterref05_Size_L0, h1, h2, h4, h, Val.cellsL_drop h, hm2, hc, wrap_succ h hw3, hw']
      refine ih (k + 1, m + sizeS v.list[k]) _ _ (by simp; omega) ?_
      simp [h1, h2, hd]
      omega
  · obtain rfl : k = v.list.length := by omega
    simp [sizeL] at hd
    simp [a_bolterref05_Size_L0, h1, h2, h4, FinR, FinP, finish, takesA, readRes, finishP, mapO, fz_SL, fz_agg, fz_ptr, fz_osl, fz_yield, fz_mp, fz_func, pack, fz_bool, fz_int, fz_str, fz_nilp, fz_nilsl, fz_nilf, fz_esl, fz_fptr, fz_fsl, hd]
    omega
theorem value_used (hX : CX X) (H : Heap) (v : Val) : callΩ X (.func n_value_used [] []) [.agg v.cells] H = some (.bool (usedS v), H) := by
  refine c_value_used hX (by simp) ?_
  by_cases h6 : v.kind = 6
  · simp +contextual -implicitDefEqProofs [a_value_used_B, Env.ofArgs, List.nil_append, List.append_nil, FinR, FinP, finish, takesA, readRes, finishP, mapO, fz_SL, fz_agg, fz_ptr, fz_osl, fz_yield, fz_mp, fz_func, pack, fz_bool, fz_int, fz_str, fz_nilp, fz_nilsl, fz_nilf, fz_esl, fz_fptr, fz_fsl, h6, usedS, Bool.and_assoc]
  · simp +contextual -implicitDefEqProofs [a_value_used_B, Env.ofArgs, List.nil_append, List.append_nil, FinR, FinP, finish, takesA, readRes, finishP, mapO, fz_SL, fz_agg, fz_ptr, fz_osl, fz_yield, fz_mp, fz_func, pack, fz_bool, fz_int, fz_str, fz_nilp, fz_nilsl, fz_nilf, fz_esl, fz_fptr, fz_fsl, h6, usedS, Bool.and_assoc]

theorem value_numbers (hX : CX X) (H : Heap) (v : Val) (hd : callΩ X (.func n_dec_Check [] []) [.agg v.num.cells] H = some (.int .i64 (decE v.num), H)) : callΩ X (.func n_value_numbers [] []) [.agg v.cells] H = some (.bool (numsS v), H) := by
  refine c_value_numbers hX (by simp) ?_
  by_cases h3 : v.kind = 3
  · simp +contextual -implicitDefEqProofs [a_value_numbers_B, Env.ofArgs, List.nil_append, List.append_nil, FinR, FinP, finish, takesA, readRes, finishP, mapO, fz_SL, fz_agg, fz_ptr, fz_osl, fz_yield, fz_mp, fz_func, pack, fz_bool, fz_int, fz_str, fz_nilp, fz_nilsl, fz_nilf, fz_esl, fz_fptr, fz_fsl, h3, hd, numsS]
  · simp +contextual -implicitDefEqProofs [a_value_numbers_B, Env.ofArgs, List.nil_append, List.append_nil, FinR, FinP, finish, takesA, readRes, finishP, mapO, fz_SL, fz_agg, fz_ptr, fz_osl, fz_yield, fz_mp, fz_func, pack, fz_bool, fz_int, fz_str, fz_nilp, fz_nilsl, fz_nilf, fz_esl, fz_fptr, fz_fsl, h3, numsS]

def orL : List Int → Int
  | [] => 0
  | x :: r => if x ≠ 0 then x else orL r
theorem cmp_Or (hX : CX X) (H : Heap) (l : List Int) (hl : (l.length : Int) ≤ 9223372036854775807) : callΩ X (.func n_cmp_Or_api_Errno [] []) [.fsl (l.map (D.int .i64)) l.length] H = some (.int .i64 (orL l), H) := by
  refine c_cmp_Or_api_Errno hX (by simp) ?_
  simp [a_cmp_Or_api_Errno_B, Env.ofArgs, List.nil_append, List.append_nil]
  refine YS_ind (fun k e H' => H' = H ∧ k ≤ l.length ∧ e.get 3 = .int .i64 0 ∧ e.get 6 = .fsl (l.map (D.int .i64)) l.length ∧ e.get 7 = .int .i64 l.length ∧ e.get 8 = .int .i64 k ∧ orL l = orL (l.drop k)) (fun k => l.length - k) ?_ 0 (by simp)
  rintro k e H' ⟨rfl, hk, h3, h6, h7, h8, hd⟩ L ih
  by_cases h : k < l.length
  · rw [List.drop_eq_getElem_cons h, orL] at hd
    by_cases hz : l[k] = 0
    · simp [hz] at hd
      simp [a_cmp_Or_api_Errno_L0, h3, h6, h7, h8, h, loadD_map h, hz, wrap_succ h hl]
      refine ih (k + 1) _ _ (by omega) ?_
      simp [h3, h6, h7, hd]
      omega
    · simp [hz] at hd
      simp [a_cmp_Or_api_Errno_L0, h3, h6, h7, h8, h, loadD_map h, hz, FinR, FinP, finish, takesA, readRes, finishP, mapO, fz_SL, fz_agg, fz_ptr, fz_osl, fz_yield, fz_mp, fz_func, pack, fz_bool, fz_int, fz_str, fz_nilp, fz_nilsl, fz_nilf, fz_esl, fz_fptr, fz_fsl, hd]
  · obtain rfl : k = l.length := by omega
    simp [orL] at hd
    simp [a_cmp_Or_api_Errno_L0, h3, h6, h7, h8, FinR, FinP, finish, takesA, readRes, finishP, mapO, fz_SL, fz_agg, fz_ptr, fz_osl, fz_yield, fz_mp, fz_func, pack, fz_bool, fz_int, fz_str, fz_nilp, fz_nilsl, fz_nilf, fz_esl, fz_fptr, fz_fsl, hd]
theorem cmp_Or2 (hX : CX X) (H : Heap) (a b : Int) : callΩ X (.func n_cmp_Or_api_Errno [] []) [.fsl [.int .i64 a, .int .i64 b] 2] H = some (.int .i64 (orE a b), H) := by
  have := cmp_Or hX H [a, b] (by simp)
  simp only [List.map_cons, List.map_nil, List.length_cons, List.length_nil] at this
  rw [this]
  simp only [orL, orE, ne_eq]
  congr 3
  by_cases h : a = 0 <;> by_cases h' : b = 0 <;> simp [h, h']

theorem value_texts (hX : CX X) (H : Heap) (v : Val) (hw : (v.keys.length : Int) ≤ 9223372036854775807) (hc : ∀ s, s = v.text ∨ s ∈ v.keys → callΩ X (.func n_value_letters [] []) [.str s] H = some (.int .i64 (textE s), H)) :
    callΩ X (.func n_value_texts [] []) [.agg v.cells] H = some (.int .i64 (textsE (textE v.text) v.keys), H) := by
  refine c_value_texts hX (by simp) ?_
  simp [a_value_texts_B, Env.ofArgs, List.nil_append, List.append_nil, hc]
  refine YS_ind (fun (k : Nat × Int) e H' => H' = H ∧ k.1 ≤ v.keys.length ∧ e.get 3 = .int .i64 k.2 ∧ e.get 10 = SL v.keysF (v.keys.map D.str) v.keys.length ∧ e.get 11 = .int .i64 v.keys.length ∧ e.get 12 = .int .i64 k.1 ∧ textsE (textE v.text) v.keys = textsE k.2 (v.keys.drop k.1)) (fun k => v.keys.length - k.1) ?_ (0, textE v.text) (by simp)
  rintro ⟨k, m⟩ e H' ⟨rfl, hk, h3, h6, h7, h8, hd⟩ L ih
  simp only at *
  by_cases h : k < v.keys.length
  · rw [List.drop_eq_getElem_cons h, textsE] at hd
    simp [a_value_texts_L0, h3, h6, h7, h8, h, loadD_map h, hc, wrap_succ h hw, cmp_Or2 hX]
    refine ih (k + 1, orE m (textE v.keys[k])) _ _ (by simp; omega) ?_
    simp [h3, h6, h7, hd]
    omega
  · obtain rfl : k = v.keys.length := by omega
    simp [textsE] at hd
    simp [a_value_texts_L0, h3, h6, h7, h8, FinR, FinP, finish, takesA, readRes, finishP, mapO, fz_SL, fz_agg, fz_ptr, fz_osl, fz_yield, fz_mp, fz_func, pack, fz_bool, fz_int, fz_str, fz_nilp, fz_nilsl, fz_nilf, fz_esl, fz_fptr, fz_fsl, hd]

theorem risesS_drop {l : List (List UInt8)} {k : Nat} (h : k + 1 < l.length) : risesS (l.drop k) = (!(Op.bytesLess l[k + 1] l[k] || l[k + 1] == l[k]) && risesS (l.drop (k + 1))) := by
  rw [List.drop_eq_getElem_cons (by omega : k < l.length), List.drop_eq_getElem_cons h, risesS, ← List.drop_eq_getElem_cons h]
theorem risesS_end {l : List (List UInt8)} {k : Nat} (h : l.length ≤ k + 1) : risesS (l.drop k) = true := by
  by_cases h' : k < l.length
  · rw [List.drop_eq_getElem_cons h', List.drop_eq_nil_of_le (by omega)]; rfl
  · rw [List.drop_eq_nil_of_le (by omega)]; rfl
theorem value_rises (hX : CX X) (H : Heap) (f : Nl) (l : List (List UInt8)) (hw : (l.length : Int) ≤ 9223372036854775807) :
    callΩ X (.func n_value_rises [] []) [SL f (l.map D.str) l.length] H = some (.bool (risesS l), H) := by
  refine c_value_rises hX (by simp) ?_
  simp [a_value_rises_B, Env.ofArgs, List.nil_append, List.append_nil]
  refine YS_ind (fun k e H' => H' = H ∧ k ≤ l.length ∧ e.get 0 = SL f (l.map D.str) l.length ∧ e.get 5 = .int .i64 l.length ∧ e.get 6 = .int .i64 k ∧ risesS l = risesS (l.drop (k - 1))) (fun k => l.length - k) ?_ 0 (by simp)
  rintro k e H' ⟨rfl, hk, h3, h6, h8, hd⟩ L ih
  by_cases h : k < l.length
  · by_cases h0 : k = 0
    · subst h0
      have e1 := wrap_succ h hw
      simp at e1
      have h' : 0 < l.length := h
      simp at h8
      simp [a_value_rises_L0, h3, h6, h8, h', e1]
      refine ih 1 _ _ (by omega) ?_
      simp [h3, h6, hd]
      omega
    · obtain ⟨q, rfl⟩ : ∃ q, k = q + 1 := ⟨k - 1, by omega⟩
      simp only [Nat.add_sub_cancel] at hd
      rw [risesS_drop h] at hd
      have e2 : IntKind.i64.wrap (((q : Int) + 1) - 1) = q := by rw [wrap_i64 (by omega) (by omega)]; omega
      have e3 : (0 : Int) < (q : Int) + 1 := by omega
      have e5 := loadD_map (f := D.str) h
      have e6 : (q : Int) + 1 < l.length := by omega
      have e7 : ((q : Int) + 1).toNat = q + 1 := by omega
      have e8 : (0 : Int) ≤ (q : Int) + 1 := by omega
      have e9 := wrap_succ h hw
      simp at e2 e9
      cases hb : (Op.bytesLess l[q + 1] l[q] || l[q + 1] == l[q]) with
      | true =>
        rw [hb] at hd
        simp at hd hb
        simp [a_value_rises_L0, h3, h6, h8, h, loadD_map (show q < l.length by omega), e2, e3, e5, e6, e7, e8, e9, hb, FinR, FinP, finish, takesA, readRes, finishP, mapO, fz_SL, fz_agg, fz_ptr, fz_osl, fz_yield, fz_mp, fz_func, pack, fz_bool, fz_int, fz_str, fz_nilp, fz_nilsl, fz_nilf, fz_esl, fz_fptr, fz_fsl, hd, show q < l.length by omega]
        intro g1 g2
        rcases hb with hb | hb
        · simp [hb] at g1
        · exact absurd hb g2
      | false =>
        rw [hb] at hd
        simp at hd hb
        simp [a_value_rises_L0, h3, h6, h8, h, loadD_map (show q < l.length by omega), e2, e3, e5, e6, e7, e8, e9, hb, show q < l.length by omega]
        refine ih (q + 2) _ _ (by omega) ?_
        simp [h3, h6, hd]
        omega
  · obtain rfl : k = l.length := by omega
    rw [risesS_end (by omega)] at hd
    simp [a_value_rises_L0, h3, h6, h8, FinR, FinP, finish, takesA, readRes, finishP, mapO, fz_SL, fz_agg, fz_ptr, fz_osl, fz_yield, fz_mp, fz_func, pack, fz_bool, fz_int, fz_str, fz_nilp, fz_nilsl, fz_nilf, fz_esl, fz_fptr, fz_fsl, hd]

theorem value_own (hX : CX X) (H : Heap) (v : Val) (h1 : callΩ X (.func n_value_texts [] []) [.agg v.cells] H = some (.int .i64 (textsE (textE v.text) v.keys), H)) (h2 : callΩ X (.func n_value_numbers [] []) [.agg v.cells] H = some (.bool (numsS v), H))
    (h3 : callΩ X (.func n_value_used [] []) [.agg v.cells] H = some (.bool (usedS v), H)) (h4 : callΩ X (.func n_value_rises [] []) [SL v.keysF (v.keys.map D.str) v.keys.length] H = some (.bool (risesS v.keys), H)) :
    callΩ X (.func n_value_own [] []) [.agg v.cells] H = some (.int .i64 (ownS v), H) := by
  refine c_value_own hX (by simp) ?_
  simp +contextual -implicitDefEqProofs [a_value_own_B, Env.ofArgs, List.nil_append, List.append_nil, FinR, FinP, finish, takesA, readRes, finishP, mapO, fz_SL, fz_agg, fz_ptr, fz_osl, fz_yield, fz_mp, fz_func, pack, fz_bool, fz_int, fz_str, fz_nilp, fz_nilsl, fz_nilf, fz_esl, fz_fptr, fz_fsl, h1, h2, h3, h4, ownS]
  intro ha hb
  have hn : ¬ (v.kind < 0 ∨ 6 < v.kind) := by omega
  refine ⟨fun _ h => absurd h hn, fun ht => ⟨fun h => ?_, fun h => ⟨fun hx => ?_, fun a b c => ?_⟩⟩⟩
  · rw [if_neg hn, if_pos (by omega)]
  · rw [if_neg hn, if_neg (by omega)]
    rcases hx with (hx | hx) | hx <;> simp [hx]
  · rw [if_neg hn, if_neg (by omega)]
end
end Go.AM.T
