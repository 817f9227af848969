/- What can be reached: both searches. -/
import Derived.Test.YtjcnlakifipmgaaGreatDoorWalkF
set_option linter.unusedVariables false
set_option linter.unusedSimpArgs false
set_option linter.unnecessarySimpa false
set_option maxRecDepth 100000
/- Which instructions can come to be done. -/
namespace Go.AM.T
section
variable {X : Ctx}
attribute [local simp] YC_bool YS_seq YS_block YS_skip YS_ret YS_exit YS_reg YS_cond YX_seqN YX_seqR YX_seqE YX_blkN YX_blkR YX_blkE YX_lpR YX_lpE YX_lpN YX_nil YO_nil YO_cons Y1_some Y1_none Y1_ite YC_true YC_false YS_dregI statM rIdx allLt allGe AOp.isR AOp.isE AOp.isL YM_nil YM_cons YM1_some YM1_R YM1_ite YZ_nil YZ_cons YZ1_some YZ1_ite strip runOp_n runOp_g gdD_bool gdD_tup gd_tt gd_ff gd_tf gd_ft gd_some gD_tt gD_ff gD_tf gD_ft gD_in pkD_t pkD_f pkD_gt pkD_gf pkD_and pkD_or gdD_gD lenK_str lenK_nil lenK_esl lenK_fsl lenK_osl lenK_SL iaddrK_fsl iaddrK_osl iaddrK_SL okD_ite okD_SL under_SL one_SL cells_SL evalA evalAs evalO evalPs putO Env.put_get loadD_one cells_agg under_agg under_ptr under_osl under_rptr under_mp under_yield under_func under_tup unders_nil unders_cons ones_nil ones_cons j bindO_some bindO_none optK_some optK_ite optH_some pickK_b cellsAt_fptr cellsAt_ptr cellsAt_rptr faddrK_fptr faddrK_ptr faddrK_rptr nilchkK_fptr nilchkK_ptr nilchkK_rptr eqBK_b eqPK_some convIK_int convSBK_str convISK_int sliceSK_str fieldK_agg indexSK_str extractK_tup iaddrAK_fptr iaddrAK_ptr appendSK_str mslK_int boxFK_ok boxRK_some allocK_some reserve_nil fillD_nil fillD_cons storeD_ptr storeD_rptr maxD_nil maxD_cons minD_nil minD_cons k_fill k_fillB mgetK_mp msetK_mp k_dfrop k_eqA eqKs_i eqKs_s bin_add bin_sub bin_mul bin_quo bin_rem bin_eql bin_neq bin_lss bin_leq bin_gtr bin_geq bin_shl bin_shr bin_sadd bin_seql bin_sneq bin_slss bin_sleq un_not un_neg mapO_ints mapO_strs mapO_bools unders_ints unders_strs unders_bools ones_ints ones_strs ones_bools mapO_intsT unders_intsT ones_intsT mapO_nats unders_nats ones_nats add_lt boxO_box rowO_row rowE_row optH_ite bindO_ite getH getH0 setH setH0 takeH storable_i storable_b storable_s storable_SL splice bin_and bin_or bin_xor bin_andNot Int.natCast_inj Int.ofNat_lt Int.ofNat_le step_mov step_len step_iaddr k_pick k_load k_faddr k_nilchk k_bin k_un k_eqB k_eqP k_eqS k_convI k_convSB k_convIS k_convBS k_sliceS k_sliceL k_field k_indexS k_extract k_iaddrA k_append k_appendS k_msl k_boxF k_boxB k_allocB k_build k_bslF k_bslR k_store k_resv k_maxs k_mins k_hole k_call k_mkf k_mkmap k_mget k_mset one_bool one_int one_str one_nilp one_nilsl one_nilf one_esl one_fptr one_fsl one_ptr one_rptr one_osl one_func one_yield one_mp cells_bool cells_int cells_str cells_nilp cells_nilsl cells_nilf cells_esl cells_fptr cells_fsl cells_ptr cells_rptr cells_osl cells_func cells_yield cells_mp under_bool under_int under_str under_nilp under_nilsl under_nilf under_esl under_fptr under_fsl okD_bool okD_int okD_str okD_nilp okD_nilsl okD_nilf okD_esl okD_fptr okD_fsl okD_ptr okD_rptr okD_osl okD_func okD_yield okD_mp okD_agg okD_tup okD_sym Code.load Code.load0 Code.take Code.cells_length Code.unders Code.ones Code.fz Code.l_instrs Code.m_instrs Code.l_consts Code.m_consts Code.t_consts Instr.load Instr.load0 Instr.take Instr.cells_length Instr.unders Instr.ones Instr.fz Instr.l_op Instr.m_op Instr.l_a Instr.m_a Instr.t_a Instr.l_b Instr.m_b Val.load Val.load0 Val.take Val.cells_length Val.unders Val.ones Val.fz Val.l_kind Val.m_kind Val.l_num Val.m_num Val.t_num Val.t_num_neg Val.l_num_neg Val.m_num_neg Val.l_num_coef Val.m_num_coef Val.l_num_exp Val.m_num_exp Val.l_text Val.m_text Val.l_list Val.m_list Val.l_keys Val.m_keys Dec.load Dec.load0 Dec.take Dec.cells_length Dec.unders Dec.ones Dec.fz Dec.l_neg Dec.m_neg Dec.l_coef Dec.m_coef Dec.t_coef Dec.l_exp Dec.m_exp
attribute [local congr] gd_congr
inductive Rch (l : List Instr) : Nat → Prop
  | zero : Rch l 0
  | go {i : Nat} (h : i < l.length) : Rch l i → l[i].op ∈ goesL → Rch l l[i].a.toNat
  | next {i : Nat} (h : i < l.length) : Rch l i → l[i].op ∉ endsL → Rch l (i + 1)
/-- What a code that may be is held to. -/
structure Good (l : List Instr) : Prop where
  pos : 0 < l.length
  top : l.length ≤ 16384
  ops : ∀ i (h : i < l.length), 0 ≤ l[i].op ∧ l[i].op < 46
  go : ∀ i (h : i < l.length), l[i].op ∈ goesL → 0 ≤ l[i].a ∧ l[i].a < l.length
  next : ∀ i (h : i < l.length), l[i].op ∉ endsL → i + 1 < l.length
theorem instrsE_zero {n c : Nat} : ∀ {l : List Instr}, instrsE n c l = 0 → ∀ x ∈ l, (0 ≤ x.op ∧ x.op < 46) ∧ mayS x.op x.a x.b n c = true
  | [], _, x, hx => by simp at hx
  | y :: r, h, x, hx => by
    simp only [instrsE] at h
    split at h
    · cases h
    · rename_i h1
      split at h
      · cases h
      · rename_i h2
        rcases List.mem_cons.1 hx with rfl | hx
        · exact ⟨Decidable.not_not.1 h1, by simpa using h2⟩
        · exact instrsE_zero h x hx
theorem good_of {c : Code} (h : chkC c = 0) : Good c.instrs ∧ chksS c.consts = 0 ∧ c.consts.length ≤ 4096 ∧ instrsE c.instrs.length c.consts.length c.instrs = 0 := by
  unfold chkC at h
  split at h
  · cases h
  · rename_i h1
    split at h
    · cases h
    · rename_i h2
      split at h
      · rename_i h3; exact absurd h h3
      · rename_i h3
        split at h
        · rename_i h4; exact absurd h h4
        · rename_i h4
          split at h
          · rename_i h5
            have h3' := Decidable.not_not.1 h3
            have hall := instrsE_zero h3'
            refine ⟨⟨by omega, by omega, fun i hi => (hall _ (by simp)).1, fun i hi hg => ?_, fun i hi he => ?_⟩, Decidable.not_not.1 h4, by omega, h3'⟩
            · have hm := (hall (c.instrs[i]) (by simp)).2
              unfold mayS at hm
              have h16 : ¬ c.instrs[i].op = 16 := by intro q; rw [q] at hg; simp [goesL] at hg
              rw [if_neg h16] at hm
              simp only [Bool.and_eq_true, decide_eq_true_eq] at hm
              have hl : (limS c.instrs[i].op c.instrs.length c.consts.length).1 = (c.instrs.length : Int) - 1 := by
                unfold limS
                have h1 : ¬ c.instrs[i].op = 1 := by intro q; rw [q] at hg; simp [goesL] at hg
                rw [if_neg h1]
                split
                · rfl
                · rfl
              rw [hl] at hm
              omega
            · rw [lastOp_eq (by omega)] at h5
              by_cases q : i + 1 < c.instrs.length
              · exact q
              · have e : i = c.instrs.length - 1 := by omega
                subst e
                exact absurd h5 he
          · cases h
theorem Rch.lt {l : List Instr} (hg : Good l) : ∀ {i}, Rch l i → i < l.length
  | _, .zero => hg.pos
  | _, .go h _ q => by have := hg.go _ h q; omega
  | _, .next h _ q => hg.next _ h q
/-- Marks that hold what can be reached, and are closed, are just what can be reached. -/
theorem closed_all {l : List Instr} (hg : Good l) {m : List Bool} (hm : m.length = l.length) (h0 : m[0]? = some true)
    (hc : ∀ i (h : i < l.length), m[i]? = some true → (l[i].op ∈ goesL → m[l[i].a.toNat]? = some true) ∧ (l[i].op ∉ endsL → m[i + 1]? = some true)) : ∀ {i}, Rch l i → m[i]? = some true
  | _, .zero => h0
  | _, .go h r q => (hc _ h (closed_all hg hm h0 hc r)).1 q
  | _, .next h r q => (hc _ h (closed_all hg hm h0 hc r)).2 q

abbrev boolsD (l : List Bool) : List D := l.map D.bool
abbrev intsD (l : List Int) : List D := l.map (D.int .i64)
theorem append1 {b : Nat} {H : Heap} {id : Nat} {s rest : List Int} {y : Int} (h : H[id]? = some (.row 1 (intsD (s ++ rest)) false)) (hl : (s ++ rest).length ≤ 100000) :
    appendD b H 1 8 (.osl id (s ++ rest).length 0 s.length) [D.int .i64 y] 1 = some (.osl id (s ++ [y] ++ rest.tail).length 0 (s.length + 1), H.set id (.row 1 (intsD (s ++ [y] ++ rest.tail)) false)) := by
  have hl' := hl
  rw [List.length_append] at hl'
  cases rest with
  | nil =>
    have := appendD_full (b := b) (H := H) (id := id) (hw := (s ++ []).length) (es := 1) (bytes := 8) (m := 1) (ys := [D.int .i64 y]) (cs := intsD (s ++ [])) (nil := false) (n := s.length) h (by simp) (by simp) (by simp) (by unfold maxBytes; omega) (by unfold maxBytes; omega) storable_i (by omega)
    rw [this]; simp
  | cons r0 r =>
    simp only [appendD, h]
    rw [if_pos ⟨trivial, by simp, by simp, by simp, by unfold maxBytes; omega, by unfold maxBytes; omega, storable_i⟩, if_neg (by omega), if_neg (by simp), if_pos (by simp)]
    congr 3
    · simp
    · congr 2
      simp [splice, List.drop_append]
theorem copies_bool (n : Nat) : copies [D.bool false] n = boolsD (List.replicate n false) := by
  induction n with
  | zero => rfl
  | succ n ih => simp only [copies, ih, List.replicate_succ]; rfl
theorem set_bool {m : List Bool} {i : Nat} {x : Bool} (h : i < m.length) : List.take i (boolsD m) ++ D.bool x :: List.drop (i + 1) (boolsD m) = boolsD (m.set i x) := by
  have := splice_set (cs := boolsD m) (i := i) (x := .bool x) (by simpa using h)
  simpa using this

theorem ins_ld {f : Nl} {l : List Instr} {k : Nat} (h : k < l.length) : (Instr.cellsL l).drop (k * 3) = l[k].cells ++ Instr.rest l k := Instr.cellsL_drop h
/-- The marks with which the search goes on. -/
structure Srch (l : List Instr) (m : List Bool) (s : List Int) : Prop where
  len : m.length = l.length
  rng : ∀ x ∈ s, 0 ≤ x ∧ x < l.length ∧ Rch l x.toNat
  mrk : ∀ i, m[i]? = some true → Rch l i
  cls : ∀ i (h : i < l.length), m[i]? = some true → (l[i].op ∈ goesL → m[l[i].a.toNat]? = some true ∨ l[i].a ∈ s) ∧ (l[i].op ∉ endsL → m[i + 1]? = some true ∨ ((i + 1 : Nat) : Int) ∈ s)
  zer : m[0]? = some true ∨ (0 : Int) ∈ s
def pushes (x : Instr) (i : Nat) : List Int := (if x.op ∈ goesL then [x.a] else []) ++ (if x.op ∈ endsL then [] else [((i + 1 : Nat) : Int)])
theorem Srch.skip {l : List Instr} {m : List Bool} {s : List Int} {i : Nat} (h : Srch l m (s ++ [(i : Int)])) (hm : m[i]? = some true) : Srch l m s := by
  refine ⟨h.len, fun x hx => h.rng x (by simp [hx]), h.mrk, fun j hj hjm => ?_, ?_⟩
  · obtain ⟨c1, c2⟩ := h.cls j hj hjm
    refine ⟨fun hg => ?_, fun he => ?_⟩
    · rcases c1 hg with c | c
      · exact .inl c
      · rcases List.mem_append.1 c with c | c
        · exact .inr c
        · left; have : l[j].a = (i : Int) := by simpa using c
          rw [this]; simpa using hm
    · rcases c2 he with c | c
      · exact .inl c
      · rcases List.mem_append.1 c with c | c
        · exact .inr c
        · left; have : ((j + 1 : Nat) : Int) = (i : Int) := by simpa using c
          have : j + 1 = i := by omega
          rw [this]; exact hm
  · rcases h.zer with c | c
    · exact .inl c
    · rcases List.mem_append.1 c with c | c
      · exact .inr c
      · left; have : (0 : Int) = (i : Int) := by simpa using c
        have : i = 0 := by omega
        rw [← this]; exact hm
theorem Srch.mark {l : List Instr} (hg : Good l) {m : List Bool} {s : List Int} {i : Nat} (hi : i < l.length) (h : Srch l m (s ++ [(i : Int)])) : Srch l (m.set i true) (s ++ pushes l[i] i) := by
  have hri : Rch l i := by simpa using (h.rng (i : Int) (by simp)).2.2
  have hset : ∀ j, (m.set i true)[j]? = some true ↔ (j = i ∨ m[j]? = some true) := fun j => by
    rw [List.getElem?_set]
    by_cases hj : i = j
    · subst hj; simp [h.len, hi]
    · rw [if_neg hj]; constructor
      · exact fun q => .inr q
      · rintro (q | q)
        · exact absurd q.symm hj
        · exact q
  refine ⟨by rw [List.length_set]; exact h.len, fun x hx => ?_, fun j hj => ?_, fun j hj hjm => ?_, ?_⟩
  · rcases List.mem_append.1 hx with hx | hx
    · exact h.rng x (by simp [hx])
    · unfold pushes at hx
      rcases List.mem_append.1 hx with hx | hx
      · split at hx
        · rename_i hgo
          obtain rfl : x = l[i].a := by simpa using hx
          obtain ⟨q1, q2⟩ := hg.go i hi hgo
          exact ⟨q1, q2, .go hi hri hgo⟩
        · simp at hx
      · split at hx
        · simp at hx
        · rename_i hen
          obtain rfl : x = ((i + 1 : Nat) : Int) := by simpa using hx
          have := hg.next i hi hen
          exact ⟨by omega, by omega, by rw [Int.toNat_natCast]; exact .next hi hri hen⟩
  · rcases (hset j).1 hj with rfl | q
    · exact hri
    · exact h.mrk j q
  · rcases (hset j).1 hjm with rfl | q
    · refine ⟨fun q => .inr (by unfold pushes; simp [q]), fun q => .inr (by unfold pushes; simp [q])⟩
    · obtain ⟨c1, c2⟩ := h.cls j hj q
      refine ⟨fun q => ?_, fun q => ?_⟩
      · rcases c1 q with c | c
        · exact .inl ((hset _).2 (.inr c))
        · rcases List.mem_append.1 c with c | c
          · exact .inr (by simp [c])
          · left; have : l[j].a = (i : Int) := by simpa using c
            rw [hset, this]; left; simp
      · rcases c2 q with c | c
        · exact .inl ((hset _).2 (.inr c))
        · rcases List.mem_append.1 c with c | c
          · exact .inr (by simp only [List.mem_append]; exact .inl c)
          · left; have : ((j + 1 : Nat) : Int) = (i : Int) := by simpa using c
            rw [hset]; left; omega
  · rcases h.zer with c | c
    · exact .inl ((hset _).2 (.inr c))
    · rcases List.mem_append.1 c with c | c
      · exact .inr (by simp [c])
      · left; have : (0 : Int) = (i : Int) := by simpa using c
        rw [hset]; left; omega
theorem Srch.done {l : List Instr} (hg : Good l) {m : List Bool} (h : Srch l m []) : m.length = l.length ∧ ∀ i, m[i]? = some true ↔ Rch l i := by
  refine ⟨h.len, fun i => ⟨h.mrk i, fun r => ?_⟩⟩
  refine closed_all hg h.len (by rcases h.zer with c | c; exact c; simp at c) (fun j hj hjm => ?_) r
  obtain ⟨c1, c2⟩ := h.cls j hj hjm
  exact ⟨fun q => by rcases c1 q with c | c; exact c; simp at c, fun q => by rcases c2 q with c | c; exact c; simp at c⟩
theorem peep_reach (hX : CX X) (H : Heap) (f : Nl) (l : List Instr) (hg : Good l) :
    ∃ d H', callΩ X (.func n_peep_reach [] []) [SL f (Instr.cellsL l) l.length] H = some (d, H') ∧ ((∃ m : List Bool, d = .fsl (boolsD m) l.length ∧ m.length = l.length ∧ ∀ i, m[i]? = some true ↔ Rch l i) ∧ H' = H) := by
  refine p_peep_reach hX (by simp) ?_
  have hpos := hg.pos
  have htop := hg.top
  have hm : l.length ≤ maxBytes := by unfold maxBytes; omega
  simp [a_peep_reach_B, Env.ofArgs, List.nil_append, List.append_nil, hm, storable, copies_bool]
  have s0 : Srch l (List.replicate l.length false) [0] := ⟨by simp, fun x hx => by
    obtain rfl : x = 0 := by simpa using hx
    exact ⟨by omega, by omega, .zero⟩, fun i hi => by simp [List.getElem?_replicate] at hi, fun i hi q => by simp [List.getElem?_replicate] at q, .inr (by simp)⟩
  refine YS_ind (fun (q : List Bool × List Int × List Int) e H' => H' = H ++ [.row 1 (boolsD q.1) false, .row 1 (intsD (q.2.1 ++ q.2.2)) false] ∧ Srch l q.1 q.2.1 ∧ (q.2.1 ++ q.2.2).length ≤ 1 + 2 * q.1.count true ∧
    e.get 0 = SL f (Instr.cellsL l) l.length ∧ e.get 3 = .osl H.length l.length 0 l.length ∧ e.get 4 = .osl (H.length + 1) (q.2.1 ++ q.2.2).length 0 q.2.1.length) (fun q => 3 * q.1.count false + q.2.1.length) ?_ (List.replicate l.length false, [0], []) (by simp; exact s0)
  rintro ⟨m, s, rest⟩ e H' ⟨rfl, hs, hb, g0, g3, g4⟩ L ih
  simp only at *
  have hml := hs.len
  have hct : m.count true ≤ l.length := by rw [← hml]; exact List.count_le_length
  rcases List.eq_nil_or_concat s with rfl | ⟨s', x, rfl⟩
  · obtain ⟨q1, q2⟩ := hs.done hg
    have ht : List.take l.length (boolsD m) = boolsD m := List.take_of_length_le (by simp [q1])
    simp [a_peep_reach_L0, g0, g3, g4, FinR, FinP, finish, takesA, readRes, finishP, mapO, fz_SL, fz_agg, fz_ptr, fz_osl, fz_yield, fz_mp, fz_func, pack, fz_bool, fz_int, fz_str, fz_nilp, fz_nilsl, fz_nilf, fz_esl, fz_fptr, fz_fsl, q1, ht]
    exact ⟨m, rfl, q1, q2⟩
  · rw [List.concat_eq_append] at *
    obtain ⟨x0, x1, hrx⟩ := hs.rng x (by simp)
    obtain ⟨i, rfl⟩ : ∃ i : Nat, x = i := ⟨x.toNat, by omega⟩
    have hi : i < l.length := by omega
    have hi' : i < m.length := by omega
    have e1 : IntKind.i64.wrap ((s'.length : Int) + 1 - 1) = s'.length := by rw [wrap_i64 (by omega) (by simp only [List.length_append] at hb; omega)]; omega
    have e2 : (0 : Int) < (s'.length : Int) + 1 := by omega
    have e3 : (s'.length : Int) < (s'.length : Int) + 1 := by omega
    have e4 : (s'.length : Int) ≤ (s'.length : Int) + 1 := by omega
    have hld : loadD false 1 (List.drop s'.length (intsD (s' ++ [(i : Int)] ++ rest))) = some (.int .i64 i) := by
      have := loadD_map (f := D.int .i64) (l := s' ++ [(i : Int)] ++ rest) (k := s'.length) (by simp)
      simpa using this
    simp at hld e1
    have hmi : loadD false 1 (List.drop i (boolsD m)) = some (.bool m[i]) := loadD_map hi'
    have hil : ¬ l.length ≤ i := by omega
    by_cases hmk : m[i] = true
    · rw [hmk] at hmi
      simp [a_peep_reach_L0, g0, g3, g4, e1, e2, e3, e4, hld, sliceD, natArg, hil, hi, hml, hmi]
      refine ih (m, s', (i : Int) :: rest) _ _ (by simp) ?_
      simp [g0, g3]
      refine ⟨hs.skip (by rw [List.getElem?_eq_getElem hi', hmk]), ?_⟩
      simp only [List.length_append, List.length_cons, List.length_nil] at hb; omega
    · have hm0 : m[i] = false := by simpa using hmk
      rw [hm0] at hmi
      have hsb := set_bool (m := m) (i := i) (x := true) hi'
      have hb2 := hb
      simp only [List.length_append, List.length_cons, List.length_nil] at hb2
      have hct2 : (m.set i true).count true = m.count true + 1 := by
        rw [List.count_set hi']; simp [hm0]
      have hct3 : (m.set i true).count false = m.count false - 1 := by
        rw [List.count_set hi']; simp [hm0]
      have hct4 : 0 < m.count false := by
        rw [List.count_pos_iff]; rw [← hm0]; exact List.getElem_mem hi'
      have hct5 : (m.set i true).count true ≤ l.length := by rw [← hml]; simpa using List.count_le_length (l := m.set i true) (a := true)
      have hnext := hs.mark hg hi
      have hi1 : i + 1 ≤ l.length := by omega
      have w1 : IntKind.i64.wrap ((i : Int) + 1) = (i : Int) + 1 := wrap_i64 (by omega) (by omega)
      have hgo := fun H => code_Goes hX l[i].op H
      have hen := fun H => code_Ends hX l[i].op H
      have ap1 (M : List D) (y : Int) := append1 (b := H.length) (H := H ++ [.row 1 M false, .row 1 (intsD (s' ++ (i : Int) :: rest)) false]) (id := H.length + 1) (s := s') (rest := (i : Int) :: rest) (y := y) (by simp) (by simp; omega)
      have ap2 (M : List D) (x y : Int) := append1 (b := H.length) (H := H ++ [.row 1 M false, .row 1 (intsD (s' ++ [x] ++ rest)) false]) (id := H.length + 1) (s := s' ++ [x]) (rest := rest) (y := y) (by simp) (by simp; omega)
      simp at ap1 ap2
      by_cases c1 : l[i].op ∈ goesL
      · by_cases c2 : l[i].op ∈ endsL
        · simp [a_peep_reach_L0, g0, g3, g4, e1, e2, e3, e4, hld, sliceD, natArg, hil, hi, hi1, hml, hmi, hsb, Instr.cellsL_drop hi, hgo, hen, c1, c2, w1, elems, ap1, ap2]
          refine ih (m.set i true, s' ++ [l[i].a], rest) _ _ ?_ ?_
          · simp; omega
          simp [g0, g3]
          simp [pushes, c1, c2] at hnext
          exact ⟨hnext, by omega⟩
        · simp [a_peep_reach_L0, g0, g3, g4, e1, e2, e3, e4, hld, sliceD, natArg, hil, hi, hi1, hml, hmi, hsb, Instr.cellsL_drop hi, hgo, hen, c1, c2, w1, elems, ap1, ap2]
          refine ih (m.set i true, s' ++ [l[i].a] ++ [((i + 1 : Nat) : Int)], rest.tail) _ _ ?_ ?_
          · simp; omega
          simp [g0, g3]
          simp [pushes, c1, c2] at hnext
          exact ⟨hnext, by omega⟩
      · by_cases c2 : l[i].op ∈ endsL
        · simp [a_peep_reach_L0, g0, g3, g4, e1, e2, e3, e4, hld, sliceD, natArg, hil, hi, hi1, hml, hmi, hsb, Instr.cellsL_drop hi, hgo, hen, c1, c2, w1, elems]
          refine ih (m.set i true, s', (i : Int) :: rest) _ _ ?_ ?_
          · simp; omega
          simp [g0, g3]
          simp [pushes, c1, c2] at hnext
          exact ⟨hnext, by omega⟩
        · simp [a_peep_reach_L0, g0, g3, g4, e1, e2, e3, e4, hld, sliceD, natArg, hil, hi, hi1, hml, hmi, hsb, Instr.cellsL_drop hi, hgo, hen, c1, c2, w1, elems, ap1]
          refine ih (m.set i true, s' ++ [((i + 1 : Nat) : Int)], rest) _ _ ?_ ?_
          · simp; omega
          simp [g0, g3]
          simp [pushes, c1, c2] at hnext
          exact ⟨hnext, by omega⟩
def Cls (l : List Instr) (m : List Bool) (j : Nat) : Prop := ∀ h : j < l.length, m[j]? = some true → (l[j].op ∈ goesL → m[l[j].a.toNat]? = some true) ∧ (l[j].op ∉ endsL → m[j + 1]? = some true)
theorem Instr.u_a (x : Instr) (r : List D) : loadD false 1 (x.cells ++ r).tail = some (.int .i64 x.a) := by rw [Instr.cells_eq]; simp [loadD]
structure Snd (l : List Instr) (m : List Bool) : Prop where
  len : m.length = l.length
  zer : m[0]? = some true
  mrk : ∀ i, m[i]? = some true → Rch l i
/-- A pass over the marks `m0`, at `k`. -/
structure Pass (l : List Instr) (m0 m : List Bool) (ch : Bool) (k : Nat) : Prop extends Snd l m where
  le : k ≤ l.length
  no : ch = false → m = m0 ∧ ∀ j < k, Cls l m j
  yes : ch = true → m.count false < m0.count false
theorem Pass.skip {l : List Instr} {m0 m : List Bool} {ch : Bool} {k : Nat} (h : Pass l m0 m ch k) (hk : k < l.length) (hc : Cls l m k) : Pass l m0 m ch (k + 1) := by
  refine ⟨h.toSnd, hk, fun q => ⟨(h.no q).1, fun j hj => ?_⟩, h.yes⟩
  rcases Nat.lt_succ_iff_lt_or_eq.1 hj with hj | rfl
  · exact (h.no q).2 j hj
  · exact hc
theorem Pass.sets {l : List Instr} {m0 m : List Bool} {ch : Bool} {k i : Nat} (h : Pass l m0 m ch k) (hi : i < m.length) (h0 : m[i] = false) (hr : Rch l i) : Pass l m0 (m.set i true) true k := by
  have hset : ∀ j, (m.set i true)[j]? = some true ↔ (j = i ∨ m[j]? = some true) := fun j => by
    rw [List.getElem?_set]
    by_cases hj : i = j
    · subst hj; simp [hi]
    · rw [if_neg hj]; constructor
      · exact fun q => .inr q
      · rintro (q | q)
        · exact absurd q.symm hj
        · exact q
  have hct3 : (m.set i true).count false = m.count false - 1 := by
    rw [List.count_set hi]; simp [h0]
  have hct4 : 0 < m.count false := by
    rw [List.count_pos_iff]; rw [← h0]; exact List.getElem_mem hi
  have hle : m.count false ≤ m0.count false := by
    cases ch with
    | false => rw [(h.no rfl).1]; exact Nat.le_refl _
    | true => exact Nat.le_of_lt (h.yes rfl)
  refine ⟨⟨by rw [List.length_set]; exact h.len, (hset 0).2 (.inr h.zer), fun j hj => ?_⟩, h.le, by simp, fun _ => by omega⟩
  rcases (hset j).1 hj with rfl | q
  · exact hr
  · exact h.mrk j q
theorem Pass.next {l : List Instr} {m0 m : List Bool} {k : Nat} (h : Pass l m0 m true k) (hk : k < l.length) : Pass l m0 m true (k + 1) :=
  ⟨h.toSnd, hk, by simp, h.yes⟩

set_option maxHeartbeats 1000000 in
theorem law_reached (hX : CX X) (H : Heap) (c : Code) (hg : Good c.instrs) :
    ∃ d H', callΩ X (.func n_bolterlaw27_reached [] []) [.agg c.cells] H = some (d, H') ∧ ((∃ m : List Bool, d = .fsl (boolsD m) c.instrs.length ∧ m.length = c.instrs.length ∧ ∀ i, m[i]? = some true ↔ Rch c.instrs i) ∧ H' = H) := by
  refine p_bolterlaw27_reached hX (by simp) ?_
  have hpos := hg.pos
  have htop := hg.top
  have hm : c.instrs.length ≤ maxBytes := by unfold maxBytes; omega
  have hs0 := set_bool (m := List.replicate c.instrs.length false) (i := 0) (x := true) (by simpa using hpos)
  simp at hs0
  have h1p : 1 ≤ c.instrs.length := hpos
  simp [a_bolterlaw27_reached_B, Env.ofArgs, List.nil_append, List.append_nil, hm, storable, copies_bool, hpos, hs0, h1p]
  have s0 : Snd c.instrs ((List.replicate c.instrs.length false).set 0 true) := by
    have z : ∀ j, ((List.replicate c.instrs.length false).set 0 true)[j]? = some true ↔ j = 0 := fun j => by
      rw [List.getElem?_set]
      by_cases q : 0 = j
      · subst q; simp [hpos]
      · rw [if_neg q]; simp [List.getElem?_replicate]; exact fun w => q w.symm
    refine ⟨by simp, (z 0).2 rfl, fun i hi => ?_⟩
    rw [(z i).1 hi]; exact .zero
  refine YS_ind (fun (q : List Bool × Bool) e H' => H' = H ++ [.row 1 (boolsD q.1) false] ∧ Snd c.instrs q.1 ∧ (q.2 = false → ∀ j < c.instrs.length, Cls c.instrs q.1 j) ∧
    e.get 1 = .fptr c.cells ∧ e.get 3 = .osl H.length c.instrs.length 0 c.instrs.length ∧ e.get 4 = .bool q.2) (fun q => 2 * q.1.count false + (if q.2 then 1 else 0)) ?_ ((List.replicate c.instrs.length false).set 0 true, true) (by simp; exact s0)
  rintro ⟨m0, ch0⟩ e H' ⟨rfl, hs, hch, g1, g3, g4⟩ L ih
  simp only at hs hch g1 g3 g4 ih
  have hml := hs.len
  cases ch0 with
  | false =>
    have ht : List.take c.instrs.length (boolsD m0) = boolsD m0 := List.take_of_length_le (by simp [hml])
    simp [a_bolterlaw27_reached_L1, g1, g3, g4, FinR, FinP, finish, takesA, readRes, finishP, mapO, fz_SL, fz_agg, fz_ptr, fz_osl, fz_yield, fz_mp, fz_func, pack, fz_bool, fz_int, fz_str, fz_nilp, fz_nilsl, fz_nilf, fz_esl, fz_fptr, fz_fsl, hml, ht]
    refine ⟨m0, rfl, hml, fun i => ⟨hs.mrk i, fun r => closed_all hg hml hs.zer (fun j hj hjm => hch rfl j hj hj hjm) r⟩⟩
  | true =>
    simp [a_bolterlaw27_reached_L1, g1, g3, g4]
    refine YS_ind (fun (q : List Bool × Bool × Nat) e H' => H' = H ++ [.row 1 (boolsD q.1) false] ∧ Pass c.instrs m0 q.1 q.2.1 q.2.2 ∧
      e.get 1 = .fptr c.cells ∧ e.get 3 = .osl H.length c.instrs.length 0 c.instrs.length ∧ e.get 4 = .bool q.2.1 ∧ e.get 5 = .int .i64 q.2.2) (fun q => c.instrs.length - q.2.2) ?_ (m0, false, 0) (by simp [g1, g3]; exact ⟨hs, by omega, fun _ => ⟨rfl, by omega⟩, by simp⟩)
    clear g1 g3 g4 e hml
    rintro ⟨m, ch, k⟩ e H' ⟨rfl, hp, g1, g3, g4, g5⟩ L' ih'
    simp only at hp g1 g3 g4 g5 ih'
    have hml := hp.len
    by_cases hk : k < c.instrs.length
    · have hk' : (k : Int) < c.instrs.length := by omega
      have hkl : ¬ c.instrs.length ≤ k := by omega
      have hk1 : k + 1 ≤ c.instrs.length := by omega
      have hkm : k < m.length := by omega
      have hrk : m[k] = true → Rch c.instrs k := fun q => hp.mrk k (by rw [List.getElem?_eq_getElem hkm, q])
      have hmk' : m[k]? = some m[k] := List.getElem?_eq_getElem hkm
      have hmi : loadD false 1 (List.drop k (boolsD m)) = some (.bool m[k]) := loadD_map hkm
      have hsb := fun (m : List Bool) (i : Nat) (h : i < m.length) => set_bool (m := m) (i := i) (x := true) h
      have w1 : IntKind.i64.wrap ((k : Int) + 1) = (k : Int) + 1 := wrap_i64 (by omega) (by omega)
      have hgo := fun H => ref_Goes hX c.instrs[k].op H
      have hgg := hg.go k hk
      have hgn := hg.next k hk
      generalize hx : c.instrs[k] = x at *
      cases hmk : m[k] with
      | false =>
        rw [hmk] at hmi hmk'
        simp [a_bolterlaw27_reached_L0, g1, g3, g4, g5, hk, hk', hkl, hml, hmi, Instr.cellsL_drop hk, w1, hk1]
        refine ih' (m, ch, k + 1) _ _ (by simp; omega) ?_
        simp [g1, g3, g4]
        exact hp.skip hk (fun _ q => by rw [hmk'] at q; cases q)
      | true =>
        rw [hmk] at hmi hmk'
        have hrk := hrk hmk
        by_cases c1 : x.op ∈ goesL
        · simp only [c1, decide_true] at hgo
          obtain ⟨a0, a1⟩ := hgg c1
          obtain ⟨a, ha⟩ : ∃ a : Nat, x.a = a := ⟨x.a.toNat, by omega⟩
          have a2 : a < c.instrs.length := by omega
          have a3 : ¬ c.instrs.length ≤ a := by omega
          have a4 : a + 1 ≤ c.instrs.length := by omega
          have a5 : (a : Int) < c.instrs.length := by omega
          have am : a < m.length := by omega
          have hma : loadD false 1 (List.drop a (boolsD m)) = some (.bool m[a]) := loadD_map am
          have ha5 : m[a]? = some m[a] := List.getElem?_eq_getElem am
          have hsa := hsb m a am
          have hra : Rch c.instrs a := by have := Rch.go hk hrk (by rw [hx]; exact c1); rw [hx, ha] at this; simpa using this
          cases hba : m[a] with
          | true =>
            rw [hba] at hma ha5
            try simp at hma
            try simp at hsa
            by_cases c2 : x.op ∈ endsL
            · have c2' : x.op = 5 := by simp [endsL] at c2; simp [goesL] at c1; omega
              simp only [c2'] at hgo
              simp [a_bolterlaw27_reached_L0, g1, g3, g4, g5, hk, hk', hkl, hml, hmi, Instr.cellsL_drop hk, w1, hk1, hx, hgo, c1, Instr.u_a, ha, a2, a3, a4, a5, hma, hsa, c2']
              refine ih' (m, ch, k + 1) _ _ (by simp; omega) ?_
              simp [g1, g3, g4]
              refine hp.skip hk (fun _ q => by rw [hx]; refine ⟨fun _ => ?_, fun w => absurd c2 w⟩; rw [ha]; simpa using ha5)
            · have hk2 := hgn c2
              have hk2' : (k : Int) + 1 < c.instrs.length := by omega
              have hk3 : k + 1 + 1 ≤ c.instrs.length := by omega
              have hk4 : ¬ c.instrs.length ≤ k + 1 := by omega
              have hk6 : (0 : Int) ≤ (k : Int) + 1 := by omega
              have hkm2 : k + 1 < (m).length := by first | omega | (simp; omega)
              have hm2 : loadD false 1 (List.drop (k + 1) (boolsD (m))) = some (.bool (m)[k + 1]) := loadD_map hkm2
              have hk5 : (m)[k + 1]? = some (m)[k + 1] := List.getElem?_eq_getElem hkm2
              have hs2 := hsb (m) (k + 1) hkm2
              have c2' := c2
              simp [endsL] at c2'
              cases hb2 : (m)[k + 1] with
              | true =>
                rw [hb2] at hm2 hk5
                try simp at hm2
                try simp at hs2
                simp [a_bolterlaw27_reached_L0, g1, g3, g4, g5, hk, hk', hkl, hml, hmi, Instr.cellsL_drop hk, w1, hk1, hx, hgo, c1, Instr.u_a, ha, a2, a3, a4, a5, hma, hsa, c2', hk2, hk2', hk3, hk4, hk6, hm2, hs2]
                refine ih' (m, ch, k + 1) _ _ (by simp; omega) ?_
                simp [g1, g3, g4]
                refine hp.skip hk (fun _ q => by rw [hx]; refine ⟨fun _ => ?_, fun w => ?_⟩; rw [ha]; simpa using ha5; rw [hk5])
              | false =>
                rw [hb2] at hm2 hk5
                try simp at hm2
                try simp at hs2
                simp [a_bolterlaw27_reached_L0, g1, g3, g4, g5, hk, hk', hkl, hml, hmi, Instr.cellsL_drop hk, w1, hk1, hx, hgo, c1, Instr.u_a, ha, a2, a3, a4, a5, hma, hsa, c2', hk2, hk2', hk3, hk4, hk6, hm2, hs2]
                refine ih' ((m).set (k + 1) true, true, k + 1) _ _ (by simp; omega) ?_
                simp [g1, g3, g4]
                exact (hp.sets hkm2 hb2 (.next hk hrk (by rw [hx]; exact c2))).next hk
          | false =>
            rw [hba] at hma ha5
            try simp at hma
            try simp at hsa
            by_cases c2 : x.op ∈ endsL
            · have c2' : x.op = 5 := by simp [endsL] at c2; simp [goesL] at c1; omega
              simp only [c2'] at hgo
              simp [a_bolterlaw27_reached_L0, g1, g3, g4, g5, hk, hk', hkl, hml, hmi, Instr.cellsL_drop hk, w1, hk1, hx, hgo, c1, Instr.u_a, ha, a2, a3, a4, a5, hma, hsa, c2']
              refine ih' (m.set a true, true, k + 1) _ _ (by simp; omega) ?_
              simp [g1, g3, g4]
              exact (hp.sets am hba hra).next hk
            · have hk2 := hgn c2
              have hk2' : (k : Int) + 1 < c.instrs.length := by omega
              have hk3 : k + 1 + 1 ≤ c.instrs.length := by omega
              have hk4 : ¬ c.instrs.length ≤ k + 1 := by omega
              have hk6 : (0 : Int) ≤ (k : Int) + 1 := by omega
              have hkm2 : k + 1 < (m.set a true).length := by first | omega | (simp; omega)
              have hm2 : loadD false 1 (List.drop (k + 1) (boolsD (m.set a true))) = some (.bool (m.set a true)[k + 1]) := loadD_map hkm2
              have hk5 : (m.set a true)[k + 1]? = some (m.set a true)[k + 1] := List.getElem?_eq_getElem hkm2
              have hs2 := hsb (m.set a true) (k + 1) hkm2
              have c2' := c2
              simp [endsL] at c2'
              cases hb2 : (m.set a true)[k + 1] with
              | true =>
                rw [hb2] at hm2 hk5
                try simp at hm2
                try simp at hs2
                simp [a_bolterlaw27_reached_L0, g1, g3, g4, g5, hk, hk', hkl, hml, hmi, Instr.cellsL_drop hk, w1, hk1, hx, hgo, c1, Instr.u_a, ha, a2, a3, a4, a5, hma, hsa, c2', hk2, hk2', hk3, hk4, hk6, hm2, hs2]
                refine ih' (m.set a true, true, k + 1) _ _ (by simp; omega) ?_
                simp [g1, g3, g4]
                exact (hp.sets am hba hra).next hk
              | false =>
                rw [hb2] at hm2 hk5
                try simp at hm2
                try simp at hs2
                simp [a_bolterlaw27_reached_L0, g1, g3, g4, g5, hk, hk', hkl, hml, hmi, Instr.cellsL_drop hk, w1, hk1, hx, hgo, c1, Instr.u_a, ha, a2, a3, a4, a5, hma, hsa, c2', hk2, hk2', hk3, hk4, hk6, hm2, hs2]
                refine ih' ((m.set a true).set (k + 1) true, true, k + 1) _ _ (by simp; omega) ?_
                simp [g1, g3, g4]
                exact ((hp.sets am hba hra).sets hkm2 hb2 (.next hk hrk (by rw [hx]; exact c2))).next hk
        · simp only [c1, decide_false] at hgo
          by_cases c2 : x.op ∈ endsL
          · have c2' := c2
            simp [endsL] at c2'
            rcases c2' with c2' | c2' | c2' | c2' | c2' | c2' | c2' | c2'
            all_goals
              simp only [c2'] at hgo
              simp [a_bolterlaw27_reached_L0, g1, g3, g4, g5, hk, hk', hkl, hml, hmi, Instr.cellsL_drop hk, w1, hk1, hx, hgo, c1, Instr.u_a, hml, c2']
              refine ih' (m, ch, k + 1) _ _ (by simp; omega) ?_
              simp [g1, g3, g4]
              refine hp.skip hk (fun _ q => by rw [hx]; refine ⟨fun w => absurd w c1, fun w => absurd c2 w⟩)
          · have hk2 := hgn c2
            have hk2' : (k : Int) + 1 < c.instrs.length := by omega
            have hk3 : k + 1 + 1 ≤ c.instrs.length := by omega
            have hk4 : ¬ c.instrs.length ≤ k + 1 := by omega
            have hk6 : (0 : Int) ≤ (k : Int) + 1 := by omega
            have hkm2 : k + 1 < (m).length := by first | omega | (simp; omega)
            have hm2 : loadD false 1 (List.drop (k + 1) (boolsD (m))) = some (.bool (m)[k + 1]) := loadD_map hkm2
            have hk5 : (m)[k + 1]? = some (m)[k + 1] := List.getElem?_eq_getElem hkm2
            have hs2 := hsb (m) (k + 1) hkm2
            have c2' := c2
            simp [endsL] at c2'
            cases hb2 : (m)[k + 1] with
            | true =>
              rw [hb2] at hm2 hk5
              try simp at hm2
              try simp at hs2
              simp [a_bolterlaw27_reached_L0, g1, g3, g4, g5, hk, hk', hkl, hml, hmi, Instr.cellsL_drop hk, w1, hk1, hx, hgo, c1, Instr.u_a, hml, c2', hk2, hk2', hk3, hk4, hk6, hm2, hs2]
              refine ih' (m, ch, k + 1) _ _ (by simp; omega) ?_
              simp [g1, g3, g4]
              refine hp.skip hk (fun _ q => by rw [hx]; refine ⟨fun w => absurd w c1, fun w => ?_⟩; rw [hk5])
            | false =>
              rw [hb2] at hm2 hk5
              try simp at hm2
              try simp at hs2
              simp [a_bolterlaw27_reached_L0, g1, g3, g4, g5, hk, hk', hkl, hml, hmi, Instr.cellsL_drop hk, w1, hk1, hx, hgo, c1, Instr.u_a, hml, c2', hk2, hk2', hk3, hk4, hk6, hm2, hs2]
              refine ih' ((m).set (k + 1) true, true, k + 1) _ _ (by simp; omega) ?_
              simp [g1, g3, g4]
              exact (hp.sets hkm2 hb2 (.next hk hrk (by rw [hx]; exact c2))).next hk
    · have : k = c.instrs.length := by have := hp.le; omega
      subst this
      simp [a_bolterlaw27_reached_L0, g1, g3, g4, g5]
      refine ih (m, ch) _ _ ?_ ?_
      · cases ch with
        | false => simp [(hp.no rfl).1]
        | true => have := hp.yes rfl; simp; omega
      · simp [g1, g3, g4]
        exact ⟨hp.toSnd, fun q => (hp.no q).2⟩
theorem law27_num (hX : CX X) (n : Int) (H : Heap) : callΩ X (.func n_bolterlaw27_num [] []) [.int .i64 n] H = some (.int .i64 n, H) := by
  refine c_bolterlaw27_num hX (by simp) ?_
  simp [a_bolterlaw27_num_B, Env.ofArgs, List.nil_append, List.append_nil, FinR, FinP, finish, takesA, readRes, finishP, mapO, fz_SL, fz_agg, fz_ptr, fz_osl, fz_yield, fz_mp, fz_func, pack, fz_bool, fz_int, fz_str, fz_nilp, fz_nilsl, fz_nilf, fz_esl, fz_fptr, fz_fsl]
theorem peep_Reach (hX : CX X) (H : Heap) (c : Code) (hc : Code.ok c) :
    ∃ d H', callΩ X (.func n_peep_Reach [] []) [.agg c.cells] H = some (d, H') ∧ ((if chkC c = 0 then ∃ m : List Bool, d = .tup [.fsl (boolsD m) c.instrs.length, .int .i64 0] ∧ m.length = c.instrs.length ∧ ∀ i, m[i]? = some true ↔ Rch c.instrs i else d = .tup [.nilsl, .int .i64 (chkC c)]) ∧ H' = H) := by
  refine p_peep_Reach hX (by simp) ?_
  have h1 := fun H => code_Check hX H c hc
  by_cases hz : chkC c = 0
  · have hg := (good_of hz).1
    obtain ⟨d, H', e1, ⟨m, rfl, m1, m2⟩, rfl⟩ := peep_reach hX H c.instrsF c.instrs hg
    simp [a_peep_Reach_B, Env.ofArgs, List.nil_append, List.append_nil, FinR, FinP, finish, takesA, readRes, finishP, mapO, fz_SL, fz_agg, fz_ptr, fz_osl, fz_yield, fz_mp, fz_func, pack, fz_bool, fz_int, fz_str, fz_nilp, fz_nilsl, fz_nilf, fz_esl, fz_fptr, fz_fsl, h1, hz, e1, m1]
    exact ⟨m, rfl, m1, m2⟩
  · simp [a_peep_Reach_B, Env.ofArgs, List.nil_append, List.append_nil, FinR, FinP, finish, takesA, readRes, finishP, mapO, fz_SL, fz_agg, fz_ptr, fz_osl, fz_yield, fz_mp, fz_func, pack, fz_bool, fz_int, fz_str, fz_nilp, fz_nilsl, fz_nilf, fz_esl, fz_fptr, fz_fsl, h1, hz]
theorem PeepReaches (hX : CX X) (H : Heap) (c : Code) (hc : Code.ok c) : callΩ X (.func n_bolterlaw27_PeepReaches [] []) [.agg c.cells] H = some (.bool true, H) := by
  refine c_bolterlaw27_PeepReaches hX (by simp) ?_
  have h1 := fun H => ref25_Check hX H c hc
  obtain ⟨d, H', e1, hd, rfl⟩ := peep_Reach hX H c hc
  have hn := fun n H => law27_num hX n H
  by_cases hz : chkC c = 0
  · rw [if_pos hz] at hd
    obtain ⟨m, rfl, m1, m2⟩ := hd
    obtain ⟨d, H', e2, ⟨m', rfl, m3, m4⟩, rfl⟩ := law_reached hX H' c (good_of hz).1
    have hmm : m = m' := by
      apply List.ext_getElem (by omega)
      intro i hi hi'
      have q := (m2 i).trans (m4 i).symm
      rw [List.getElem?_eq_getElem hi, List.getElem?_eq_getElem hi'] at q
      simp at q
      cases ha : m[i] <;> cases hb : m'[i] <;> simp_all
    subst hmm
    simp [a_bolterlaw27_PeepReaches_B, Env.ofArgs, List.nil_append, List.append_nil, h1, hz, e1, e2, hn]
    have htop := (good_of hz).1.top
    refine YS_ind (fun k e H2 => H2 = H' ∧ k ≤ c.instrs.length ∧ e.get 3 = .fsl (boolsD m) c.instrs.length ∧ e.get 4 = .int .i64 0 ∧ e.get 6 = .fsl (boolsD m) c.instrs.length ∧ e.get 7 = .int .i64 k) (fun k => c.instrs.length - k) ?_ 0 (by simp)
    rintro k e H2 ⟨rfl, hk, g3, g4, g6, g7⟩ L ih
    by_cases h : k < c.instrs.length
    · have hkm : k < m.length := by omega
      have hmi : loadD false 1 (List.drop k (boolsD m)) = some (.bool m[k]) := loadD_map hkm
      have h' : (k : Int) < c.instrs.length := by omega
      have hk1 : k + 1 ≤ c.instrs.length := by omega
      have hk2 : ¬ c.instrs.length ≤ k := by omega
      have w1 : IntKind.i64.wrap ((k : Int) + 1) = (k : Int) + 1 := wrap_i64 (by omega) (by omega)
      simp [a_bolterlaw27_PeepReaches_L0, g3, g4, g6, g7, h, h', hk1, hk2, hmi, w1, m1]
      refine ih (k + 1) _ _ (by omega) ?_
      simp [g3, g4, g6]
      omega
    · have : k = c.instrs.length := by omega
      subst this
      simp [a_bolterlaw27_PeepReaches_L0, FinR, FinP, finish, takesA, readRes, finishP, mapO, fz_SL, fz_agg, fz_ptr, fz_osl, fz_yield, fz_mp, fz_func, pack, fz_bool, fz_int, fz_str, fz_nilp, fz_nilsl, fz_nilf, fz_esl, fz_fptr, fz_fsl, g3, g4, g6, g7, hn, c_bolterlaw27_alive hX]
  · rw [if_neg hz] at hd
    subst hd
    simp [a_bolterlaw27_PeepReaches_B, Env.ofArgs, List.nil_append, List.append_nil, FinR, FinP, finish, takesA, readRes, finishP, mapO, fz_SL, fz_agg, fz_ptr, fz_osl, fz_yield, fz_mp, fz_func, pack, fz_bool, fz_int, fz_str, fz_nilp, fz_nilsl, fz_nilf, fz_esl, fz_fptr, fz_fsl, h1, hz, e1, hn, c_bolterlaw27_alive hX]
end
end Go.AM.T
