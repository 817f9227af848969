/- Threading, walked. -/
import Derived.Test.YtjcnlakifipmgaaGreatDoorWalkH
import Derived.Test.YtjcnlakifipmgaaGreatDoorWalkI
set_option linter.unusedVariables false
set_option linter.unusedSimpArgs false
set_option linter.unnecessarySimpa false
set_option maxRecDepth 100000
/- Threading; the row. -/
namespace Go.AM.T
section
variable {X : Ctx}
theorem value_Clones (hX : CX X) (H : Heap) {f : Nl} (hf : f ≠ .emp) (l : List Val) (hl : l.length ≤ 4096) (hn : ∀ v ∈ l, nE v) (ha : ∀ v ∈ l, allS v = 0) :
    callΩ X (.func n_value_Clones [] []) [SL f (Val.cellsL l) l.length] H = some (SL (clF f) (Val.cellsL (l.map cl)) l.length, H) := by
  refine c_value_Clones hX (by simp) ?_
  have h := fun H => value_Clone hX (.mk 0 (.mk false .nil [] 0) [] f l .nil []) H (by rw [nE_iff]; exact ⟨by simp [Val.num, Dec.coefF], hf, by simp [Val.keysF], hn⟩) ⟨hl, by simp [Val.keys], by simp [Val.num, Dec.coef], ha⟩
  have hs : SL .nil [] 0 = .nilsl := rfl
  have hcf : clF .nil = .nil := rfl
  simp [cl_eq, hcf, Val.cells_eq, Dec.cells_eq, Val.kind, Val.num, Val.text, Val.list, Val.listF, Val.keysF, Val.keys, Dec.neg, Dec.coef, Dec.coefF, Dec.exp] at h
  simp only [hs] at h
  simp [a_value_Clones_B, Env.ofArgs, List.nil_append, List.append_nil, FinR, FinP, finish, fz_osl, z2, h, loadD]
/-- The first k are turned. -/
def mixI (l : List Instr) (k : Nat) : List Instr := List.take k (thr l) ++ List.drop k l
theorem mixI_len (l : List Instr) (k : Nat) : (mixI l k).length = l.length := by
  unfold mixI; rw [List.length_append, List.length_take, thr_len, List.length_drop]; omega
theorem mixI_get {l : List Instr} {k : Nat} (h : k < l.length) : (mixI l k)[k]'(by rw [mixI_len]; exact h) = l[k] := by
  have h1 : k < (mixI l k).length := by rw [mixI_len]; exact h
  have e : (List.take k (thr l)).length = k := by rw [List.length_take, thr_len]; omega
  have h2 : (mixI l k)[k]? = some l[k] := by
    unfold mixI
    rw [List.getElem?_append_right (by omega), e, Nat.sub_self, List.drop_eq_getElem_cons h]; rfl
  rw [List.getElem?_eq_getElem h1] at h2
  exact Option.some.inj h2
theorem mixI_set {l : List Instr} {k : Nat} (h : k < l.length) : (mixI l k).set k (thrI l l[k]) = mixI l (k + 1) := by
  have e : (List.take k (thr l)).length = k := by rw [List.length_take, thr_len]; omega
  unfold mixI
  rw [List.set_append_right _ _ (by omega), e, Nat.sub_self, List.drop_eq_getElem_cons h, List.set_cons_zero, List.take_succ_eq_append_getElem (by rw [thr_len]; exact h), thr_get]
  simp
theorem mixI_skip {l : List Instr} {k : Nat} (h : k < l.length) (hs : l[k].op ∉ goesL) : mixI l (k + 1) = mixI l k := by
  rw [← mixI_set h, thrI_no hs]
  have h1 : k < (mixI l k).length := by rw [mixI_len]; exact h
  conv => lhs; rw [← mixI_get h]
  exact List.set_getElem_self h1
theorem mixI_all (l : List Instr) : mixI l l.length = thr l := by
  unfold mixI; rw [List.take_of_length_le (by rw [thr_len]; omega)]; simp
theorem insL_set {l : List Instr} {k : Nat} (hk : k < l.length) (a : Int) : List.take (k * 3 + 1) (Instr.cellsL l) ++ (D.int .i64 a :: List.drop (k * 3 + 1 + 1) (Instr.cellsL l)) = Instr.cellsL (l.set k (.mk l[k].op a l[k].b)) := by
  have e : l.set k (.mk l[k].op a l[k].b) = l.take k ++ (.mk l[k].op a l[k].b :: l.drop (k + 1)) := by rw [List.set_eq_take_append_cons_drop, if_pos hk]
  have e2 : l = l.take k ++ (l[k] :: l.drop (k + 1)) := by rw [← List.drop_eq_getElem_cons hk, List.take_append_drop]
  have h1 : (Instr.cellsL (l.take k)).length = k * 3 := by rw [Instr.cellsL_length, List.length_take]; omega
  have hc := Instr.cells_eq l[k]
  have e3 : Instr.cellsL l = Instr.cellsL (l.take k) ++ (D.int .i64 l[k].op :: D.int .i64 l[k].a :: D.int .i64 l[k].b :: Instr.cellsL (l.drop (k + 1))) := by
    conv => lhs; rw [e2, Instr.cellsL_append]
    simp only [Instr.cellsL, hc]; rfl
  rw [e, Instr.cellsL_append, e3]
  have t1 : List.take (k * 3 + 1) (Instr.cellsL (l.take k) ++ (D.int .i64 l[k].op :: D.int .i64 l[k].a :: D.int .i64 l[k].b :: Instr.cellsL (l.drop (k + 1)))) = Instr.cellsL (l.take k) ++ [D.int .i64 l[k].op] := by
    rw [← h1, List.take_length_add_append]; rfl
  have t2 : List.drop (k * 3 + 1 + 1) (Instr.cellsL (l.take k) ++ (D.int .i64 l[k].op :: D.int .i64 l[k].a :: D.int .i64 l[k].b :: Instr.cellsL (l.drop (k + 1)))) = D.int .i64 l[k].b :: Instr.cellsL (l.drop (k + 1)) := by
    rw [← h1, Nat.add_assoc, List.drop_length_add_append]; rfl
  rw [t1, t2]
  simp only [Instr.cellsL, Instr.cells]
  simp
set_option maxHeartbeats 1000000 in
theorem peep_thread (hX : CX X) (H : Heap) {f : Nl} (hf : f ≠ .emp) (l : List Instr) (hg : Good l) :
    callΩ X (.func n_peep_thread [] []) [SL f (Instr.cellsL l) l.length] H = some (SL (clF f) (Instr.cellsL (thr l)) l.length, H) := by
  refine c_peep_thread hX (by simp) ?_
  have htop := hg.top
  have e1 := fun H => slices_Clone_api_Instr_api_Instr hX H hf l.length (Instr.cellsL l) (Instr.cellsL_length _) (by omega) (fun m => Instr.unders_L _ _) (Instr.ones_L _)
  simp [a_peep_thread_B, Env.ofArgs, List.nil_append, List.append_nil, e1]
  refine YS_ind (fun (k : Nat) e H' => H' = H ++ [.row 3 (Instr.cellsL (mixI l k)) (clN f l.length)] ∧ k ≤ l.length ∧ e.get 0 = SL f (Instr.cellsL l) l.length ∧ e.get 3 = .osl H.length (l.length * 3) 0 l.length ∧ e.get 8 = .osl H.length (l.length * 3) 0 l.length ∧ e.get 9 = .int .i64 l.length ∧ e.get 10 = .int .i64 k) (fun k => l.length - k) ?_ 0 (by simp [mixI])
  rintro k e H' ⟨rfl, hk, g0, g3, g8, g9, g10⟩ L ih
  have hml := mixI_len l k
  have hcl : (Instr.cellsL (mixI l k)).length = l.length * 3 := by rw [Instr.cellsL_length, hml]
  by_cases h : k < l.length
  · have hcn : clN f l.length = false := by
      cases hq : l.length with
      | zero => omega
      | succ n => cases f <;> rfl
    have h' : (k : Int) < l.length := by omega
    have hget : List.drop (k * 3) (Instr.cellsL (mixI l k)) = l[k].cells ++ Instr.rest (mixI l k) k := by
      rw [Instr.cellsL_drop (l := mixI l k) (by omega), mixI_get h]
    have w1 : IntKind.i64.wrap ((k : Int) + 1) = (k : Int) + 1 := wrap_i64 (by omega) (by omega)
    have hk3 : k * 3 + 1 + 1 ≤ l.length * 3 := by omega
    have hgo := fun H => code_Goes hX l[k].op H
    rw [hcn]
    by_cases c1 : l[k].op ∈ goesL
    · rw [decide_eq_true c1] at hgo
      obtain ⟨a0, a1⟩ := hg.go k h c1
      obtain ⟨a, ha⟩ : ∃ a : Nat, l[k].a = a := ⟨l[k].a.toNat, by omega⟩
      have hl := fun H => peep_land hX H f l hg a (by omega)
      have hset := insL_set (l := mixI l k) (k := k) (by omega) (landS l (noM l) a)
      rw [mixI_get h] at hset
      have hti : thrI l l[k] = .mk l[k].op (landS l (noM l) a) l[k].b := by unfold thrI; rw [if_pos c1, ha]; rfl
      rw [← hti, mixI_set h] at hset
      unfold noM at hset
      simp [a_peep_thread_L0, g0, g3, g8, g9, g10, h, h', hgo, ha, hl, hcl, hget, hset, w1, hk3, Instr.u_a]
      refine ih (k + 1) _ _ (by omega) ?_
      simp [g0, g3, g8, g9, hcn]
      omega
    · rw [decide_eq_false c1] at hgo
      have hsk := mixI_skip h c1
      simp [a_peep_thread_L0, g0, g3, g8, g9, g10, h, h', hgo, hcl, hget, w1]
      refine ih (k + 1) _ _ (by omega) ?_
      simp [g0, g3, g8, g9, hcn, hsk]
      omega
  · obtain rfl : k = l.length := by omega
    have e := mixI_all l
    rw [e] at hcl
    have hfz : ∀ (g : Nat), fz (H ++ [.row 3 (Instr.cellsL (thr l)) (clN f l.length)]) H.length (g + 2) (.osl H.length (l.length * 3) 0 l.length) = some (SL (clF f) (Instr.cellsL (thr l)) l.length) := fun g =>
      clN_SL (by omega) (by rw [getH0]; rfl) hcl (Instr.fz_L _) (Instr.unders_L _ _) (Instr.ones_L _)
    simp [a_peep_thread_L0, FinR, FinP, finish, g0, g3, g8, g9, g10, e, hfz]
theorem code_cells (f : Nl) (a : List Instr) (g : Nl) (b : List Val) : (Code.mk f a g b).cells = [SL f (Instr.cellsL a) a.length, SL g (Val.cellsL b) b.length] := by simp only [Code.cells]; rfl
theorem peep_Thread (hX : CX X) (H : Heap) (c : Code) (hc : Code.ok c) (h1 : c.instrsF ≠ .emp) (h2 : c.constsF ≠ .emp) (hn : ∀ v ∈ c.consts, nE v) :
    callΩ X (.func n_peep_Thread [] []) [.agg c.cells] H = some (if chkC c = 0 then .tup [.agg (Code.mk (clF c.instrsF) (thr c.instrs) (clF c.constsF) (c.consts.map cl)).cells, .int .i64 0] else .tup [.agg [.nilsl, .nilsl], .int .i64 (chkC c)], H) := by
  refine c_peep_Thread hX (by simp) ?_
  have hch := fun H => code_Check hX H c hc
  by_cases hz : chkC c = 0
  · obtain ⟨hg, hk, hkl, _⟩ := good_of hz
    have e1 := fun H => peep_thread hX H h1 c.instrs hg
    have e2 := fun H => value_Clones hX H h2 c.consts hkl hn (fun v hv => all_chk (chksS_zero.1 hk v hv))
    have hcv := code_cells (clF c.instrsF) (thr c.instrs) (clF c.constsF) (c.consts.map cl)
    rw [if_pos hz, hcv]
    simp [a_peep_Thread_B, Env.ofArgs, List.nil_append, List.append_nil, FinR, FinP, finish, fz_osl, hch, hz, e1, e2, z1, storable, loadD_t2, thr_len]
  · rw [if_neg hz]
    simp [a_peep_Thread_B, Env.ofArgs, List.nil_append, List.append_nil, FinR, FinP, finish, fz_osl, hch, hz, z1, storable, loadD_t2]
end
end Go.AM.T
/- PeepThreads. -/
namespace Go.AM.T
section
variable {X : Ctx}
/-- A code whose empty slices are told apart. -/
def okN (c : Code) : Prop := Code.ok c ∧ c.instrsF ≠ .emp ∧ c.constsF ≠ .emp ∧ ∀ v ∈ c.consts, nE v
set_option maxHeartbeats 1000000 in
theorem PeepThreads (hX : CX X) (H : Heap) (c : Code) (hc : okN c) : callΩ X (.func n_bolterlaw27_PeepThreads [] []) [.agg c.cells] H = some (.bool true, H) := by
  obtain ⟨hc, hf1, hf2, hne⟩ := hc
  refine c_bolterlaw27_PeepThreads hX (by simp) ?_
  have h1 := fun H => ref25_Check hX H c hc
  have hn := fun n H => law27_num hX n H
  have hal := fun H => c_bolterlaw27_alive hX (H := H)
  have ht := fun H => peep_Thread hX H c hc hf1 hf2 hne
  by_cases hz : chkC c = 0
  · simp only [hz, if_true] at ht
    have hkc : (c.consts.map cl).map nrm = c.consts.map nrm := by
      rw [List.map_map]; exact List.map_congr_left fun x _ => nrm_cl x
    have hzd : chkC (.mk (clF c.instrsF) (thr c.instrs) (clF c.constsF) (c.consts.map cl)) = 0 := chk_thr hz hkc
    obtain ⟨hg, hk, hkl, _⟩ := good_of hz
    generalize hdc : Code.mk (clF c.instrsF) (thr c.instrs) (clF c.constsF) (c.consts.map cl) = d at ht hzd
    have hd1 : d.instrs = thr c.instrs := by rw [← hdc]; rfl
    have hd2 : d.consts = c.consts.map cl := by rw [← hdc]; rfl
    have hd3 : d.instrs.length = c.instrs.length := by rw [hd1, thr_len]
    have hok : Code.ok d := by
      refine ⟨by rw [hd3]; exact hc.1, by rw [hd2, List.length_map]; exact hc.2.1, fun x hx => ?_⟩
      rw [hd2] at hx
      obtain ⟨y, hy, rfl⟩ := List.mem_map.1 hx
      exact wf_of (nrm_cl y) (hc.2.2 y hy)
    have h2 := fun H => ref25_Check hX H d hok
    have hsa := fun H => ref05_SameAll hX H c.constsF d.constsF c.consts d.consts hc.2.1 hc.2.2
    have hsd : c.consts.map nrm = d.consts.map nrm := by rw [hd2, hkc]
    rw [decide_eq_true hsd] at hsa
    have htop := hg.top
    simp [a_bolterlaw27_PeepThreads_B, Env.ofArgs, List.nil_append, List.append_nil, h1, hz, hal, ht, hn, hd3, hsa]
    refine YS_ind (fun k e H2 => H2 = H ∧ k ≤ c.instrs.length ∧ e.get 1 = .fptr c.cells ∧ e.get 3 = .fptr d.cells ∧ e.get 5 = .int .i64 k) (fun k => c.instrs.length - k) ?_ 0 (by simp)
    rintro k e H2 ⟨rfl, hk, g1, g3, g5⟩ L ih
    by_cases h : k < c.instrs.length
    · have h' : (k : Int) < c.instrs.length := by omega
      have hdk : k < d.instrs.length := by omega
      have hget : d.instrs[k] = thrI c.instrs c.instrs[k] := by simp only [hd1]; exact thr_get _ _
      have hl1 := Instr.cellsL_drop h
      have hl2 := Instr.cellsL_drop hdk
      rw [hget] at hl2
      have w1 : IntKind.i64.wrap ((k : Int) + 1) = (k : Int) + 1 := wrap_i64 (by omega) (by omega)
      have hgo := fun H => ref_Goes hX c.instrs[k].op H
      by_cases c1 : c.instrs[k].op ∈ goesL
      · rw [decide_eq_true c1] at hgo
        obtain ⟨a0, a1⟩ := hg.go k h c1
        obtain ⟨a, ha⟩ : ∃ a : Nat, c.instrs[k].a = a := ⟨c.instrs[k].a.toNat, by omega⟩
        have hla := fun H => law_land hX H c hg a (by omega)
        have ha2 := thrI_go (l := c.instrs) c1
        rw [ha] at ha2
        unfold noM at ha2
        simp at ha2
        simp [a_bolterlaw27_PeepThreads_L0, g1, g3, g5, h, h', hd3, hl1, hl2, hgo, ha, hla, ha2, thrI_op, thrI_b, w1, hdk]
        refine ih (k + 1) _ _ (by omega) ?_
        simp [g1, g3]
        omega
      · rw [decide_eq_false c1] at hgo
        simp [a_bolterlaw27_PeepThreads_L0, g1, g3, g5, h, h', hd3, hl1, hl2, hgo, thrI_no c1, w1, hdk]
        refine ih (k + 1) _ _ (by omega) ?_
        simp [g1, g3]
        omega
    · obtain rfl : k = c.instrs.length := by omega
      simp [a_bolterlaw27_PeepThreads_L0, FinR, FinP, finish, fz_osl, g1, g3, g5, h2, hzd]
  · simp only [hz, if_false] at ht
    simp [a_bolterlaw27_PeepThreads_B, Env.ofArgs, List.nil_append, List.append_nil, FinR, FinP, finish, fz_osl, h1, hz, hal, ht, hn, loadD_one]
end
end Go.AM.T
