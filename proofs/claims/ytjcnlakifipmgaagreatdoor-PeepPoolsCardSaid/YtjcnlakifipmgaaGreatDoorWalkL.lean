/- PeepPools, walked. -/
import Derived.Test.YtjcnlakifipmgaaGreatDoorWalkK
set_option linter.unusedVariables false
set_option linter.unusedSimpArgs false
set_option linter.unnecessarySimpa false
set_option maxRecDepth 100000
/- PeepPools. -/
namespace Go.AM.T
section
variable {X : Ctx}
theorem const_rng {c : Code} (h : chkC c = 0) : ∀ x ∈ c.instrs, x.op = 1 → 0 ≤ x.a ∧ x.a < c.consts.length := by
  intro x hx h1
  have := ((chkC_zero.1 h).2.2.2.1 x hx).2
  unfold mayS limS at this
  rw [h1] at this
  simp at this
  omega
theorem peep_Pool (hX : CX X) (H : Heap) (c : Code) (hc : okN c) :
    callΩ X (.func n_peep_Pool [] []) [.agg c.cells] H = some (if chkC c = 0 then .tup [.agg (Code.mk .full (poolG c.consts c.instrs []).1 .nil (poolG c.consts c.instrs []).2).cells, .int .i64 0] else .tup [.agg [.nilsl, .nilsl], .int .i64 (chkC c)], H) := by
  obtain ⟨hc, hf1, hf2, hne⟩ := hc
  refine c_peep_Pool hX (by simp) ?_
  have hch := fun H => code_Check hX H c hc
  by_cases hz : chkC c = 0
  · obtain ⟨hg, hk, hkl, _⟩ := good_of hz
    have htop := hg.top
    have e1 : ∀ H, callΩ X (.func n_peep_pool [] []) [.agg c.cells] H = some (.agg (Code.mk .full (poolG c.consts c.instrs []).1 .nil (poolG c.consts c.instrs []).2).cells, H) := fun H => by
      have hcc : c.cells = [.fsl (Instr.cellsL c.instrs) c.instrs.length, SL c.constsF (Val.cellsL c.consts) c.consts.length] := by rw [Code.cells_eq, SL_pos hg.pos]; rfl
      rw [hcc]
      exact pool_I hX (RdI.frz H hg.pos) htop c.constsF c.consts (const_rng hz) (fun v hv => ⟨hc.2.2 v hv, hne v hv, all_chk (chksS_zero.1 hk v hv)⟩)
    rw [if_pos hz]
    generalize Code.mk .full (poolG c.consts c.instrs []).1 .nil (poolG c.consts c.instrs []).2 = d at *
    have hsd : ∀ b H i, storable b H i d.cells = true := fun b H i => storable_U (Code.unders _) (Code.ones _)
    simp [a_peep_Pool_B, Env.ofArgs, List.nil_append, List.append_nil, FinR, FinP, finish, fz_osl, hch, hz, e1, z1, hsd]
  · rw [if_neg hz]
    simp [a_peep_Pool_B, Env.ofArgs, List.nil_append, List.append_nil, FinR, FinP, finish, fz_osl, hch, hz, z1, storable, loadD_t2]
theorem eqA3b (x y : Instr) : eqKs [.i, .i, .i] x.cells y.cells = some true ↔ x = y := by rw [eqA3]; simp
set_option maxHeartbeats 2000000 in
theorem PeepPools (hX : CX X) (H : Heap) (c : Code) (hcN : okN c) : callΩ X (.func n_bolterlaw27_PeepPools [] []) [.agg c.cells] H = some (.bool true, H) := by
  refine c_bolterlaw27_PeepPools hX (by simp) ?_
  have ht := fun H => peep_Pool hX H c hcN
  obtain ⟨hc, hf1, hf2, hne⟩ := hcN
  have h1 := fun H => ref25_Check hX H c hc
  have hn := fun n H => law27_num hX n H
  have hal := fun H => c_bolterlaw27_alive hX (H := H)
  by_cases hz : chkC c = 0
  · simp only [hz, if_true] at ht
    obtain ⟨hg, hk, hkl, _⟩ := good_of hz
    have hcr := const_rng hz
    generalize hdc : Code.mk .full (poolG c.consts c.instrs []).1 .nil (poolG c.consts c.instrs []).2 = d at ht
    have hd1 : d.instrs = (poolG c.consts c.instrs []).1 := by rw [← hdc]; rfl
    have hd2 : d.consts = (poolG c.consts c.instrs []).2 := by rw [← hdc]; rfl
    have hd3 : d.instrs.length = c.instrs.length := by rw [hd1, poolG_len]
    have htop := hg.top
    simp [a_bolterlaw27_PeepPools_B, Env.ofArgs, List.nil_append, List.append_nil, h1, hz, hal, ht, hn]
    refine YS_ind (fun (q : Nat × List Val) e H2 => H2 = H ∧ q.1 ≤ c.instrs.length ∧ q.2.length ≤ q.1 ∧ e.get 1 = .fptr c.cells ∧ e.get 3 = .fptr d.cells ∧ e.get 6 = .int .i64 q.1 ∧ e.get 5 = .int .i64 q.2.length ∧ d.instrs.drop q.1 = (poolG c.consts (c.instrs.drop q.1) q.2).1 ∧ d.consts = (poolG c.consts (c.instrs.drop q.1) q.2).2) (fun q => c.instrs.length - q.1) ?_ (0, []) (by simp [hd1, hd2])
    rintro ⟨k, ws⟩ e H2 ⟨rfl, hk, hwl, g1, g3, g6, g5, hp1, hp2⟩ L ih
    simp only at hk hwl g1 g3 g6 g5 hp1 hp2 ih
    by_cases h : k < c.instrs.length
    · have h' : (k : Int) < c.instrs.length := by omega
      have hdk : k < d.instrs.length := by omega
      have hdk' : (k : Int) < d.instrs.length := by omega
      have hl1 := Instr.cellsL_drop h
      have hl2 := Instr.cellsL_drop hdk
      have w1 : IntKind.i64.wrap ((k : Int) + 1) = (k : Int) + 1 := wrap_i64 (by omega) (by omega)
      rw [List.drop_eq_getElem_cons h, poolG] at hp1 hp2
      rw [List.drop_eq_getElem_cons hdk] at hp1
      by_cases c1 : c.instrs[k].op = 1
      · rw [if_pos c1] at hp1 hp2
        obtain ⟨p1, p2⟩ := List.cons.inj hp1
        simp only at p1 p2 hp2
        obtain ⟨a0, a1⟩ := hcr c.instrs[k] (by simp) c1
        obtain ⟨a, ha⟩ : ∃ a : Nat, c.instrs[k].a = a := ⟨c.instrs[k].a.toNat, by omega⟩
        have ha1 : a < c.consts.length := by omega
        have ha1' : (a : Int) < c.consts.length := by omega
        have hca : cAt c.consts c.instrs[k].a = c.consts[a] := by unfold cAt; rw [ha, Int.toNat_natCast, List.getElem?_eq_getElem ha1]; rfl
        rw [hca] at p1 p2 hp2
        have q1 : d.instrs[k].op = 1 := by rw [p1]; exact c1
        have q2 : d.instrs[k].a = ix c.consts[a] ws := by rw [p1]; rfl
        have hlL := Val.cellsL_drop ha1
        have hle := ix_le c.consts[a] ws
        obtain ⟨t, ht2⟩ := poolG_pre c.consts (c.instrs.drop (k + 1)) (addW c.consts[a] ws)
        obtain ⟨i1, i2⟩ := addW_ix c.consts[a] ws
        have hmx := addW_max c.consts[a] ws
        have i3 : ix c.consts[a] ws < d.consts.length := by rw [hp2, ht2, List.length_append]; omega
        have i3' : ((ix c.consts[a] ws : Nat) : Int) < d.consts.length := by omega
        have i3'' : ¬ (d.consts.length : Int) ≤ ((ix c.consts[a] ws : Nat) : Int) := by omega
        have i4 : d.consts[ix c.consts[a] ws]'i3 = (addW c.consts[a] ws)[ix c.consts[a] ws]'i1 := by
          simp only [hp2, ht2]
          rw [List.getElem_append_left i1]
        have hlD := Val.cellsL_drop i3
        have hsm := fun H => ref05_Same hX c.consts[a] (d.consts[ix c.consts[a] ws]'i3) H (hc.2.2 _ (by simp))
        rw [i4, ← i2] at hsm
        simp at hsm
        rw [i4] at hlD
        have hle' : ¬ (ws.length : Int) < ((ix c.consts[a] ws : Nat) : Int) := by omega
        have w2 : IntKind.i64.wrap (((ix c.consts[a] ws : Nat) : Int) + 1) = ((ix c.consts[a] ws : Nat) : Int) + 1 := wrap_i64 (by omega) (by omega)
        have hmx' : max (ws.length : Int) (((ix c.consts[a] ws : Nat) : Int) + 1) = ((addW c.consts[a] ws).length : Int) := by rw [← hmx]; omega
        have hal2 := addW_len c.consts[a] ws
        generalize hvv : c.consts[a] = v at *
        generalize (addW v ws)[ix v ws]'i1 = u at *
        simp [a_bolterlaw27_PeepPools_L0, g1, g3, g6, g5, h, h', hl1, hl2, hdk, hdk', w1, c1, q1, q2, ha, ha1, ha1', hlL, i3, i3', i3'', hlD, hsm, hle', hle, w2, hmx', Instr.u_a]
        refine ih (k + 1, addW v ws) _ _ (by simp; omega) ?_
        simp [g1, g3, p2, hp2]
        omega
      · rw [if_neg c1] at hp1 hp2
        obtain ⟨p1, p2⟩ := List.cons.inj hp1
        simp only at p1 p2 hp2
        rw [p1] at hl2
        have he := eqA3 c.instrs[k] c.instrs[k]
        simp at he
        simp [a_bolterlaw27_PeepPools_L0, g1, g3, g6, g5, h, h', hl1, hl2, hdk, hdk', w1, c1, he]
        refine ih (k + 1, ws) _ _ (by simp; omega) ?_
        simp [g1, g3, g5, p2, hp2]
        omega
    · obtain rfl : k = c.instrs.length := by omega
      simp [poolG] at hp2
      have hwf : ∀ w ∈ d.consts, w.wf := fun w hw => by
        rw [hd2] at hw
        rcases poolG_mem _ _ _ _ hw with q | ⟨x, hx, x1, rfl⟩
        · simp at q
        · obtain ⟨a0, a1⟩ := hcr x hx x1
          have ha1 : x.a.toNat < c.consts.length := by omega
          refine wf_of (nrm_cl _) ?_
          unfold cAt
          rw [List.getElem?_eq_getElem ha1]
          exact hc.2.2 _ (by simp)
      have hdst : Dst d.consts := by rw [hd2]; exact poolG_dst _ _ _ (by intro i j _ hj; simp at hj)
      rw [← hp2] at g5 hwl
      clear ih
      simp [a_bolterlaw27_PeepPools_L0, g1, g3, g6, g5]
      refine YS_ind (fun (i : Nat) e H3 => H3 = H2 ∧ i ≤ d.consts.length ∧ e.get 1 = .fptr c.cells ∧ e.get 3 = .fptr d.cells ∧ e.get 5 = .int .i64 d.consts.length ∧ e.get 9 = .int .i64 i) (fun i => d.consts.length - i) ?_ 0 (by simp [g1, g3, g5])
      clear g1 g3 g5 g6
      rintro i e H3 ⟨rfl, hi, g1, g3, g5, g9⟩ L ih
      by_cases h : i < d.consts.length
      · have h' : (i : Int) < d.consts.length := by omega
        have w1 : IntKind.i64.wrap ((i : Int) + 1) = (i : Int) + 1 := wrap_i64 (by omega) (by omega)
        simp [a_bolterlaw27_PeepPools_L2, g1, g3, g5, g9, h, h']
        refine YS_ind (fun (j : Nat) e H4 => H4 = H3 ∧ j ≤ i ∧ e.get 1 = .fptr c.cells ∧ e.get 3 = .fptr d.cells ∧ e.get 5 = .int .i64 d.consts.length ∧ e.get 9 = .int .i64 i ∧ e.get 10 = .int .i64 j) (fun j => i - j) ?_ 0 (by simp [g1, g3, g5, g9])
        clear g1 g3 g5 g9
        rintro j e H4 ⟨rfl, hj, g1, g3, g5, g9, g10⟩ L' ih'
        by_cases hji : j < i
        · have hji' : (j : Int) < i := by omega
          have hjd : j < d.consts.length := by omega
          have hjd' : (j : Int) < d.consts.length := by omega
          have w2 : IntKind.i64.wrap ((j : Int) + 1) = (j : Int) + 1 := wrap_i64 (by omega) (by omega)
          have hsm := fun H => ref05_Same hX d.consts[i] d.consts[j] H (hwf _ (by simp))
          rw [decide_eq_false (hdst j i hji h)] at hsm
          simp [a_bolterlaw27_PeepPools_L1, g1, g3, g5, g9, g10, h, h', hji, hji', hjd, hjd', Val.cellsL_drop h, Val.cellsL_drop hjd, hsm, w2]
          refine ih' (j + 1) _ _ (by omega) ?_
          simp [g1, g3, g5, g9]
          omega
        · obtain rfl : j = i := by omega
          simp [a_bolterlaw27_PeepPools_L1, g1, g3, g5, g9, g10, w1]
          refine ih (j + 1) _ _ (by omega) ?_
          simp [g1, g3, g5]
          omega
      · obtain rfl : i = d.consts.length := by omega
        simp [a_bolterlaw27_PeepPools_L2, FinR, FinP, finish, fz_osl, g1, g3, g5, g9, hd3]
  · simp only [hz, if_false] at ht
    simp [a_bolterlaw27_PeepPools_B, Env.ofArgs, List.nil_append, List.append_nil, FinR, FinP, finish, fz_osl, h1, hz, hal, ht, hn, loadD_one]
end
end Go.AM.T
