/- Shortening, walked. -/
import Derived.Test.YtjcnlakifipmgaaGreatDoorWalkM
import Derived.Test.YtjcnlakifipmgaaGreatDoorWalkK
set_option linter.unusedVariables false
set_option linter.unusedSimpArgs false
set_option linter.unnecessarySimpa false
set_option maxRecDepth 100000
/- Instructions that stay: the walk. -/
namespace Go.AM.T
section
variable {X : Ctx}
noncomputable def markS (l : List Instr) : List Bool := (List.range l.length).map (rchB l)
theorem markS_get {l : List Instr} {i : Nat} (h : i < (markS l).length) : (markS l)[i] = rchB l i := by simp [markS]
theorem reach_I (hX : CX X) (H : Heap) (l : List Instr) (hg : Good l) : callΩ X (.func n_peep_reach [] []) [.fsl (Instr.cellsL l) l.length] H = some (.fsl (boolsD (markS l)) l.length, H) := by
  obtain ⟨d, H', e, ⟨m, rfl, hm, hr⟩, rfl⟩ := peep_reach hX H .full l hg
  rw [SL_full] at e
  rw [e]
  have : m = markS l := by
    refine List.ext_getElem (by simp [markS, hm]) fun i h1 h2 => ?_
    rw [markS_get]
    have := hr i
    rw [List.getElem?_eq_getElem h1] at this
    unfold rchB
    cases hb : m[i] with
    | true => rw [hb] at this; exact (decide_eq_true (this.1 rfl)).symm
    | false =>
      rw [hb] at this
      exact (decide_eq_false (fun q => by have := this.2 q; simp at this)).symm
  rw [this]
theorem once_1 (hX : CX X) (H : Heap) (l : List Instr) (i : Nat) (h : i < l.length) : callΩ X (.func n_peep_once_1 [] [.fptr [.fsl (boolsD (markS l)) l.length]]) [.int .i64 i] H = some (.bool (rchB l i), H) := by
  refine c_peep_once_1 hX (by simp) ?_
  have h' : (i : Int) < l.length := by omega
  have hm : i < (markS l).length := by simp [markS, h]
  have hl : loadD false 1 (List.drop i (boolsD (markS l))) = some (.bool (rchB l i)) := by rw [← markS_get hm]; exact loadD_map hm
  simp [a_peep_once_1_B, Env.ofArgs, List.nil_append, List.append_nil, FinR, FinP, finish, fz_osl, h, h', hl]
theorem once_2 (hX : CX X) (H x : Heap) (l : List Instr) (htop : l.length ≤ 16384) (id : Nat) (hid : H[id]? = some (.box [.fsl (Instr.cellsL l) l.length])) (i : Nat) (h : i < l.length) : callΩ X (.func n_peep_once_2 [] [.ptr id 0]) [.int .i64 i] (H ++ x) = some (.bool (jnx l i), H ++ x) := by
  refine c_peep_once_2 hX (by simp) ?_
  have h' : (i : Int) < l.length := by omega
  have hlt : id < H.length := (List.getElem?_eq_some_iff.1 hid).1
  have hb : (H ++ x)[id]? = some (.box [.fsl (Instr.cellsL l) l.length]) := by rw [List.getElem?_append_left hlt]; exact hid
  have w1 : IntKind.i64.wrap ((i : Int) + 1) = (i : Int) + 1 := wrap_i64 (by omega) (by omega)
  have hj : jnx l i = !(decide (l[i].op = 5) && decide (l[i].a = (i : Int) + 1)) := by unfold jnx; rw [List.getElem?_eq_getElem h]
  have ht : List.take (H.length + x.length) (H ++ x) = H ++ x := by rw [← List.length_append]; exact List.take_length
  rw [hj]
  by_cases h5 : l[i].op = 5
  · by_cases ha : l[i].a = (i : Int) + 1
    · simp [a_peep_once_2_B, Env.ofArgs, List.nil_append, List.append_nil, FinR, FinP, finish, fz_osl, h, h', hb, Instr.cellsL_drop h, h5, ha, w1, Instr.u_a, ht]
    · simp [a_peep_once_2_B, Env.ofArgs, List.nil_append, List.append_nil, FinR, FinP, finish, fz_osl, h, h', hb, Instr.cellsL_drop h, h5, ha, w1, Instr.u_a, ht]
  · simp [a_peep_once_2_B, Env.ofArgs, List.nil_append, List.append_nil, FinR, FinP, finish, fz_osl, h, h', hb, Instr.cellsL_drop h, h5, w1, ht]
theorem copies_j (n : Nat) : copies [D.int .i64 0] n = intsD (List.replicate n 0) := by
  induction n with
  | zero => rfl
  | succ n ih => simp only [copies, ih, List.replicate_succ]; rfl
theorem set_int {m : List Int} {i : Nat} {x : Int} (h : i < m.length) : List.take i (intsD m) ++ D.int .i64 x :: List.drop (i + 1) (intsD m) = intsD (m.set i x) := by
  have := splice_set (cs := intsD m) (i := i) (x := .int .i64 x) (by simpa using h)
  simpa using this
/-- Where each instruction will stand, as far as k. -/
def toL (p : Nat → Bool) (n k : Nat) : List Int := (List.range n).map fun i => if i < k then (cntP p i : Int) else 0
theorem toL_len (p : Nat → Bool) (n k : Nat) : (toL p n k).length = n := by simp [toL]
theorem toL_set (p : Nat → Bool) {n k : Nat} (h : k < n) : (toL p n k).set k (cntP p k) = toL p n (k + 1) := by
  refine List.ext_getElem (by simp [toL]) fun i h1 h2 => ?_
  rw [List.getElem_set]
  simp only [toL, List.getElem_map, List.getElem_range]
  by_cases q : k = i
  · subst q; simp
  · rw [if_neg q]
    by_cases w : i < k
    · rw [if_pos w, if_pos (by omega)]
    · rw [if_neg w, if_neg (by omega)]
theorem keepF_app (to : Nat → Nat) (p : Nat → Bool) : ∀ (l r : List Instr) (i : Nat), keepF to p i (l ++ r) = keepF to p i l ++ keepF to p (i + l.length) r
  | [], r, i => by simp [keepF]
  | x :: l, r, i => by
    simp only [List.cons_append, keepF, keepF_app to p l r (i + 1)]
    rw [show i + 1 + l.length = i + (x :: l).length by simp; omega]
    split <;> rfl
set_option maxHeartbeats 2000000 in
theorem keep_I (hX : CX X) (H : Heap) (l : List Instr) (hg : Good l) (p : Nat → Bool) (g : Nat) (pre caps : List D) (hp : ∀ x i, i < l.length → callΩ X (.func g pre caps) [.int .i64 i] (H ++ x) = some (.bool (p i), H ++ x)) :
    callΩ X (.func n_peep_keep [] []) [.fsl (Instr.cellsL l) l.length, .func g pre caps] H = some (SL .nil (Instr.cellsL (keepS l p)) (keepS l p).length, H) := by
  refine c_peep_keep hX (by simp) ?_
  have htop := hg.top
  have hm : l.length ≤ maxBytes := by unfold maxBytes; omega
  have hm2 : l.length * 8 ≤ maxBytes := by unfold maxBytes; omega
  have e0 : List.replicate l.length (0 : Int) = toL p l.length 0 := by
    refine List.ext_getElem (by simp [toL]) fun i h1 h2 => ?_
    simp [toL]
  simp [a_peep_keep_B, Env.ofArgs, List.nil_append, List.append_nil, hm, hm2, storable, copies_j, e0]
  refine YS_ind (fun (k : Nat) e H' => H' = H ++ [.row 3 [] true, .row 1 (intsD (toL p l.length k)) false] ∧ k ≤ l.length ∧ e.get 0 = .fsl (Instr.cellsL l) l.length ∧ e.get 1 = .func g pre caps ∧ e.get 5 = .osl (H.length + 1) l.length 0 l.length ∧ e.get 6 = .int .i64 (cntP p k) ∧ e.get 15 = .int .i64 l.length ∧ e.get 16 = .int .i64 k) (fun k => l.length - k) ?_ 0 (by simp [cntP])
  rintro k e H' ⟨rfl, hk, g0, g1, g5, g6, g15, g16⟩ L ih
  have hcle := cntP_le (p := p) k
  by_cases h : k < l.length
  · have h' : (k : Int) < l.length := by omega
    have w1 : IntKind.i64.wrap ((k : Int) + 1) = (k : Int) + 1 := wrap_i64 (by omega) (by omega)
    have w2 : IntKind.i64.wrap ((cntP p k : Int) + 1) = (cntP p k : Int) + 1 := wrap_i64 (by omega) (by omega)
    have hs := set_int (m := toL p l.length k) (i := k) (x := cntP p k) (by rw [toL_len]; exact h)
    rw [toL_set p h] at hs
    have hc := fun x => hp x k h
    have hk1 : k + 1 ≤ l.length := h
    cases hpk : p k with
    | true =>
      rw [hpk] at hc
      simp [a_peep_keep_L0, g0, g1, g5, g6, g15, g16, h, h', hs, hc, w1, w2, toL_len, hk1]
      refine ih (k + 1) _ _ (by omega) ?_
      simp [g0, g1, g5, g15, cntP, hpk]
      omega
    | false =>
      rw [hpk] at hc
      simp [a_peep_keep_L0, g0, g1, g5, g6, g15, g16, h, h', hs, hc, w1, w2, toL_len, hk1]
      refine ih (k + 1) _ _ (by omega) ?_
      simp [g0, g1, g5, g15, g6, cntP, hpk]
      omega
  · obtain rfl : k = l.length := by omega
    clear ih
    simp [a_peep_keep_L0, g0, g1, g5, g6, g15, g16]
    refine YS_ind (fun (q : Nat × Heap) e H' => H' = H ++ (.row 3 [] true :: .row 1 (intsD (toL p l.length l.length)) false :: .row 3 (Instr.cellsL (keepF (cntP p) p 0 (l.take q.1))) (clN .nil (keepF (cntP p) p 0 (l.take q.1)).length) :: q.2) ∧ q.1 ≤ l.length ∧ e.get 0 = .fsl (Instr.cellsL l) l.length ∧ e.get 1 = .func g pre caps ∧ e.get 5 = .osl (H.length + 1) l.length 0 l.length ∧ e.get 8 = .osl (H.length + 2) ((keepF (cntP p) p 0 (l.take q.1)).length * 3) 0 (keepF (cntP p) p 0 (l.take q.1)).length ∧ e.get 29 = .fsl (Instr.cellsL l) l.length ∧ e.get 30 = .int .i64 l.length ∧ e.get 31 = .int .i64 q.1) (fun q => l.length - q.1) ?_ (0, []) (by simp [g0, g1, g5, keepF, Instr.cellsL, clN])
    clear g0 g1 g5 g6 g15 g16
    rintro ⟨k, jk⟩ e H' ⟨rfl, hk, g0, g1, g5, g8, g29, g30, g31⟩ L ih
    simp only at hk g0 g1 g5 g8 g29 g30 g31 ih
    by_cases h : k < l.length
    · have h' : (k : Int) < l.length := by omega
      have w1 : IntKind.i64.wrap ((k : Int) + 1) = (k : Int) + 1 := wrap_i64 (by omega) (by omega)
      have hc := fun x => hp x k h
      have hget : List.drop (k * 3) (Instr.cellsL l) = .int .i64 l[k].op :: .int .i64 l[k].a :: .int .i64 l[k].b :: Instr.rest l k := by
        rw [Instr.cellsL_drop h, Instr.cells_eq]; rfl
      have hgo := fun H => code_Goes hX l[k].op H
      have htk : l.take (k + 1) = l.take k ++ [l[k]] := List.take_succ_eq_append_getElem h
      have hlk : (l.take k).length = k := by rw [List.length_take]; omega
      have hko := keepF_app (cntP p) p (l.take k) [l[k]] 0
      rw [← htk, hlk, Nat.zero_add] at hko
      have hkl : (keepF (cntP p) p 0 (l.take k)).length ≤ k := by
        have := keepF_len (p := p) (cntP p) (l.take k) 0
        have := cntP_le (p := p) k
        rw [hlk] at *
        simp only [Nat.zero_add, cntP] at *
        omega
      cases hpk : p k with
      | false =>
        rw [hpk] at hc
        have hko2 : keepF (cntP p) p 0 (l.take (k + 1)) = keepF (cntP p) p 0 (l.take k) := by rw [hko]; simp [keepF, hpk]
        simp [a_peep_keep_L1, g0, g1, g5, g8, g29, g30, g31, h, h', hget, hc, w1, loadD_t3, storable]
        refine ih (k + 1, jk ++ [.box [.int .i64 l[k].op, .int .i64 l[k].a, .int .i64 l[k].b]]) _ _ (by simp; omega) ?_
        simp [g0, g1, g5, g8, g29, g30, hko2]
        omega
      | true =>
        rw [hpk] at hc
        have hko2 : keepF (cntP p) p 0 (l.take (k + 1)) = keepF (cntP p) p 0 (l.take k) ++ [mvI (cntP p) l[k]] := by rw [hko]; simp [keepF, hpk]
        generalize keepF (cntP p) p 0 (l.take k) = out at *
        have hco := Instr.cellsL_length out
        have hap : ∀ b H' (o a' b' : Int), H'[H.length + 2]? = some (Chunk.row 3 (Instr.cellsL out) (clN .nil out.length)) → appendD b H' 3 24 (.osl (H.length + 2) (out.length * 3) 0 out.length) [.int .i64 o, .int .i64 a', .int .i64 b'] 1 = some (.osl (H.length + 2) ((out.length + 1) * 3) 0 (out.length + 1), H'.set (H.length + 2) (.row 3 (Instr.cellsL (out ++ [.mk o a' b'])) false)) := fun b H' o a' b' hr => by
          rw [appendD_full hr hco rfl (by cases out <;> simp [clN]) (by unfold maxBytes; omega) (by unfold maxBytes; omega) (storable_U (fun m => by simp) (by simp)) (by omega), Instr.cellsL_append, Nat.add_mul]
          simp [Instr.cellsL, Instr.cells]
        have hcn2 : clN .nil (out.length + 1) = false := rfl
        by_cases c1 : l[k].op ∈ goesL
        · rw [decide_eq_true c1] at hgo
          obtain ⟨a0, a1⟩ := hg.go k h c1
          obtain ⟨a, ha⟩ : ∃ a : Nat, l[k].a = a := ⟨l[k].a.toNat, by omega⟩
          have ha1 : a < l.length := by omega
          have ha1' : (a : Int) < l.length := by omega
          have hta : loadD false 1 (List.drop a (intsD (toL p l.length l.length))) = some (.int .i64 (cntP p a)) := by
            have hlt : a < (toL p l.length l.length).length := by rw [toL_len]; exact ha1
            have : (toL p l.length l.length)[a] = (cntP p a : Int) := by simp [toL, ha1]
            rw [← this]; exact loadD_map hlt
          have hmv : mvI (cntP p) l[k] = .mk l[k].op (cntP p a) l[k].b := by unfold mvI; rw [if_pos c1, ha]; rfl
          simp [a_peep_keep_L1, g0, g1, g5, g8, g29, g30, g31, h, h', hget, hc, w1, loadD_t3, storable, hgo, ha, ha1, ha1', hta, toL_len, hap, elems]
          trace_state
          refine ih (k + 1, jk ++ [.box [.int .i64 l[k].op, .int .i64 (cntP p a), .int .i64 l[k].b]]) _ _ (by simp; omega) ?_
          simp [g0, g1, g5, g29, g30, hko2, hmv, hcn2]
          omega
        · rw [decide_eq_false c1] at hgo
          have hmv : mvI (cntP p) l[k] = .mk l[k].op l[k].a l[k].b := by rw [mvI_no c1]; exact Instr.ext_all ⟨rfl, rfl, rfl⟩
          simp [a_peep_keep_L1, g0, g1, g5, g8, g29, g30, g31, h, h', hget, hc, w1, loadD_t3, storable, hgo, hap, elems]
          trace_state
          refine ih (k + 1, jk ++ [.box [.int .i64 l[k].op, .int .i64 l[k].a, .int .i64 l[k].b]]) _ _ (by simp; omega) ?_
          simp [g0, g1, g5, g29, g30, hko2, hmv, hcn2]
          omega
    · obtain rfl : k = l.length := by omega
      have htl : l.take l.length = l := List.take_length
      rw [htl] at g8 ⊢
      have hks : keepF (cntP p) p 0 l = keepS l p := rfl
      rw [hks] at g8 ⊢
      have hfz : ∀ (g : Nat) (x y : Chunk), fz (H ++ x :: y :: .row 3 (Instr.cellsL (keepS l p)) (clN .nil (keepS l p).length) :: jk) H.length (g + 2) (.osl (H.length + 2) ((keepS l p).length * 3) 0 (keepS l p).length) = some (SL .nil (Instr.cellsL (keepS l p)) (keepS l p).length) := fun g x y =>
        clN_SL (f := .nil) (by omega) (by rw [getH]; rfl) (Instr.cellsL_length _) (Instr.fz_L _) (Instr.unders_L _ _) (Instr.ones_L _)
      simp [a_peep_keep_L1, FinR, FinP, finish, g0, g1, g5, g8, g29, g30, g31, hfz]
end
end Go.AM.T
/- Shortening: the walk. -/
namespace Go.AM.T
section
variable {X : Ctx}
theorem once_I (hX : CX X) {H : Heap} {l : List Instr} {d : D} {p : Nat → Nat → D} (hr : RdI H l d p) (hg : Good l) :
    callΩ X (.func n_peep_once [] []) [d] H = some (.fsl (Instr.cellsL (onceS l)) (onceS l).length, H) := by
  refine c_peep_once hX (by simp) ?_
  have hgt := hg.thr
  have hgl := live_good hgt
  have hgh := hop_good hgl
  have e1 := fun x => thread_I hX (hr.grow x) hg
  have e2 : ∀ H', callΩ X (.func n_peep_reach [] []) [.fsl (Instr.cellsL (thr l)) l.length] H' = some (.fsl (boolsD (markS (thr l))) l.length, H') := fun H' => by
    have := reach_I hX H' (thr l) hgt
    rwa [thr_len] at this
  have e3 : ∀ H', callΩ X (.func n_peep_keep [] []) [.fsl (Instr.cellsL (thr l)) l.length, .func n_peep_once_1 [] [.fptr [.fsl (boolsD (markS (thr l))) l.length]]] H' = some (.fsl (Instr.cellsL (liveS (thr l))) (liveS (thr l)).length, H') := fun H' => by
    have := keep_I hX H' (thr l) hgt (rchB (thr l)) n_peep_once_1 [] [.fptr [.fsl (boolsD (markS (thr l))) (thr l).length]] (fun x i hi => once_1 hX (H' ++ x) (thr l) i hi)
    rw [show keepS (thr l) (rchB (thr l)) = liveS (thr l) from rfl, SL_pos hgl.pos, thr_len] at this
    exact this
  have e4 : ∀ H', H'[H.length]? = some (.box [.fsl (Instr.cellsL (liveS (thr l))) (liveS (thr l)).length]) → callΩ X (.func n_peep_keep [] []) [.fsl (Instr.cellsL (liveS (thr l))) (liveS (thr l)).length, .func n_peep_once_2 [] [.ptr H.length 0]] H' = some (.fsl (Instr.cellsL (onceS l)) (onceS l).length, H') := fun H' hb => by
    have := keep_I hX H' (liveS (thr l)) hgl (jnx (liveS (thr l))) n_peep_once_2 [] [.ptr H.length 0] (fun x i hi => once_2 hX H' x (liveS (thr l)) hgl.top H.length hb i hi)
    rw [show keepS (liveS (thr l)) (jnx (liveS (thr l))) = onceS l from rfl, SL_pos (once_good hg).pos] at this
    exact this
  have hun := fun m h => hr.und m h
  simp [a_peep_once_B, Env.ofArgs, List.nil_append, List.append_nil, FinR, FinP, finish, fz_osl, hr.ok, hr.cel, hr.one, hun, storable, e1, e2, e3, e4, D.defd]
theorem YSg_R {X : Ctx} {b : Nat} {rnd : Option Nat} {l : List (AOper × Nat × Nat)} {K : List Fr} {e : Env} {H : Heap} {dfs : List Nat} {Q : Ex → St → Prop} (h : match runD X.G b (callΩ X) 0 l [] e H with
    | some (e', H', _) => YX X b rnd .normal K ⟨e', H', dfs⟩ Q
    | none => False) : YSg X b rnd l K e H dfs Q := by
  cases hr : runD X.G b (callΩ X) 0 l [] e H with
  | none => rw [hr] at h; exact h.elim
  | some x =>
    obtain ⟨e', H', fut⟩ := x
    rw [hr] at h
    unfold YSg YS
    rw [execΩ_dreg (s := ⟨e, H, dfs⟩) hr]
    exact h
open Classical in
theorem peep_Shorten (hX : CX X) (H : Heap) (c : Code) (hcN : okN c) :
    ∃ d H', callΩ X (.func n_peep_Shorten [] []) [.agg c.cells] H = some (d, H') ∧ ((if chkC c = 0 then ∃ l : List Instr, Good l ∧ FitC c.consts.length l ∧ l.length ≤ c.instrs.length ∧ onceS l = l ∧ (onceS c.instrs = c.instrs → l = c.instrs) ∧
      d = .tup [.agg (Code.mk .full (poolG c.consts l []).1 .nil (poolG c.consts l []).2).cells, .int .i64 ((c.instrs.length : Int) - l.length), .int .i64 0] else d = .tup [.agg [.nilsl, .nilsl], .int .i64 0, .int .i64 (chkC c)]) ∧ H' = H) := by
  obtain ⟨hc, hf1, hf2, hne⟩ := hcN
  refine p_peep_Shorten hX (by simp) ?_
  have hch := fun H => code_Check hX H c hc
  by_cases hz : chkC c = 0
  · simp only [if_pos hz]
    obtain ⟨hg, hk, hkl, _⟩ := good_of hz
    have htop := hg.top
    have hfc := fit_of hz
    have hsl : SL c.instrsF (Instr.cellsL c.instrs) c.instrs.length = .fsl (Instr.cellsL c.instrs) c.instrs.length := SL_pos hg.pos
    have e1 := fun H => clone_I hX (RdI.frz H hg.pos) htop
    simp [a_peep_Shorten_B, Env.ofArgs, List.nil_append, List.append_nil, hch, hz, hsl, e1, z1]
    refine YS_ind (fun (l : List Instr) e H' => H' = H ++ [.box [.nilsl, .nilsl], .row 3 (Instr.cellsL c.instrs) false] ∧ Good l ∧ FitC c.consts.length l ∧ l.length ≤ c.instrs.length ∧ (onceS c.instrs = c.instrs → l = c.instrs) ∧ e.get 1 = .fptr c.cells ∧ e.get 2 = .ptr H.length 0 ∧ ∃ d p, RdI (H ++ [.box [.nilsl, .nilsl], .row 3 (Instr.cellsL c.instrs) false]) l d p ∧ e.get 6 = d) (fun l => 2 * l.length + if onceS l = l then 0 else 1) ?_ c.instrs ?_
    · rintro l e H' ⟨rfl, hgl, hfl, hll, heq, g1, g2, d, p, hr, g6⟩ L ih
      have o1 := once_I hX hr hgl
      have o2 := equal_I hX hr hgl.top (onceS l)
      by_cases he : onceS l = l
      · rw [decide_eq_true he] at o2
        rw [he] at o1 o2
        have o3 := pool_I hX hr hgl.top c.constsF c.consts (fun x hx h1 => (hfl x hx).2 h1) (fun v hv => ⟨hc.2.2 v hv, hne v hv, all_chk (chksS_zero.1 hk v hv)⟩)
        have hcl := Code.cells_length (Code.mk .full (poolG c.consts l []).1 .nil (poolG c.consts l []).2)
        have hw : IntKind.i64.wrap ((c.instrs.length : Int) - l.length) = (c.instrs.length : Int) - l.length := wrap_i64 (by omega) (by omega)
        have hsd : ∀ b H i, storable b H i (Code.mk .full (poolG c.consts l []).1 .nil (poolG c.consts l []).2).cells = true := fun b H i => storable_U (Code.unders _) (Code.ones _)
        simp [a_peep_Shorten_L0, -YS_dregI, g1, g2, g6, hr.ok, o1, o2, hr.cel, hr.one, o3, z1]
        refine YSg_R ?_
        have hrp : ∃ x, x = Code.mk .full (poolG c.consts l []).1 .nil (poolG c.consts l []).2 := ⟨_, rfl⟩
        obtain ⟨x, hx⟩ := hrp
        simp only [← hx] at hsd hcl ⊢
        simp [runD, samePast, sameFut, sameAt, D.beq_self, FinR, FinP, finish, fz_osl, g1, g2, g6, hr.ok, hr.len, hw, hsd]
        exact ⟨l, hgl, hfl, hll, he, heq, by rw [hx], rfl⟩
      · rw [decide_eq_false he] at o2
        simp [a_peep_Shorten_L0, g1, g2, g6, hr.ok, o1, o2]
        refine ih (onceS l) _ _ ?_ ?_
        · have h1 := once_le hgl
          rw [if_neg he]
          by_cases q : (onceS l).length = l.length
          · rw [if_pos (once_next hgl q)]; omega
          · split <;> omega
        · refine ⟨rfl, once_good hgl, hfl.once, Nat.le_trans (once_le hgl) hll, fun q => ?_, by simp [g1], by simp [g2], _, _, RdI.frz _ (once_good hgl).pos, by simp⟩
          rw [heq q] at he
          exact absurd q he
    · refine ⟨rfl, hg, hfc, Nat.le_refl _, fun _ => rfl, by simp, by simp, _, _, RdI.own (id := H.length + 1) (by simp) hg.pos, by simp⟩
  · simp only [if_neg hz]
    simp [a_peep_Shorten_B, Env.ofArgs, List.nil_append, List.append_nil, FinR, FinP, finish, fz_osl, hch, hz, z1, storable, loadD_t2]
end
end Go.AM.T
/- PeepTwice. -/
namespace Go.AM.T
section
variable {X : Ctx}
theorem Reach_I (hX : CX X) (H : Heap) (c : Code) (hc : Code.ok c) (hz : chkC c = 0) :
    callΩ X (.func n_peep_Reach [] []) [.agg c.cells] H = some (.tup [.fsl (boolsD (markS c.instrs)) c.instrs.length, .int .i64 0], H) := by
  refine c_peep_Reach hX (by simp) ?_
  have h1 := fun H => code_Check hX H c hc
  have hg := (good_of hz).1
  have e1 := fun H => reach_I hX H c.instrs hg
  have hsl : SL c.instrsF (Instr.cellsL c.instrs) c.instrs.length = .fsl (Instr.cellsL c.instrs) c.instrs.length := SL_pos hg.pos
  simp [a_peep_Reach_B, Env.ofArgs, List.nil_append, List.append_nil, FinR, FinP, finish, fz_osl, h1, hz, hsl, e1]
theorem same_I (hX : CX X) (H : Heap) (x y : Code) (hx : (x.instrs.length : Int) ≤ 9223372036854775807 ∧ (x.consts.length : Int) ≤ 9223372036854775807) (hw : ∀ v ∈ x.consts, v.wf) (h1 : x.instrs = y.instrs) (h2 : x.consts.map nrm = y.consts.map nrm) :
    callΩ X (.func n_bolterref25_Same [] []) [.agg x.cells, .agg y.cells] H = some (.bool true, H) := by
  refine c_bolterref25_Same hX (by simp) ?_
  have hsa := fun H => ref05_SameAll hX H x.constsF y.constsF x.consts y.consts hx.2 hw
  rw [decide_eq_true h2] at hsa
  simp [a_bolterref25_Same_B, Env.ofArgs, List.nil_append, List.append_nil, h1, hsa]
  refine YS_ind (fun k e H' => H' = H ∧ k ≤ y.instrs.length ∧ e.get 2 = .fptr x.cells ∧ e.get 3 = .fptr y.cells ∧ e.get 5 = .int .i64 k) (fun k => y.instrs.length - k) ?_ 0 (by simp)
  rintro k e H' ⟨rfl, hk, g2, g3, g5⟩ L ih
  by_cases h : k < y.instrs.length
  · have h' : (k : Int) < y.instrs.length := by omega
    have hx1 := hx.1
    rw [h1] at hx1
    have w1 : IntKind.i64.wrap ((k : Int) + 1) = (k : Int) + 1 := wrap_i64 (by omega) (by omega)
    have he := eqA3 y.instrs[k] y.instrs[k]
    rw [decide_eq_true rfl] at he
    simp [a_bolterref25_Same_L0, g2, g3, g5, h1, h, h', Instr.cellsL_drop h, he, w1]
    refine ih (k + 1) _ _ (by omega) ?_
    simp [g2, g3]
    omega
  · obtain rfl : k = y.instrs.length := by omega
    simp [a_bolterref25_Same_L0, FinR, FinP, finish, fz_osl, g2, g3, g5, h1]
set_option maxHeartbeats 1000000 in
theorem PeepTwice (hX : CX X) (H : Heap) (c : Code) (hcN : okN c) : callΩ X (.func n_bolterlaw27_PeepTwice [] []) [.agg c.cells] H = some (.bool true, H) := by
  refine c_bolterlaw27_PeepTwice hX (by simp) ?_
  obtain ⟨r1, H1, e1, hd, rfl⟩ := peep_Shorten hX H c hcN
  have h1 := fun H => ref25_Check hX H c hcN.1
  have hn := fun n H => law27_num hX n H
  have hal := fun H => c_bolterlaw27_alive hX (H := H)
  by_cases hz : chkC c = 0
  · rw [if_pos hz] at hd
    obtain ⟨l, hg, hf, hle, ho, _, rfl⟩ := hd
    obtain ⟨hgc, hk, hkl, _⟩ := good_of hz
    have htop := hgc.top
    have hN : okN (Code.mk .full (poolG c.consts l []).1 .nil (poolG c.consts l []).2) := pool_okN (by simp) hg hf hkl hcN.1.2.2
    have hzd : chkC (Code.mk .full (poolG c.consts l []).1 .nil (poolG c.consts l []).2) = 0 := pool_chk hg hf hkl (chksS_zero.1 hk)
    obtain ⟨s1, s2, s3⟩ := (poolG_lk c.consts l []).stay hg ho
    have hlen : (poolG c.consts l []).1.length = l.length := poolG_len _ _ _
    obtain ⟨p1, p2⟩ := pool_pool c.consts (poolG c.consts l []).2 l [] [] rfl rfl
    have hcount := pool_count hf
    generalize hdc : Code.mk .full (poolG c.consts l []).1 .nil (poolG c.consts l []).2 = d at *
    have hd1 : d.instrs = (poolG c.consts l []).1 := by rw [← hdc]; rfl
    have hd2 : d.consts = (poolG c.consts l []).2 := by rw [← hdc]; rfl
    rw [← hd1] at s1 s2 s3 hlen p1 p2
    rw [← hd2] at p1 p2 hcount
    obtain ⟨r2, H2, e2, hd', rfl⟩ := peep_Shorten hX H1 d hN
    rw [if_pos hzd] at hd'
    obtain ⟨l2, hg2, hf2, hle2, ho2, hq2, rfl⟩ := hd'
    have hl2 := hq2 s1
    subst hl2
    have e3 := fun H => Reach_I hX H d hN.1 hzd
    have hok2 : okN (Code.mk .full (poolG d.consts d.instrs []).1 .nil (poolG d.consts d.instrs []).2) := pool_okN (by simp) hg2 hf2 (by omega) hN.1.2.2
    have e4 := fun H => same_I hX H (Code.mk .full (poolG d.consts d.instrs []).1 .nil (poolG d.consts d.instrs []).2) d ⟨hok2.1.1, hok2.1.2.1⟩ hok2.1.2.2 p1 p2
    generalize Code.mk .full (poolG d.consts d.instrs []).1 .nil (poolG d.consts d.instrs []).2 = x at *
    have hml : (markS d.instrs).length = d.instrs.length := by simp [markS]
    simp [a_bolterlaw27_PeepTwice_B, Env.ofArgs, List.nil_append, List.append_nil, h1, hz, hal, e1, e2, e3, hn]
    refine YS_ind (fun k e H3 => H3 = H2 ∧ k ≤ d.instrs.length ∧ e.get 1 = .fptr c.cells ∧ e.get 3 = .fptr d.cells ∧ e.get 4 = .int .i64 ((c.instrs.length : Int) - l.length) ∧ e.get 6 = .fptr x.cells ∧ e.get 7 = .int .i64 0 ∧ e.get 8 = .int .i64 0 ∧ e.get 9 = .fsl (boolsD (markS d.instrs)) d.instrs.length ∧ e.get 10 = .int .i64 0 ∧ e.get 11 = .int .i64 k) (fun k => d.instrs.length - k) ?_ 0 (by simp)
    rintro k e H3 ⟨rfl, hk3, g1, g3, g4, g6, g7, g8, g9, g10, g11⟩ L ih
    by_cases h : k < d.instrs.length
    · have h' : (k : Int) < d.instrs.length := by omega
      have w1 : IntKind.i64.wrap ((k : Int) + 1) = (k : Int) + 1 := wrap_i64 (by omega) (by omega)
      have hkm : k < (markS d.instrs).length := by omega
      have hm1 : loadD false 1 (List.drop k (boolsD (markS d.instrs))) = some (.bool true) := by
        have : (markS d.instrs)[k] = true := by rw [markS_get]; exact decide_eq_true (s2 k h)
        rw [← this]; exact loadD_map hkm
      have hj := s3 k h
      unfold jnx at hj
      rw [List.getElem?_eq_getElem h] at hj
      have hld := Instr.cellsL_drop h
      by_cases h5 : d.instrs[k].op = 5
      · have ha : ¬ d.instrs[k].a = (k : Int) + 1 := by
          simp only [h5, decide_true, Bool.true_and, Bool.not_eq_true', decide_eq_false_iff_not] at hj
          exact hj
        simp [a_bolterlaw27_PeepTwice_L0, g1, g3, g9, g11, h, h', hm1, hld, h5, ha, w1, Instr.u_a]
        refine ih (k + 1) _ _ (by omega) ?_
        simp [g1, g3, g4, g6, g7, g8, g9, g10]
        omega
      · simp [a_bolterlaw27_PeepTwice_L0, g1, g3, g9, g11, h, h', hm1, hld, h5, w1]
        refine ih (k + 1) _ _ (by omega) ?_
        simp [g1, g3, g4, g6, g7, g8, g9, g10]
        omega
    · obtain rfl : k = d.instrs.length := by omega
      have hw : IntKind.i64.wrap ((c.instrs.length : Int) - d.instrs.length) = (c.instrs.length : Int) - l.length := by rw [hlen]; exact wrap_i64 (by omega) (by omega)
      have hge : (0 : Int) ≤ (c.instrs.length : Int) - l.length := by omega
      have w0 : IntKind.i64.wrap (0 + 0) = 0 := by decide
      have w00 : IntKind.i64.wrap 0 = 0 := by decide
      simp [a_bolterlaw27_PeepTwice_L0, FinR, FinP, finish, fz_osl, g1, g3, g4, g6, g7, g8, g9, g10, g11, hn, e4, hw, hge, w0, w00, hle]
  · rw [if_neg hz] at hd
    subst hd
    simp [a_bolterlaw27_PeepTwice_B, Env.ofArgs, List.nil_append, List.append_nil, FinR, FinP, finish, fz_osl, h1, hz, hal, e1, hn, loadD_one]
end
end Go.AM.T
