/- Cores -/
import Derived.Test.YtjcnlakifipmgaaGreatDoorWalkH
set_option linter.unusedVariables false
set_option linter.unusedSimpArgs false
set_option linter.unnecessarySimpa false
set_option maxRecDepth 100000
/- What a core alone is held to: the page's side; what stands around a kid. -/
namespace Go.AM.T
section
variable {X : Ctx}
attribute [local simp] gD_tup gdD_gD2
theorem bnL_cons (b : Int × Int) (e : List (Int × Int)) : bnL (b :: e) = bnL e ++ [bnI b] := by simp [bnL]
theorem ref21_around (hX : CX X) (H : Heap) (l : List Int) (d : D) (p : Nat → D) (hr : RdN H l d p) (i : Int) (hl : l.length ≤ 1000000) : callΩ X (.func n_bolterref21_around [] []) [d, .fsl [.int .i64 i] 1] H = some (.fsl (intsD (l ++ [i])) (l.length + 1), H) := by
  refine c_bolterref21_around hX (by simp) ?_
  have hst : ∀ b H i, storable b H i (intsD l) = true := fun b H i => storable_U (fun m => unders_ints _) (ones_ints _)
  have he1 : ∀ H', elems H' 1 (.fsl [.int .i64 i] 1) = some ([.int .i64 i], 1) := fun _ => rfl
  have hs0 : ∀ b H i, storable b H i [] = true := fun _ _ _ => rfl
  by_cases h0 : l = []
  · subst h0
    simp [a_bolterref21_around_B, Env.ofArgs, List.nil_append, List.append_nil, FinR, FinP, finish, fz_osl, hr.ok, hr.el, appendD, he1, hs0, maxBytes]
  · have hpos : l.length ≠ 0 := fun q => h0 (List.length_eq_zero_iff.1 q)
    have e1 : intsD l ++ [D.int .i64 i] = intsD (l ++ [i]) := by simp
    have hz : ∀ (H : Heap) (n f : Nat), mapO (fz H n (f + 1)) (intsD l ++ [D.int .i64 i]) = some (intsD l ++ [D.int .i64 i]) := fun H n f => by rw [e1]; exact mapO_ints _
    have hu : ∀ n, D.unders n (intsD l ++ [D.int .i64 i]) = true := fun n => by rw [e1]; exact unders_ints _
    have ho : D.ones (intsD l ++ [D.int .i64 i]) = true := by rw [e1]; exact ones_ints _
    have ht : List.take (l.length + 1) (intsD l ++ [D.int .i64 i]) = intsD l ++ [D.int .i64 i] := List.take_of_length_le (by simp)
    have hm1 : l.length * 8 ≤ maxBytes := by unfold maxBytes; omega
    have hm2 : l.length ≤ maxBytes := by unfold maxBytes; omega
    have hm3 : (l.length + 1) * 8 ≤ maxBytes := by unfold maxBytes; omega
    have hm4 : l.length + 1 ≤ maxBytes := by unfold maxBytes; omega
    simp [a_bolterref21_around_B, Env.ofArgs, List.nil_append, List.append_nil, FinR, FinP, finish, fz_osl, hr.ok, hr.el, appendD, he1, hst, hm1, hm2, hm3, hm4, h0, hpos, ht, hz, hu, ho]
def BndOk (e : List (Int × Int)) : Prop := ∀ b ∈ e, b = (1, 0) ∨ b = (2, 0) ∨ b = (3, 0) ∨ ∃ n, (0 ≤ n ∧ n ≤ 8) ∧ b = (4, n)
theorem binder_is {e : List (Int × Int)} (hb : BndOk e) (i w n : Int) (hw : (w = 4 ∧ 0 ≤ n) ∨ ((w = 1 ∨ w = 2 ∨ w = 3) ∧ n = 0)) : (binderS e i = bnI (w, n)) = (isS e i w n = true) := by
  unfold binderS isS
  by_cases q : 0 ≤ i
  · rw [if_pos q]
    cases hg : e[i.toNat]? with
    | none =>
      have hne : bnI (w, n) ≠ 0 := by
        unfold bnI; split
        · rename_i h; simp only at h ⊢; omega
        · rename_i h; simp only at h ⊢; omega
      simp [q]
      exact fun h => hne h.symm
    | some b =>
      have hm : b ∈ e := List.mem_of_getElem? hg
      have : bnI b = bnI (w, n) ↔ b = (w, n) := by
        constructor
        · intro h
          unfold bnI at h
          rcases hb b hm with rfl | rfl | rfl | ⟨m, hm2, rfl⟩ <;> rcases hw with ⟨rfl, hn⟩ | ⟨rfl | rfl | rfl, rfl⟩ <;> simp at h ⊢ <;> omega
        · intro h; rw [h]
      simp [q, this]
  · rw [if_neg q]
    have hne : bnI (w, n) ≠ 0 := by
      unfold bnI; split
      · rename_i h; simp only at h ⊢; omega
      · rename_i h; simp only at h ⊢; omega
    simp [q]
    exact fun h => hne h.symm
set_option maxHeartbeats 4000000 in
theorem ref21_single (hX : CX X) (H : Heap) (e : List (Int × Int)) (d : D) (p : Nat → D) (hr : RdN H (bnL e) d p) (hbo : BndOk e) (c : Core) (hl : e.length ≤ 1000000) (hw : Core.wf c) : callΩ X (.func n_bolterref21_single [] []) [.agg c.cells, d] H = some (.int .i64 (singleS c e), H) := by
  obtain ⟨hw1, hw2, hw3, hw4⟩ := Core.wf_iff.1 hw
  refine c_bolterref21_single hX (by simp) ?_
  by_cases hk : c.kind < 0 ∨ 27 < c.kind
  · have hs : singleS c e = 23 := by unfold singleS; rw [if_pos hk]
    rw [hs]
    by_cases q : c.kind < 0
    · simp [a_bolterref21_single_B, Env.ofArgs, List.nil_append, List.append_nil, FinR, FinP, finish, fz_osl, q]
    · have q2 : 27 < c.kind := by omega
      simp [a_bolterref21_single_B, Env.ofArgs, List.nil_append, List.append_nil, FinR, FinP, finish, fz_osl, q, q2]
  · have k1 : ¬ c.kind < 0 := by omega
    have k2 : ¬ 27 < c.kind := by omega
    obtain ⟨d0, H0, e0, ⟨s, n, er, rfl, hn⟩, hH0⟩ := ref16_Name hX c.index H
    subst hH0
    have e1 := ref21_count hX H0 c (by omega)
    have hvs := fun H => ref05_Same hX c.value zeroV H hw1
    rw [zero_cells] at hvs
    have hvc := fun H => ref_Check hX H c.value hw1
    have hbi := fun i => ref21_binder hX H0 e d p hr i hl
    have hrem : ((c.kids.length : Int).tmod 2 = 1) = (c.kids.length % 2 = 1) := by rw [Int.tmod_eq_emod_of_nonneg (by omega)]; apply propext; omega
    have hrem2 := rem_two c.kids.length hw3
    have b1 := binder_is hbo c.index 1 0 (.inr ⟨.inl rfl, rfl⟩)
    have b2 := binder_is hbo c.index 2 0 (.inr ⟨.inr (.inl rfl), rfl⟩)
    have b3 := binder_is hbo c.index 3 0 (.inr ⟨.inr (.inr rfl), rfl⟩)
    have b4 := binder_is hbo c.index 4 c.kids.length (.inl ⟨rfl, by omega⟩)
    have i1 : bnI (1, 0) = 1 := rfl
    have i2 : bnI (2, 0) = 2 := rfl
    have i3 : bnI (3, 0) = 3 := rfl
    have i4 : bnI (4, (c.kids.length : Int)) = 10 + c.kids.length := rfl
    rw [i1] at b1
    rw [i2] at b2
    rw [i3] at b3
    rw [i4] at b4
    have w4 : c.kids.length ≤ 1000000 → IntKind.i64.wrap (10 + (c.kids.length : Int)) = 10 + (c.kids.length : Int) := fun q => wrap_i64 (by omega) (by omega)
    by_cases h9 : c.kind = 9
    · have hs : singleS c e = if ¬ er = 0 then 4 else if (c.kids.length : Int) < n ∨ n < c.kids.length then 3 else if (¬ nrm c.value = nrm zeroV ∨ ¬ c.count = 0) ∨ ¬ c.name = [] then 9 else 0 := by
        unfold singleS
        rw [if_neg hk]
        by_cases her : er = 0
        · have h1 := (hn n).1 ⟨her, rfl⟩
          have hb : bndS c = (n, n) := by unfold bndS natN; rw [if_pos h9, h1]; rfl
          have hi : ixB c e = true := by unfold ixB; simp [h9]
          have hv : valB c = decide (nrm c.value = nrm zeroV) := by unfold valB; simp [h9]
          simp [h9, h1, hb, her, hi, hv, nameL]
        · have hnone : natCnt c.index = none := by
            cases hq : natCnt c.index with
            | none => rfl
            | some b => exact absurd ((hn b).2 hq).1 her
          rw [if_pos ⟨h9, hnone⟩, if_pos her]
      rw [hs]
      clear hs hn
      simp +contextual -implicitDefEqProofs [a_bolterref21_single_B, Env.ofArgs, List.nil_append, List.append_nil, FinR, FinP, finish, fz_osl, e0, e1, k1, k2, hr.ok, hvs, hvc, hbi, hrem, z2, h9]
      all_goals first | done | (intros; simp_all; done) | (intros; simp_all; omega)
    · have hs : singleS c e = if ((c.kids.length : Int) < (bndC c.kind).1 ∨ (bndC c.kind).2 < c.kids.length) ∨ (c.kind = 8 ∧ c.kids.length % 2 = 1) then 3 else
          if ixB c e = false ∨ (c.kind = 19 ∧ (c.count < 0 ∨ 8 < c.count)) then 4 else
          if (valB c = false ∨ (¬ c.kind = 19 ∧ ¬ c.count = 0)) ∨ (¬ c.name = [] ∧ ¬ c.kind ∈ nameL) then 9 else 0 := by
        unfold singleS bndS
        rw [if_neg hk, if_neg (fun q => h9 q.1), if_neg h9]
      rw [hs]
      clear hs hn
      by_cases h2 : c.kind = 2
      · have hi : ixB c e = decide (binderS e c.index = 1) := by unfold ixB; rw [if_pos h2]; simp [b1]
        rw [hi]
        simp +contextual -implicitDefEqProofs [a_bolterref21_single_B, Env.ofArgs, List.nil_append, List.append_nil, FinR, FinP, finish, fz_osl, e0, e1, k1, k2, hr.ok, hvs, hvc, hbi, hrem, z2, h2, nameL, valB]
        all_goals first | done | (intros; simp_all; done) | (intros; simp_all; omega)
      · by_cases h10 : c.kind = 10
        · have hi : ixB c e = decide (0 ≤ c.index ∧ c.index ≤ 10) := by unfold ixB; simp [h10]
          rw [hi]
          simp +contextual -implicitDefEqProofs [a_bolterref21_single_B, Env.ofArgs, List.nil_append, List.append_nil, FinR, FinP, finish, fz_osl, e0, e1, k1, k2, hr.ok, hvs, hvc, hbi, hrem, z2, h10, nameL, valB]
          all_goals first | done | (intros; simp_all; done) | (intros; simp_all; omega)
        · by_cases h17 : c.kind = 17
          · have hi : ixB c e = decide (binderS e c.index = 2) := by unfold ixB; simp [h17, b2]
            rw [hi]
            simp +contextual -implicitDefEqProofs [a_bolterref21_single_B, Env.ofArgs, List.nil_append, List.append_nil, FinR, FinP, finish, fz_osl, e0, e1, k1, k2, hr.ok, hvs, hvc, hbi, hrem, z2, h17, nameL, valB]
            all_goals first | done | (intros; simp_all; done) | (intros; simp_all; omega)
          · by_cases h20 : c.kind = 20
            · by_cases h8 : c.kids.length ≤ 8
              · have hi : ixB c e = decide (binderS e c.index = 10 + (c.kids.length : Int)) := by unfold ixB; simp [h20, b4]
                have w5 := w4 (by omega)
                rw [hi]
                simp +contextual -implicitDefEqProofs [a_bolterref21_single_B, Env.ofArgs, List.nil_append, List.append_nil, FinR, FinP, finish, fz_osl, e0, e1, k1, k2, hr.ok, hvs, hvc, hbi, hrem, z2, h20, nameL, valB, w5]
                all_goals first | done | (intros; simp_all; done) | (intros; simp_all; omega)
              · have h8' : (8 : Int) < c.kids.length := by omega
                have h83 : bndC 20 = (0, 8) := by decide
                rw [h20, h83, if_pos (.inl (.inr h8'))]
                simp +contextual -implicitDefEqProofs [a_bolterref21_single_B, Env.ofArgs, List.nil_append, List.append_nil, FinR, FinP, finish, fz_osl, e0, e1, k1, k2, hr.ok, hvs, hvc, hbi, hrem, z2, h20, h83, h8']
            · by_cases h21 : c.kind = 21
              · have hi : ixB c e = decide (binderS e c.index = 3) := by unfold ixB; simp [h21, b3]
                rw [hi]
                simp +contextual -implicitDefEqProofs [a_bolterref21_single_B, Env.ofArgs, List.nil_append, List.append_nil, FinR, FinP, finish, fz_osl, e0, e1, k1, k2, hr.ok, hvs, hvc, hbi, hrem, z2, h21, nameL, valB]
                all_goals first | done | (intros; simp_all; done) | (intros; simp_all; omega)
              · have hi : ixB c e = decide (c.index = 0) := by unfold ixB; simp [h2, h9, h10, h17, h20, h21]
                have hnm : (c.kind ∈ nameL) = (c.kind = 16 ∨ c.kind = 19) := by simp [nameL, h2, h17, h20, h21]
                have hk2 : ((c.kind < 16 ∨ 21 < c.kind) ∨ c.kind = 18) = ¬ (c.kind = 16 ∨ c.kind = 19) := by apply propext; omega
                rw [hi]
                simp +contextual -implicitDefEqProofs [a_bolterref21_single_B, Env.ofArgs, List.nil_append, List.append_nil, FinR, FinP, finish, fz_osl, e0, e1, k1, k2, hr.ok, hvs, hvc, hbi, hrem, z2, h2, h9, h10, h17, h20, h21, valB, hnm]
                intro a b c8 hi0 c19
                have hcb : ¬ (((c.kids.length : Int) < (bndC c.kind).1 ∨ (bndC c.kind).2 < c.kids.length) ∨ c.kind = 8 ∧ c.kids.length % 2 = 1) := by
                  rintro ((q | q) | ⟨q1, q2⟩)
                  · omega
                  · omega
                  · have := c8 q1; omega
                have hcd : ¬ (c.kind = 19 ∧ (c.count < 0 ∨ 8 < c.count)) := by
                  rintro ⟨q1, q2⟩
                  have := c19 q1; omega
                refine ⟨fun h => ?_, fun v1 v2 cn nm => ?_⟩
                · rw [if_neg hcb, if_neg hcd, if_pos]
                  rcases h with (h | q) | ⟨q1, q2⟩
                  · rcases h with ⟨q1, q2⟩ | ⟨q1, q2⟩
                    · left; left; rw [if_pos q1]; exact q2
                    · left; left; rw [if_neg q1]; exact q2
                  · left; right; exact q
                  · right; exact ⟨q2, by omega, by omega⟩
                · rw [if_neg hcb, if_neg hcd, if_neg]
                  rintro (q | q)
                  · exact q.2 (cn q.1)
                  · exact q.1 (nm (by omega))
end
end Go.AM.T
/- Cores: both checks; GenHeight. -/
namespace Go.AM.T
section
variable {X : Ctx}
def insS (k cn : Int) (i : Nat) (e : List (Int × Int)) : List (Int × Int) :=
  if (k = 14 ∧ i = 2) ∨ (k = 15 ∧ 2 ≤ i) ∨ (k = 18 ∧ i = 1) then (1, 0) :: e else if k = 16 then (2, 0) :: e else
  if k = 19 then (if i = 0 then List.replicate cn.toNat (3, 0) ++ ((4, cn) :: e) else (4, cn) :: e) else e
theorem copies_binds (m : Nat) (w : Int) : copies [D.int .i64 w, D.int .i64 0, D.str []] m = bindsD (List.replicate m (w, 0)) := by
  induction m with
  | zero => rfl
  | succ m ih => rw [copies, ih, List.replicate_succ]; simp [bindsD]
theorem rep3 (hX : CX X) (H : Heap) (m : Nat) (h : m ≤ 8) : callΩ X (.func n_slices_Repeat_core_binder_core_binder [] []) [.fsl [.int .i64 3, .int .i64 0, .str []] 1, .int .i64 m] H = some (.fsl (bindsD (List.replicate m (3, 0))) m, H) := by
  rw [← copies_binds]
  have : m = 0 ∨ m = 1 ∨ m = 2 ∨ m = 3 ∨ m = 4 ∨ m = 5 ∨ m = 6 ∨ m = 7 ∨ m = 8 := by omega
  rcases this with rfl | rfl | rfl | rfl | rfl | rfl | rfl | rfl | rfl
  · exact c_slices_Repeat_core_binder_core_binder_0 hX H
  · exact c_slices_Repeat_core_binder_core_binder_1 hX H
  · exact c_slices_Repeat_core_binder_core_binder_2 hX H
  · exact c_slices_Repeat_core_binder_core_binder_3 hX H
  · exact c_slices_Repeat_core_binder_core_binder_4 hX H
  · exact c_slices_Repeat_core_binder_core_binder_5 hX H
  · exact c_slices_Repeat_core_binder_core_binder_6 hX H
  · exact c_slices_Repeat_core_binder_core_binder_7 hX H
  · exact c_slices_Repeat_core_binder_core_binder_8 hX H
theorem insS_len (k cn : Int) (i : Nat) (e : List (Int × Int)) (h : k = 19 → 0 ≤ cn ∧ cn ≤ 8) : (insS k cn i e).length ≤ e.length + 9 := by
  unfold insS
  split
  · simp
  · split
    · simp
    · split
      · rename_i q
        have := h q
        split
        · simp; omega
        · simp
      · omega
theorem insS_ok {k cn : Int} {i : Nat} {e : List (Int × Int)} (h : k = 19 → 0 ≤ cn ∧ cn ≤ 8) (hb : BndOk e) : BndOk (insS k cn i e) := by
  unfold insS
  split
  · intro b hm
    rcases List.mem_cons.1 hm with rfl | hm
    · exact .inl rfl
    · exact hb b hm
  · split
    · intro b hm
      rcases List.mem_cons.1 hm with rfl | hm
      · exact .inr (.inl rfl)
      · exact hb b hm
    · split
      · rename_i q
        have hcn := h q
        have h4 : ∀ b ∈ (4, cn) :: e, b = (1, 0) ∨ b = (2, 0) ∨ b = (3, 0) ∨ ∃ n, (0 ≤ n ∧ n ≤ 8) ∧ b = (4, n) := fun b hm => by
          rcases List.mem_cons.1 hm with rfl | hm
          · exact .inr (.inr (.inr ⟨cn, hcn, rfl⟩))
          · exact hb b hm
        split
        · intro b hm
          rcases List.mem_append.1 hm with hm | hm
          · obtain ⟨_, rfl⟩ := List.mem_replicate.1 hm
            exact .inr (.inr (.inl rfl))
          · exact h4 b hm
        · exact h4
      · exact hb
theorem env_inside (hX : CX X) (H : Heap) (e : List (Int × Int)) (c : Core) (i : Nat) (hl : e.length ≤ 900000) (hi : (i : Int) ≤ 9223372036854775807) (hc : c.kind = 19 → 0 ≤ c.count ∧ c.count ≤ 8) : callΩ X (.func n_core_env_inside [] []) [envD e, .agg c.cells, .int .i64 i] H = some (envD (insS c.kind c.count i e), H) := by
  refine c_core_env_inside hX (by simp) ?_
  have hw1 : ∀ b H, callΩ X (.func n_core_env_with [] []) [envD e, .bool false, .fsl [.int .i64 b, .int .i64 0, .str []] 1] H = some (envD ((b, 0) :: e), H) := fun b H => env_with hX H e [(b, 0)] (by simp; omega)
  have hw4 : ∀ H, callΩ X (.func n_core_env_with [] []) [envD e, .bool false, .fsl [.int .i64 4, .int .i64 c.count, .str []] 1] H = some (envD ((4, c.count) :: e), H) := fun H => env_with hX H e [(4, c.count)] (by simp; omega)
  unfold insS
  by_cases h1 : (c.kind = 14 ∧ i = 2) ∨ (c.kind = 15 ∧ 2 ≤ i) ∨ (c.kind = 18 ∧ i = 1)
  · rw [if_pos h1]
    rcases h1 with ⟨q1, q2⟩ | ⟨q1, q2⟩ | ⟨q1, q2⟩
    · simp [a_core_env_inside_B, Env.ofArgs, List.nil_append, List.append_nil, FinR, FinP, finish, fz_osl, z4, loadD_t3, q1, q2, hw1]
    · have q3 : (2 : Int) ≤ i := by omega
      simp [a_core_env_inside_B, Env.ofArgs, List.nil_append, List.append_nil, FinR, FinP, finish, fz_osl, z4, loadD_t3, q1, q2, q3, hw1]
    · simp [a_core_env_inside_B, Env.ofArgs, List.nil_append, List.append_nil, FinR, FinP, finish, fz_osl, z4, loadD_t3, q1, q2, hw1]
  · rw [if_neg h1]
    have g1 : (decide (c.kind = 14) && decide ((i : Int) = 2)) = false := by
      by_cases q1 : c.kind = 14
      · by_cases q2 : i = 2
        · exact absurd (.inl ⟨q1, q2⟩) h1
        · have : ¬ (i : Int) = 2 := by omega
          simp [this]
      · simp [q1]
    have g2 : (decide (c.kind = 15) && decide ((2 : Int) ≤ i)) = false := by
      by_cases q1 : c.kind = 15
      · by_cases q2 : 2 ≤ i
        · exact absurd (.inr (.inl ⟨q1, q2⟩)) h1
        · have : ¬ (2 : Int) ≤ i := by omega
          simp [this]
      · simp [q1]
    have g3 : (decide (c.kind = 18) && decide ((i : Int) = 1)) = false := by
      by_cases q1 : c.kind = 18
      · by_cases q2 : i = 1
        · exact absurd (.inr (.inr ⟨q1, q2⟩)) h1
        · have : ¬ (i : Int) = 1 := by omega
          simp [this]
      · simp [q1]
    by_cases h16 : c.kind = 16
    · rw [if_pos h16]
      simp [a_core_env_inside_B, Env.ofArgs, List.nil_append, List.append_nil, FinR, FinP, finish, fz_osl, z4, loadD_t3, h16, hw1]
    · rw [if_neg h16]
      by_cases h19 : c.kind = 19
      · rw [if_pos h19]
        obtain ⟨c0, c8⟩ := hc h19
        obtain ⟨m, hm⟩ : ∃ m : Nat, c.count = m := ⟨c.count.toNat, by omega⟩
        by_cases hi0 : i = 0
        · subst hi0
          have hr := fun H => rep3 hX H m (by omega)
          have hww := fun H => env_with hX H ((4, (m : Int)) :: e) (List.replicate m (3, 0)) (by simp; omega)
          simp at hww
          rw [hm] at hw4
          simp [a_core_env_inside_B, Env.ofArgs, List.nil_append, List.append_nil, FinR, FinP, finish, fz_osl, z4, loadD_t3, h19, hm, hw4, hr, hww]
        · have hi0' : ¬ (i : Int) = 0 := by omega
          rw [if_neg hi0]
          simp [a_core_env_inside_B, Env.ofArgs, List.nil_append, List.append_nil, FinR, FinP, finish, fz_osl, z4, loadD_t3, h19, hi0, hi0', hw4]
      · rw [if_neg h19]
        have p1 : c.kind = 14 → ¬ (i : Int) = 2 := fun q w => h1 (.inl ⟨q, by omega⟩)
        have p2 : c.kind = 15 → ¬ (2 : Int) ≤ i := fun q w => h1 (.inr (.inl ⟨q, by omega⟩))
        have p3 : c.kind = 18 → ¬ (i : Int) = 1 := fun q w => h1 (.inr (.inr ⟨q, by omega⟩))
        clear h1 g1 g2 g3 hw1 hw4
        simp +contextual -implicitDefEqProofs [a_core_env_inside_B, Env.ofArgs, List.nil_append, List.append_nil, FinR, FinP, finish, fz_osl, z4, loadD_t3, h16, h19]
        intro q
        exfalso
        rcases q with (⟨a, b⟩ | ⟨a, b⟩) | ⟨a, b⟩
        · exact p1 a b
        · exact p2 a b
        · exact p3 a b
mutual
noncomputable def checkS : Core → List (Int × Int) → Int
  | .mk k ix cn nm v f l, e => if singleS (.mk k ix cn nm v f l) e ≠ 0 then singleS (.mk k ix cn nm v f l) e else checkL k cn l 0 e
noncomputable def checkL : Int → Int → List Core → Nat → List (Int × Int) → Int
  | _, _, [], _, _ => 0
  | k, cn, c :: r, i, e => if checkS c (insS k cn i e) ≠ 0 then checkS c (insS k cn i e) else checkL k cn r (i + 1) e
end
theorem checkS_eq (c : Core) (e : List (Int × Int)) : checkS c e = if singleS c e ≠ 0 then singleS c e else checkL c.kind c.count c.kids 0 e := by
  cases c; rw [checkS]; rfl
theorem checkL_drop {k cn : Int} {l : List Core} {i : Nat} {e : List (Int × Int)} (h : i < l.length) : checkL k cn (l.drop i) i e = if checkS l[i] (insS k cn i e) ≠ 0 then checkS l[i] (insS k cn i e) else checkL k cn (l.drop (i + 1)) (i + 1) e := by
  rw [List.drop_eq_getElem_cons h, checkL]
theorem single_count {c : Core} {e : List (Int × Int)} (h : singleS c e = 0) : c.kind = 19 → 0 ≤ c.count ∧ c.count ≤ 8 := by
  intro q
  unfold singleS at h
  split at h
  · cases h
  · split at h
    · cases h
    · split at h
      · cases h
      · split at h
        · cases h
        · rename_i w
          simp only [not_or, not_and] at w
          have := w.2 q
          omega
theorem core_env_check (hX : CX X) : ∀ (c : Core) (e : List (Int × Int)) (H : Heap), Core.wf c → e.length + 9 * hC c ≤ 900000 → callΩ X (.func n_core_env_check [] []) [envD e, .agg c.cells] H = some (.int .i64 (checkS c e), H) := by
  intro c
  induction c using Core.ind with
  | h c ihc =>
  intro e H hw hb
  have hw' := hw
  rw [Core.wf_iff] at hw'
  obtain ⟨hw1, hw2, hw3, hw4⟩ := hw'
  refine c_core_env_check hX (by simp) ?_
  have hs := fun H => env_single hX H e c (by omega) hw
  have hce := checkS_eq c e
  rw [hC_eq] at hb
  simp [a_core_env_check_B, Env.ofArgs, List.nil_append, List.append_nil, hs]
  refine YS_ind (fun (q : Nat × Int) e1 H' => H' = H ∧ q.1 ≤ c.kids.length ∧ e1.get 0 = envD e ∧ e1.get 3 = .fptr c.cells ∧ e1.get 5 = .int .i64 q.2 ∧ e1.get 12 = SL c.kidsF (Core.cellsL c.kids) c.kids.length ∧ e1.get 13 = .int .i64 c.kids.length ∧ e1.get 14 = .int .i64 q.1 ∧ checkS c e = (if q.2 ≠ 0 then q.2 else checkL c.kind c.count (c.kids.drop q.1) q.1 e) ∧ (q.2 = 0 → singleS c e = 0)) (fun q => c.kids.length - q.1) ?_ (0, singleS c e) (by simp [hce])
  rintro ⟨k, x⟩ e1 H' ⟨rfl, hk, g0, g3, g5, g12, g13, g14, hd, hx⟩ L ih
  simp only at hk g0 g3 g5 g12 g13 g14 hd hx ih
  by_cases h : k < c.kids.length
  · have h' : (k : Int) < c.kids.length := by omega
    have w1 : IntKind.i64.wrap ((k : Int) + 1) = (k : Int) + 1 := wrap_i64 (by omega) (by omega)
    by_cases hx0 : x = 0
    · have hcn := single_count (hx hx0)
      have hin := fun H => env_inside hX H e c k (by omega) (by omega) hcn
      have hln := insS_len c.kind c.count k e hcn
      have hm := hCL_mem (c := c.kids[k]) (l := c.kids) (by simp)
      have hc := fun H => ihc c.kids[k] (by simp) (insS c.kind c.count k e) H (hw4 _ (by simp)) (by omega)
      rw [if_neg (by simpa using hx0), checkL_drop h] at hd
      subst hx0
      simp [a_core_env_check_L0, g0, g3, g5, g12, g13, g14, h, h', Core.cellsL_drop h, hin, hc, w1]
      refine ih (k + 1, checkS c.kids[k] (insS c.kind c.count k e)) _ _ (by simp; omega) ?_
      simp [g0, g3, g12, g13, hd, hx rfl]
      omega
    · rw [if_pos hx0] at hd
      simp [a_core_env_check_L0, g0, g3, g5, g12, g13, g14, h, h', Core.cellsL_drop h, hx0, w1]
      refine ih (k + 1, x) _ _ (by simp; omega) ?_
      simp [g0, g3, g5, g12, g13, hd, hx0]
      omega
  · obtain rfl : k = c.kids.length := by omega
    have : checkS c e = x := by
      rw [hd]
      by_cases q : x = 0
      · rw [if_neg (by simpa using q), q]; simp [checkL]
      · rw [if_pos q]
    simp [a_core_env_check_L0, FinR, FinP, finish, fz_osl, g0, g3, g5, g12, g13, g14, this]
end
end Go.AM.T
/- Cores: the page's check; GenHeight. -/
namespace Go.AM.T
section
variable {X : Ctx}
theorem bn_rep (m : Nat) (e : List (Int × Int)) : bnL (List.replicate m (3, 0) ++ e) = bnL e ++ List.replicate m 3 := by
  simp [bnL, bnI]
set_option maxHeartbeats 2000000 in
theorem ref21_check (hX : CX X) : ∀ (c : Core) (e : List (Int × Int)) (H : Heap) (d : D) (p : Nat → D), RdN H (bnL e) d p → BndOk e → Core.wf c → e.length + 9 * hC c ≤ 900000 → callΩ X (.func n_bolterref21_check [] []) [.agg c.cells, d] H = some (.int .i64 (checkS c e), H) := by
  intro c
  induction c using Core.ind with
  | h c ihc =>
  intro e H d p hr hbo hw hb
  have hw' := hw
  rw [Core.wf_iff] at hw'
  obtain ⟨hw1, hw2, hw3, hw4⟩ := hw'
  refine c_bolterref21_check hX (by simp) ?_
  have hs := ref21_single hX H e d p hr hbo c (by omega) hw
  have hce := checkS_eq c e
  rw [hC_eq] at hb
  simp [a_bolterref21_check_B, Env.ofArgs, List.nil_append, List.append_nil, hs, hr.ok]
  refine YS_ind (fun (q : Nat × Int) e1 H' => H' = H ∧ q.1 ≤ c.kids.length ∧ e1.get 1 = d ∧ e1.get 2 = .fptr c.cells ∧ e1.get 5 = .int .i64 q.2 ∧ e1.get 6 = .int .i64 q.1 ∧ checkS c e = (if q.2 ≠ 0 then q.2 else checkL c.kind c.count (c.kids.drop q.1) q.1 e) ∧ (q.2 = 0 → singleS c e = 0)) (fun q => c.kids.length - q.1) ?_ (0, singleS c e) (by simp [hce])
  rintro ⟨k, x⟩ e1 H' ⟨rfl, hk, g1, g2, g5, g6, hd, hx⟩ L ih
  simp only at hk g1 g2 g5 g6 hd hx ih
  by_cases hx0 : x = 0
  · subst hx0
    have hsz := hx rfl
    rw [if_neg (by simp)] at hd
    by_cases h : k < c.kids.length
    · have h' : (k : Int) < c.kids.length := by omega
      have w1 : IntKind.i64.wrap ((k : Int) + 1) = (k : Int) + 1 := wrap_i64 (by omega) (by omega)
      have hcn := single_count hsz
      have hln := insS_len c.kind c.count k e hcn
      have hbo2 := insS_ok (i := k) hcn hbo
      have hm := hCL_mem (c := c.kids[k]) (l := c.kids) (by simp)
      have hc := fun d p hr => ihc c.kids[k] (by simp) (insS c.kind c.count k e) H' d p hr hbo2 (hw4 _ (by simp)) (by omega)
      have har := fun i => ref21_around hX H' (bnL e) d p hr i (by rw [bnL_len]; omega)
      rw [checkL_drop h] at hd
      -- what the next round wants
      have next : ∀ e2 : Env, e2.get 1 = d → e2.get 2 = .fptr c.cells → e2.get 5 = .int .i64 (checkS c.kids[k] (insS c.kind c.count k e)) → e2.get 6 = .int .i64 ((k : Int) + 1) → YS X H'.length none L.loop [Fr.blk 0, Fr.seq ((ACode.reg [{ dst := some 90, guard := none, op := AOp.mov (Arg.t 5) }, { dst := some 4, guard := none, op := AOp.mov (Arg.t 90) }]).seq ACode.ret)] ⟨e2, H', []⟩ (FinR [ARes.tmp 4] none H'.length (.int .i64 (checkS c e), H')) := fun e2 q1 q2 q3 q4 => by
        refine ih (k + 1, checkS c.kids[k] (insS c.kind c.count k e)) _ _ (by simp; omega) ?_
        simp [q1, q2, q3, q4, hd, hsz]
        omega
      by_cases h1 : (c.kind = 14 ∧ k = 2) ∨ (c.kind = 15 ∧ 2 ≤ k) ∨ (c.kind = 18 ∧ k = 1)
      · have hin : insS c.kind c.count k e = (1, 0) :: e := by unfold insS; rw [if_pos h1]
        rw [hin] at hc next
        have hf := har 1
        obtain ⟨p2, hr2⟩ := RdN.sl H' .full (bnL ((1, 0) :: e))
        have hlen : (bnL ((1, 0) :: e)).length = e.length + 1 := by rw [bnL_len]; rfl
        rw [SL_full, hlen] at hr2
        have hc2 := hc _ _ hr2
        rw [bnL_cons, show bnI (1, 0) = 1 from rfl] at hc2
        rw [bnL_len] at hf
        rcases h1 with ⟨q1, q2⟩ | ⟨q1, q2⟩ | ⟨q1, q2⟩
        · have q3 : decide ((k : Int) = 2) = true := decide_eq_true (by omega)
          simp at hc2 hf
          simp [a_bolterref21_check_L1, g1, g2, g5, g6, h, h', Core.cellsL_drop h, hr.ok, q1, q3, hf, hc2, w1]
          refine next _ ?_ ?_ ?_ ?_ <;> simp [g1, g2]
        · have q3 : (2 : Int) ≤ k := by omega
          simp at hc2 hf
          simp [a_bolterref21_check_L1, g1, g2, g5, g6, h, h', Core.cellsL_drop h, hr.ok, q1, q2, q3, hf, hc2, w1]
          refine next _ ?_ ?_ ?_ ?_ <;> simp [g1, g2]
        · have q3 : decide ((k : Int) = 1) = true := decide_eq_true (by omega)
          simp at hc2 hf
          simp [a_bolterref21_check_L1, g1, g2, g5, g6, h, h', Core.cellsL_drop h, hr.ok, q1, q3, hf, hc2, w1]
          refine next _ ?_ ?_ ?_ ?_ <;> simp [g1, g2]
      · by_cases h16 : c.kind = 16
        · have hin : insS c.kind c.count k e = (2, 0) :: e := by unfold insS; rw [if_neg h1, if_pos h16]
          rw [hin] at hc next
          have hf := har 2
          obtain ⟨p2, hr2⟩ := RdN.sl H' .full (bnL ((2, 0) :: e))
          have hlen : (bnL ((2, 0) :: e)).length = e.length + 1 := by rw [bnL_len]; rfl
          rw [SL_full, hlen] at hr2
          have hc2 := hc _ _ hr2
          rw [bnL_cons, show bnI (2, 0) = 2 from rfl] at hc2
          rw [bnL_len] at hf
          simp at hc2 hf
          simp [a_bolterref21_check_L1, g1, g2, g5, g6, h, h', Core.cellsL_drop h, hr.ok, h16, hf, hc2, w1]
          refine next _ ?_ ?_ ?_ ?_ <;> simp [g1, g2]
        · by_cases h19 : c.kind = 19
          · obtain ⟨c0, c8⟩ := hcn h19
            obtain ⟨m, hm2⟩ : ∃ m : Nat, c.count = m := ⟨c.count.toNat, by omega⟩
            have hf := har (10 + (m : Int))
            have w2 : IntKind.i64.wrap (10 + (m : Int)) = 10 + (m : Int) := wrap_i64 (by omega) (by omega)
            rw [bnL_len] at hf
            by_cases hk0 : k = 0
            · have hin : insS c.kind c.count k e = List.replicate m (3, 0) ++ ((4, (m : Int)) :: e) := by unfold insS; rw [if_neg h1, if_neg h16, if_pos h19, if_pos hk0, hm2]; rfl
              rw [hin] at hc next
              obtain ⟨p2, hr2⟩ := RdN.sl H' .full (bnL (List.replicate m (3, 0) ++ ((4, (m : Int)) :: e)))
              have hlen : (bnL (List.replicate m (3, 0) ++ ((4, (m : Int)) :: e))).length = e.length + 1 + m := by rw [bnL_len]; simp; omega
              rw [SL_full, hlen] at hr2
              have hc2 := hc _ _ hr2
              rw [bn_rep, bnL_cons, show bnI (4, (m : Int)) = 10 + (m : Int) from rfl] at hc2
              have hk0' : decide ((k : Int) = 0) = true := decide_eq_true (by omega)
              have hk0n : decide (k = 0) = true := decide_eq_true hk0
              simp at hf
              simp [a_bolterref21_check_L1, g1, g2, g5, g6, h, h', hr.ok, h19, hm2, w2, hf]
              refine YS_ind (fun (q : Nat) e2 H2 => H2 = H' ∧ q ≤ m ∧ e2.get 1 = d ∧ e2.get 2 = .fptr c.cells ∧ e2.get 5 = .int .i64 0 ∧ e2.get 6 = .int .i64 k ∧ e2.get 7 = .fsl (intsD (bnL e ++ [10 + (m : Int)] ++ List.replicate q 3)) (e.length + 1 + q) ∧ e2.get 8 = .int .i64 q) (fun q => m - q) ?_ 0 (by simp [g1, g2, g5, g6])
              rintro q e2 H2 ⟨rfl, hq, t1, t2, t5, t6, t7, t8⟩ L' ih'
              by_cases hqm : q < m
              · have hqm' : (q : Int) < m := by omega
                have w3 : IntKind.i64.wrap ((q : Int) + 1) = (q : Int) + 1 := wrap_i64 (by omega) (by omega)
                obtain ⟨p3, hr3⟩ := RdN.sl H2 .full (bnL e ++ [10 + (m : Int)] ++ List.replicate q 3)
                have hl3 : (bnL e ++ [10 + (m : Int)] ++ List.replicate q 3).length = e.length + 1 + q := by simp [bnL_len]; omega
                rw [SL_full, hl3] at hr3
                have hf3 := ref21_around hX H2 _ _ p3 hr3 3 (by rw [hl3]; omega)
                rw [hl3, List.append_assoc _ (List.replicate q 3), show List.replicate q (3 : Int) ++ [3] = List.replicate (q + 1) 3 by rw [List.replicate_succ']] at hf3
                generalize hA : intsD (bnL e ++ [10 + (m : Int)] ++ List.replicate q 3) = A at *
                generalize hB : intsD (bnL e ++ [10 + (m : Int)] ++ List.replicate (q + 1) 3) = B at *
                simp [a_bolterref21_check_L0, t1, t2, t5, t6, t7, t8, hm2, hqm, hqm', hk0', hk0n, hf3, w3]
                refine ih' (q + 1) _ _ (by omega) ?_
                simp [t1, t2, t5, t6, hB, w3]
                refine ⟨by omega, ?_, by omega⟩
                rw [← hB]
                simp
              · obtain rfl : q = m := by omega
                generalize hA : intsD (bnL e ++ [10 + (q : Int)] ++ List.replicate q 3) = A at *
                simp [a_bolterref21_check_L0, t1, t2, t5, t6, t7, t8, hm2, h, h', Core.cellsL_drop h, hc2, w1]
                refine next _ ?_ ?_ ?_ ?_ <;> simp [t1, t2]
            · have hin : insS c.kind c.count k e = (4, (m : Int)) :: e := by unfold insS; rw [if_neg h1, if_neg h16, if_pos h19, if_neg hk0, hm2]
              rw [hin] at hc next
              obtain ⟨p2, hr2⟩ := RdN.sl H' .full (bnL ((4, (m : Int)) :: e))
              have hlen : (bnL ((4, (m : Int)) :: e)).length = e.length + 1 := by rw [bnL_len]; rfl
              rw [SL_full, hlen] at hr2
              have hc2 := hc _ _ hr2
              rw [bnL_cons, show bnI (4, (m : Int)) = 10 + (m : Int) from rfl] at hc2
              have hk0' : decide ((k : Int) = 0) = false := decide_eq_false (by omega)
              simp at hc2 hf
              simp [a_bolterref21_check_L1, g1, g2, g5, g6, h, h', hr.ok, h19, hm2, w2, hf]
              refine YS_ind (fun (q : Nat) e2 H2 => H2 = H' ∧ e2.get 1 = d ∧ e2.get 2 = .fptr c.cells ∧ e2.get 5 = .int .i64 0 ∧ e2.get 6 = .int .i64 k ∧ e2.get 7 = .fsl (List.map (D.int .i64) (bnL e) ++ [D.int .i64 (10 + (m : Int))]) (e.length + 1) ∧ e2.get 8 = .int .i64 0) (fun q => 0) ?_ 0 (by simp [g1, g2, g5, g6])
              rintro q e2 H2 ⟨rfl, t1, t2, t5, t6, t7, t8⟩ L' ih'
              by_cases hm0 : (0 : Int) < m
              · have hm0' : 0 < m := by omega
                simp [a_bolterref21_check_L0, t1, t2, t5, t6, t7, t8, hm2, hm0, hm0', hk0', hk0, h, h', Core.cellsL_drop h, hc2, w1]
                refine next _ ?_ ?_ ?_ ?_ <;> simp [t1, t2]
              · have hm0' : ¬ 0 < m := by omega
                have hmz : m = 0 := by omega
                simp [a_bolterref21_check_L0, t1, t2, t5, t6, t7, t8, hm2, hm0, hm0', hk0', hk0, h, h', Core.cellsL_drop h, hc2, w1]
                refine next _ ?_ ?_ ?_ ?_ <;> simp [t1, t2]
          · have hin : insS c.kind c.count k e = e := by unfold insS; rw [if_neg h1, if_neg h16, if_neg h19]
            rw [hin] at hc next
            have hc2 := hc d p hr
            have p1 : c.kind = 14 → ¬ (k : Int) = 2 := fun q w => h1 (.inl ⟨q, by omega⟩)
            have p2 : c.kind = 15 → ¬ (2 : Int) ≤ k := fun q w => h1 (.inr (.inl ⟨q, by omega⟩))
            have p3 : c.kind = 18 → ¬ (k : Int) = 1 := fun q w => h1 (.inr (.inr ⟨q, by omega⟩))
            clear h1 har
            simp +contextual -implicitDefEqProofs [a_bolterref21_check_L1, g1, g2, g5, g6, h, h', Core.cellsL_drop h, hr.ok, h16, h19, hc2, w1]
            refine ⟨fun q => ?_, fun _ u1 u2 => ?_⟩
            · exfalso
              rcases q with (⟨a, b⟩ | ⟨a, b⟩) | ⟨a, b⟩
              · exact p1 a b
              · exact p2 a b
              · exact p3 a b
            · refine next _ ?_ ?_ ?_ ?_ <;> simp [g1, g2]
    · obtain rfl : k = c.kids.length := by omega
      simp [checkL] at hd
      simp [a_bolterref21_check_L1, FinR, FinP, finish, fz_osl, g1, g2, g5, g6, hd]
  · rw [if_pos hx0] at hd
    by_cases h : k < c.kids.length
    · have h' : (k : Int) < c.kids.length := by omega
      simp [a_bolterref21_check_L1, FinR, FinP, finish, fz_osl, g1, g2, g5, g6, h, h', hx0, hd]
    · have h' : ¬ (k : Int) < c.kids.length := by omega
      simp [a_bolterref21_check_L1, FinR, FinP, finish, fz_osl, g1, g2, g5, g6, h, h', hd]
end
end Go.AM.T
/- Cores: GenHeight. -/
namespace Go.AM.T
section
variable {X : Ctx}
/-- What the program asks of a core that stands alone: 64 that are bound. -/
def vars64 : List (Int × Int) := List.replicate 64 (1, 0)
theorem vars64_len : vars64.length = 64 := List.length_replicate ..
/-- What both sides say of a core as a whole. -/
noncomputable def topS (c : Core) : Int := if 400 < deepC 1000 c then 42 else if 16384 < sizeC c then 5 else checkS c vars64
theorem hC_top {c : Core} (h : ¬ 400 < deepC 1000 c) : hC c ≤ 401 := by
  have := hC_deep 1000 c (by omega)
  omega
theorem bnL_vars (n : Nat) : bnL (List.replicate n (1, 0)) = List.replicate n 1 := by simp [bnL, bnI]
theorem BndOk_vars (n : Nat) : BndOk (List.replicate n (1, 0)) := by
  intro b hb
  rw [List.eq_of_mem_replicate hb]
  exact .inl rfl
set_option maxHeartbeats 1000000 in
theorem ref21_Check (hX : CX X) (H : Heap) (c : Core) (hw : Core.wf c) : callΩ X (.func n_bolterref21_Check [] []) [.agg c.cells, .int .i64 64] H = some (.int .i64 (topS c), H) := by
  refine c_bolterref21_Check hX (by simp) ?_
  have hd : ∀ H, callΩ X (.func n_bolterref21_Deep [] []) [.agg c.cells, .int .i64 1000] H = some (.int .i64 (deepC 1000 c), H) := fun H => ref21_Deep hX H c hw 1000 (by omega)
  have hs := fun H => ref21_Size hX H c hw
  unfold topS
  by_cases h1 : 400 < deepC 1000 c
  · have h1' : (400 : Int) < deepC 1000 c := by omega
    rw [if_pos h1]
    simp [a_bolterref21_Check_B, Env.ofArgs, List.nil_append, List.append_nil, FinR, FinP, finish, fz_osl, hd, h1, h1']
  · have h1' : ¬ (400 : Int) < deepC 1000 c := by omega
    rw [if_neg h1]
    have ht := hC_top h1
    by_cases h2 : 16384 < sizeC c
    · have h2' : (16384 : Int) < sizeC c := by omega
      rw [if_pos h2]
      simp [a_bolterref21_Check_B, Env.ofArgs, List.nil_append, List.append_nil, FinR, FinP, finish, fz_osl, hd, hs, h1, h1', h2, h2']
    · have h2' : ¬ (16384 : Int) < sizeC c := by omega
      rw [if_neg h2]
      simp [a_bolterref21_Check_B, Env.ofArgs, List.nil_append, List.append_nil, hd, hs, h1, h1', h2, h2']
      have ap : ∀ (k : Nat), k < 64 → appendD H.length (H ++ [Chunk.row 1 (intsD (List.replicate k 1)) (decide (k = 0))]) 1 8 (.osl H.length k 0 k) [D.int .i64 1] 1 = some (.osl H.length (k + 1) 0 (k + 1), H ++ [Chunk.row 1 (intsD (List.replicate (k + 1) 1)) false]) := fun k hk => by
        have := appendD_full (b := H.length) (H := H ++ [Chunk.row 1 (intsD (List.replicate k 1)) (decide (k = 0))]) (id := H.length) (hw := k) (es := 1) (bytes := 8) (m := 1) (ys := [D.int .i64 1]) (cs := intsD (List.replicate k 1)) (nil := decide (k = 0)) (n := k) (by simp) (by simp) (by omega) (fun h => by rw [of_decide_eq_true h]) (by unfold maxBytes; omega) (by unfold maxBytes; omega) storable_i (by omega)
        simpa [List.replicate_succ'] using this
      refine YS_ind (fun (k : Nat) e H' => H' = H ++ [.row 1 (intsD (List.replicate k 1)) (decide (k = 0))] ∧ k ≤ 64 ∧ e.get 1 = .int .i64 64 ∧ e.get 2 = .fptr c.cells ∧ e.get 5 = .osl H.length k 0 k ∧ e.get 6 = .int .i64 k) (fun k => 64 - k) ?_ 0 (by simp)
      rintro k e H' ⟨rfl, hk, g1, g2, g5, g6⟩ L ih
      by_cases h : k < 64
      · have h' : (k : Int) < 64 := by omega
        have w1 : IntKind.i64.wrap ((k : Int) + 1) = (k : Int) + 1 := wrap_i64 (by omega) (by omega)
        have hap := ap k h
        generalize hA : intsD (List.replicate k 1) = A at *
        generalize hB : intsD (List.replicate (k + 1) 1) = B at *
        have hel : ∀ H : Heap, elems H 1 (.fsl [.int .i64 1] 1) = some ([.int .i64 1], 1) := fun _ => rfl
        simp [a_bolterref21_Check_L0, g1, g2, g5, g6, h, h', hap, hel, w1]
        refine ih (k + 1) _ _ (by omega) ?_
        simp [g1, g2, w1, hB]
        omega
      · obtain rfl : k = 64 := by omega
        have hch := fun d p hr => ref21_check hX c vars64 (H ++ [.row 1 (intsD (List.replicate 64 1)) false]) d p hr (BndOk_vars 64) hw (by rw [vars64_len]; omega)
        rw [show bnL vars64 = List.replicate 64 1 from bnL_vars 64] at hch
        obtain ⟨p, hr⟩ := RdN.own (H := H ++ [.row 1 (intsD (List.replicate 64 1)) false]) (l := List.replicate 64 1) (id := H.length) (nil := false) (by simp) (by simp)
        have hc := hch _ _ hr
        rw [List.length_replicate] at hc
        generalize hA : intsD (List.replicate 64 1) = A at *
        have hf : decide (64 = 0) = false := rfl
        simp [a_bolterref21_Check_L0, FinR, FinP, finish, fz_osl, g1, g2, g5, g6, hc]
theorem copies_vars : copies [D.int .i64 1, D.int .i64 0, D.str []] 64 = bindsD vars64 := copies_binds 64 1
set_option maxHeartbeats 1000000 in
theorem core_Check (hX : CX X) (H : Heap) (c : Core) (hw : Core.wf c) : callΩ X (.func n_core_Check [] []) [.agg c.cells, .int .i64 64] H = some (.int .i64 (topS c), H) := by
  refine c_core_Check hX (by simp) ?_
  have hd : ∀ H, callΩ X (.func n_core_deep [] []) [.agg c.cells, .int .i64 1000] H = some (.int .i64 (deepC 1000 c), H) := fun H => core_deep hX H c hw 1000 (by omega)
  have hs := fun H => core_Size hX H c hw
  have hr := fun H => c_slices_Repeat_core_binder_core_binder_64 (X := X) hX H
  rw [copies_vars] at hr
  have hwith : ∀ H, callΩ X (.func n_core_env_with [] []) [.nilp, .bool false, .fsl (bindsD vars64) 64] H = some (envD vars64, H) := fun H => by
    have := env_with hX H [] vars64 (by rw [vars64_len]; decide)
    rwa [vars64_len, show vars64.reverse = vars64 from List.reverse_replicate .., List.append_nil] at this
  have hmm : min (max (64 : Int) 0) 64 = 64 := rfl
  unfold topS
  by_cases h1 : 400 < deepC 1000 c
  · have h1' : (400 : Int) < deepC 1000 c := by omega
    rw [if_pos h1]
    simp [a_core_Check_B, Env.ofArgs, List.nil_append, List.append_nil, FinR, FinP, finish, fz_osl, hd, h1, h1']
  · have h1' : ¬ (400 : Int) < deepC 1000 c := by omega
    rw [if_neg h1]
    have ht := hC_top h1
    by_cases h2 : 16384 < sizeC c
    · have h2' : (16384 : Int) < sizeC c := by omega
      rw [if_pos h2]
      simp [a_core_Check_B, Env.ofArgs, List.nil_append, List.append_nil, FinR, FinP, finish, fz_osl, hd, hs, h1, h1', h2, h2']
    · have h2' : ¬ (16384 : Int) < sizeC c := by omega
      rw [if_neg h2]
      have hch := fun H => core_env_check hX c vars64 H hw (by rw [vars64_len]; omega)
      simp [a_core_Check_B, Env.ofArgs, List.nil_append, List.append_nil, FinR, FinP, finish, fz_osl, hd, hs, h1, h1', h2, h2', hmm, hr, hwith, hch, z4]
theorem gen_Height (hX : CX X) (H : Heap) (c : Core) (hw : Core.wf c) : callΩ X (.func n_gen_Height [] []) [.agg c.cells] H = some (.tup [.int .i64 (if topS c = 0 then hC c else 0), .int .i64 (topS c)], H) := by
  refine c_gen_Height hX (by simp) ?_
  have h1 := fun H => core_Check hX H c hw
  by_cases h : topS c = 0
  · have h2 := fun H => gen_height hX H c hw (by
      have : ¬ 400 < deepC 1000 c := by
        intro q; unfold topS at h; rw [if_pos q] at h; cases h
      have := hC_top this
      omega)
    simp [a_gen_Height_B, Env.ofArgs, List.nil_append, List.append_nil, FinR, FinP, finish, fz_osl, h1, h, h2]
  · simp [a_gen_Height_B, Env.ofArgs, List.nil_append, List.append_nil, FinR, FinP, finish, fz_osl, h1, h]
theorem law26_num (hX : CX X) (H : Heap) (n : Int) : callΩ X (.func n_bolterlaw26_num [] []) [.int .i64 n] H = some (.int .i64 n, H) := by
  refine c_bolterlaw26_num hX (by simp) ?_
  simp [a_bolterlaw26_num_B, Env.ofArgs, List.nil_append, List.append_nil, FinR, FinP, finish, fz_osl]
theorem GenHeight (hX : CX X) (H : Heap) (c : Core) (hw : Core.wf c) : callΩ X (.func n_bolterlaw26_GenHeight [] []) [.agg c.cells] H = some (.bool true, H) := by
  refine c_bolterlaw26_GenHeight hX (by simp) ?_
  have h1 := fun H => gen_Height hX H c hw
  have h2 := fun H => ref21_Check hX H c hw
  have h3 := fun H n => law26_num (X := X) hX H n
  have h4 := fun H => c_bolterlaw26_alive (X := X) hX H
  by_cases h : topS c = 0
  · have h5 := fun H => law26_deep hX H c hw (by
      have : ¬ 400 < deepC 1000 c := by
        intro q; unfold topS at h; rw [if_pos q] at h; cases h
      have := hC_top this
      omega)
    simp [a_bolterlaw26_GenHeight_B, Env.ofArgs, List.nil_append, List.append_nil, FinR, FinP, finish, fz_osl, h1, h2, h3, h4, h5, h]
  · simp [a_bolterlaw26_GenHeight_B, Env.ofArgs, List.nil_append, List.append_nil, FinR, FinP, finish, fz_osl, h1, h2, h3, h4, h]
end
end Go.AM.T
