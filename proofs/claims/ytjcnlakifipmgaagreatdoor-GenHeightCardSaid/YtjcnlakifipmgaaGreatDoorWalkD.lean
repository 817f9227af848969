/- Both checks of a value. -/
import Derived.Test.YtjcnlakifipmgaaGreatDoorWalkB
import Derived.Test.YtjcnlakifipmgaaGreatDoorWalkC
set_option linter.unusedVariables false
set_option linter.unusedSimpArgs false
set_option linter.unnecessarySimpa false
set_option maxRecDepth 100000
/- Values: the page's check of them. -/
namespace Go.AM.T
section
variable {X : Ctx}
theorem ref_Of (hX : CX X) (H : Heap) (d : Dec) (hu : U32 d.coef) (hl : d.coef.length ≤ 1000) : callΩ X (.func n_bolterref02_Of [] []) [.agg d.cells] H = some (.agg [.bool d.neg, SL .nil (i64n (digL (limbs d.coef))) (digL (limbs d.coef)).length, .int .i64 d.exp], H) := by
  refine c_bolterref02_Of hX (by simp) ?_
  have h1 := fun H' => ref_Digits hX H' d.coefF d.coef hu hl
  simp [a_bolterref02_Of_B, Env.ofArgs, List.nil_append, List.append_nil, FinR, FinP, finish, fz_osl, h1, z11, storable, loadD_t3, mapO, unders_nats]
theorem ref_Same (hX : CX X) (H : Heap) (a b : Dec) (hl : (a.coef.length : Int) ≤ 9223372036854775807) : callΩ X (.func n_bolterref02_Same [] []) [.agg a.cells, .agg b.cells] H = some (.bool (decide (a.neg = b.neg ∧ a.exp = b.exp ∧ a.coef = b.coef)), H) := by
  refine c_bolterref02_Same hX (by simp) ?_
  by_cases h1 : a.neg = b.neg
  · by_cases h2 : a.exp = b.exp
    · by_cases h3 : a.coef.length = b.coef.length
      · simp [a_bolterref02_Same_B, Env.ofArgs, List.nil_append, List.append_nil, FinR, FinP, finish, fz_osl, h1, h2, h3]
        refine YS_ind (fun k e H' => H' = H ∧ k ≤ a.coef.length ∧ e.get 2 = .fptr a.cells ∧ e.get 3 = .fptr b.cells ∧ e.get 5 = .int .i64 k ∧ (a.coef = b.coef ↔ a.coef.drop k = b.coef.drop k)) (fun k => a.coef.length - k) ?_ 0 (by simp)
        rintro k e H' ⟨rfl, hk, g2, g3, g5, hd⟩ L ih
        by_cases h : k < a.coef.length
        · have h' : k < b.coef.length := by omega
          rw [List.drop_eq_getElem_cons h, List.drop_eq_getElem_cons h', List.cons.injEq] at hd
          have ha := u32s_ld h
          have hb := u32s_ld h'
          simp only [u32s] at ha hb
          by_cases he : a.coef[k] = b.coef[k]
          · simp [he] at hd
            simp [a_bolterref02_Same_L0, g2, g3, g5, h, h', ha, hb, he, wrap_succ h hl]
            refine ih (k + 1) _ _ (by omega) ?_
            simp [g2, g3, hd]
            omega
          · have hne : ¬ a.coef = b.coef := fun q => he (hd.1 q).1
            simp [a_bolterref02_Same_L0, g2, g3, g5, h, h', ha, hb, he, FinR, FinP, finish, fz_osl, hne]
        · obtain rfl : k = a.coef.length := by omega
          have : a.coef = b.coef := by
            rw [hd, List.drop_of_length_le (Nat.le_refl _), List.drop_of_length_le (by omega)]
          simp [a_bolterref02_Same_L0, g2, g3, g5, FinR, FinP, finish, fz_osl, this]
      · have hne : ¬ a.coef = b.coef := fun q => h3 (by rw [q])
        simp [a_bolterref02_Same_B, Env.ofArgs, List.nil_append, List.append_nil, FinR, FinP, finish, fz_osl, h1, h2, h3, hne]
    · simp [a_bolterref02_Same_B, Env.ofArgs, List.nil_append, List.append_nil, FinR, FinP, finish, fz_osl, h1, h2]
  · have h1' : (a.neg == b.neg) = false := by simpa using h1
    simp [a_bolterref02_Same_B, Env.ofArgs, List.nil_append, List.append_nil, FinR, FinP, finish, fz_osl, h1, h1']

theorem ref_dec_Check (hX : CX X) (H : Heap) (d : Dec) (hw : d.wf) : callΩ X (.func n_bolterref02_Check [] []) [.agg d.cells] H = some (.int .i64 (decE d), H) := by
  refine c_bolterref02_Check hX (by simp) ?_
  obtain ⟨hu, hl⟩ := hw
  have c1 := ref_nat_Check hX H d.coefF d.coef hl
  unfold decE
  by_cases h0 : natE d.coef = 0
  · by_cases h40 : 40 < d.coef.length
    · have h40' : (40 : Int) < d.coef.length := by omega
      simp [a_bolterref02_Check_B, Env.ofArgs, List.nil_append, List.append_nil, FinR, FinP, finish, fz_osl, c1, h0, h40, h40']
    · have h40' : ¬ (40 : Int) < d.coef.length := by omega
      have hof := ref_Of hX H d hu (by omega)
      have hlast : d.coef.getLast? ≠ some 0 := by
        unfold natE at h0
        rw [if_neg (by omega)] at h0
        split at h0
        · cases h0
        · assumption
      by_cases he : d.coef = []
      · have c2 : callΩ X (.func n_bolterref01_Check [] []) [SL d.coefF [] 0] H = some (.int .i64 0, H) := by rw [he] at c1 h0; rw [h0] at c1; exact c1
        rw [he] at hof
        simp [limbs, digL_zero, SL] at hof
        by_cases hn : d.neg = true
        · simp [hn] at hof
          simp [a_bolterref02_Check_B, Env.ofArgs, List.nil_append, List.append_nil, FinR, FinP, finish, fz_osl, c2, h0, he, hn, hof]
        · by_cases hx : d.exp = 0
          · simp [hn, hx] at hof
            simp [a_bolterref02_Check_B, Env.ofArgs, List.nil_append, List.append_nil, FinR, FinP, finish, fz_osl, c2, h0, he, hn, hx, hof]
            exact he ▸ h0
          · simp [hn] at hof
            simp [a_bolterref02_Check_B, Env.ofArgs, List.nil_append, List.append_nil, FinR, FinP, finish, fz_osl, c2, h0, he, hn, hx, hof]
      · have hV : limbs d.coef ≠ 0 := by have := limbs_pos hu he hlast; omega
        have hz : ¬ d.coef.length = 0 := fun h => he (List.length_eq_zero_iff.1 h)
        rw [digL_pos hV, ← digL_pos hV, digL_len] at hof
        have hdg : 0 < digs (limbs d.coef) := by rw [digs_pos hV]; omega
        have hdg' : ¬ digs (limbs d.coef) = 0 := by omega
        have hld : loadD false 1 (i64n (digL (limbs d.coef))) = some (.int .i64 ((limbs d.coef % 10 : Nat) : Int)) := by rw [digL_pos hV]; rfl
        generalize i64n (digL (limbs d.coef)) = ds at *
        have hm10 : (((limbs d.coef % 10 : Nat) : Int) = 0) = (limbs d.coef % 10 = 0) := by apply propext; omega
        simp only [hm10] at *
        generalize limbs d.coef = V at *
        simp +contextual -implicitDefEqProofs [a_bolterref02_Check_B, Env.ofArgs, List.nil_append, List.append_nil, FinR, FinP, finish, fz_osl, c1, h0, h40, h40', he, hof, hdg, hdg', hld]
        omega
  · simp [a_bolterref02_Check_B, Env.ofArgs, List.nil_append, List.append_nil, FinR, FinP, finish, fz_osl, c1, h0]
end
end Go.AM.T
/- Values: the page's check of one. -/
namespace Go.AM.T
section
variable {X : Ctx}
theorem ref_Same0 (hX : CX X) (H : Heap) (a : Dec) (hl : (a.coef.length : Int) ≤ 9223372036854775807) : callΩ X (.func n_bolterref02_Same [] []) [.agg a.cells, .agg [.bool false, .nilsl, .int .i64 0]] H = some (.bool (!a.neg && decide (a.coef = []) && decide (a.exp = 0)), H) := by
  have := ref_Same hX H a ⟨false, .nil, [], 0⟩ hl
  rw [show (⟨false, .nil, [], 0⟩ : Dec).cells = [.bool false, .nilsl, .int .i64 0] from rfl] at this
  rw [this]
  simp only [show (⟨false, .nil, [], 0⟩ : Dec).neg = false from rfl, show (⟨false, .nil, [], 0⟩ : Dec).exp = 0 from rfl, show (⟨false, .nil, [], 0⟩ : Dec).coef = [] from rfl]
  congr 3
  cases a.neg <;> simp [and_comm]
theorem ref_rises (hX : CX X) (H : Heap) (v : Val) (hw : (v.keys.length : Int) ≤ 9223372036854775807) (e : Env) (h1 : e.get 1 = .fptr v.cells) (h5 : e.get 5 = .int .i64 1) : YS X H.length none (.loop a_bolterref05_own_L1) [Fr.blk 3, Fr.seq ((ACode.reg [{ dst := some 2, guard := none, op := AOp.mov (Arg.c (D.int IntKind.i64 0)) }]).seq ACode.ret)] ⟨e, H, []⟩ (FinR [ARes.tmp 2] none H.length (.int .i64 (if risesS v.keys = true then 0 else 9), H)) := by
  refine YS_ind (fun q e H' => H' = H ∧ e.get 1 = .fptr v.cells ∧ e.get 5 = .int .i64 ((q + 1 : Nat) : Int) ∧ risesS v.keys = risesS (v.keys.drop q)) (fun q => v.keys.length - q) ?_ 0 (by simp [h1, h5])
  rintro q e H' ⟨rfl, h1, h5, hd⟩ L ih
  by_cases h : q + 1 < v.keys.length
  · rw [risesS_drop h] at hd
    have e2 : IntKind.i64.wrap (((q : Int) + 1) - 1) = q := by rw [wrap_i64 (by omega) (by omega)]; omega
    have e5 := loadD_map (f := D.str) h
    have e5' := loadD_map (f := D.str) (show q < v.keys.length by omega)
    have e6 : (q : Int) + 1 < v.keys.length := by omega
    have e7 : ((q : Int) + 1).toNat = q + 1 := by omega
    have e8 : (0 : Int) ≤ (q : Int) + 1 := by omega
    have e9 := wrap_succ h hw
    simp at e2 e9
    cases hb : (Op.bytesLess v.keys[q + 1] v.keys[q] || v.keys[q + 1] == v.keys[q]) with
    | true =>
      rw [hb] at hd
      simp at hd hb
      simp [a_bolterref05_own_L1, h1, h5, e2, e5, e5', e6, e7, e8, e9, hb, FinR, FinP, finish, fz_osl, hd, show q < v.keys.length by omega]
      intro g1 g2
      rcases hb with hb | hb
      · simp [hb] at g1
      · exact absurd hb g2
    | false =>
      rw [hb] at hd
      simp at hd hb
      simp [a_bolterref05_own_L1, h1, h5, e2, e5, e5', e6, e7, e8, e9, hb, show q < v.keys.length by omega]
      refine ih (q + 1) _ _ (by omega) ?_
      simp [h1, hd]
  · rw [risesS_end (by omega)] at hd
    have e6 : ¬ (q : Int) + 1 < v.keys.length := by omega
    simp [a_bolterref05_own_L1, h1, h5, e6, FinR, FinP, finish, fz_osl, hd]
theorem ref_own (hX : CX X) (H : Heap) (v : Val) (hw : v.wf) : callΩ X (.func n_bolterref05_own [] []) [.agg v.cells] H = some (.int .i64 (ownS v), H) := by
  rw [Val.wf_iff] at hw
  obtain ⟨hw1, hw2, hw3, hw4, hw5, hw6⟩ := hw
  refine c_bolterref05_own hX (by simp) ?_
  have t1 := ref_text hX H v.text hw2
  have t2 : ∀ k (h : k < v.keys.length), callΩ X (.func n_bolterref05_text [] []) [.str v.keys[k]] H = some (.int .i64 (textE v.keys[k]), H) := fun k h => ref_text hX H _ (hw5 _ (by simp))
  have s0 := ref_Same0 hX H v.num hw1.2
  have c0 := ref_dec_Check hX H v.num hw1
  by_cases hk : v.kind < 0 ∨ 6 < v.kind
  · unfold ownS
    rcases hk with hk | hk
    · simp [a_bolterref05_own_B, Env.ofArgs, List.nil_append, List.append_nil, FinR, FinP, finish, fz_osl, hk]
    · simp [a_bolterref05_own_B, Env.ofArgs, List.nil_append, List.append_nil, FinR, FinP, finish, fz_osl, hk, show ¬ v.kind < 0 by omega]
  · have k0 : ¬ v.kind < 0 := by omega
    have k6 : ¬ 6 < v.kind := by omega
    simp [a_bolterref05_own_B, Env.ofArgs, List.nil_append, List.append_nil, k0, k6, t1]
    have fin : ∀ e : Env, e.get 1 = .fptr v.cells → e.get 3 = .int .i64 (textsE (textE v.text) v.keys) → YX X H.length none (.exit 0) [] ⟨e, H, []⟩ (fun _ _ => True) := fun e h1 h3 => by
      simp
    refine YS_ind (fun (q : Nat × Int) e H' => H' = H ∧ q.1 ≤ v.keys.length ∧ e.get 1 = .fptr v.cells ∧ e.get 3 = .int .i64 q.2 ∧ e.get 4 = .int .i64 q.1 ∧ textsE (textE v.text) v.keys = textsE q.2 (v.keys.drop q.1)) (fun q => v.keys.length - q.1) ?_ (0, textE v.text) (by simp)
    rintro ⟨k, E⟩ e H' ⟨rfl, hkl, h1, h3, h4, hd⟩ L ih
    simp only at *
    clear fin
    by_cases hE : E = 0
    · by_cases h : k < v.keys.length
      · rw [List.drop_eq_getElem_cons h, textsE] at hd
        subst hE
        have hld := loadD_map (f := D.str) h
        simp [a_bolterref05_own_L0, h1, h3, h4, h, hld, t2 k h, wrap_succ h hw4]
        refine ih (k + 1, textE v.keys[k]) _ _ (by simp only; omega) ?_
        simp [h1, hd, orE]
        omega
      · obtain rfl : k = v.keys.length := by omega
        subst hE
        simp [textsE] at hd
        unfold ownS
        rw [if_neg hk, hd]
        by_cases hl1 : 4096 < v.list.length
        · have hl1' : (4096 : Int) < v.list.length := by omega
          simp [a_bolterref05_own_L0, h1, h3, h4, FinR, FinP, finish, fz_osl, hl1']
          omega
        · have hl1' : ¬ (4096 : Int) < v.list.length := by omega
          by_cases hl2 : 4096 < v.keys.length
          · have hl2' : (4096 : Int) < v.keys.length := by omega
            simp [a_bolterref05_own_L0, h1, h3, h4, FinR, FinP, finish, fz_osl, hl1', hl2']
            omega
          · have hl2' : ¬ (4096 : Int) < v.keys.length := by omega
            have hmx : ¬ max v.list.length v.keys.length > 4096 := by omega
            simp only [hmx, if_false, ne_eq, not_true_eq_false]
            cases hn : numsS v with
            | false =>
              by_cases k3 : v.kind = 3
              · simp [numsS, k3] at hn
                simp [a_bolterref05_own_L0, h1, h3, h4, FinR, FinP, finish, fz_osl, hl1', hl2', k3, c0, hn]
              · simp [numsS, k3] at hn
                have hn' : (v.num.neg || !decide (v.num.coef = []) || !decide (v.num.exp = 0)) = true := by
                  cases hq : v.num.neg <;> by_cases hq2 : v.num.coef = [] <;> simp_all
                simp [a_bolterref05_own_L0, h1, h3, h4, FinR, FinP, finish, fz_osl, hl1', hl2', k3, s0, hn', z11]
            | true =>
              have hcode : (¬ v.kind = 3 → (v.num.neg = false ∧ v.num.coef = [] ∧ v.num.exp = 0)) ∧ (v.kind = 3 → decE v.num = 0) := by
                by_cases k3 : v.kind = 3
                · simp [numsS, k3] at hn; exact ⟨fun h => absurd k3 h, fun _ => hn⟩
                · simp [numsS, k3] at hn; exact ⟨fun _ => ⟨hn.1.1, hn.1.2, hn.2⟩, fun h => absurd h k3⟩
              clear hn
              have key : ∀ e : Env, e.get 1 = .fptr v.cells → e.get 102 = .bool true → False → True := fun _ _ _ _ => trivial
              clear key
              cases hA : (!decide (v.kind = 4) && !decide (v.text = [])) with
              | true =>
                have hu : usedS v = false := by simp at hA; simp [usedS, hA]
                by_cases k3 : v.kind = 3
                · have := hcode.2 k3
                  simp [k3] at hA
                  simp [a_bolterref05_own_L0, h1, h3, h4, FinR, FinP, finish, fz_osl, hl1', hl2', k3, c0, this, hA, hu]
                · obtain ⟨q1, q2, q3⟩ := hcode.1 k3
                  simp at hA
                  simp [a_bolterref05_own_L0, h1, h3, h4, FinR, FinP, finish, fz_osl, hl1', hl2', k3, s0, q1, q2, q3, z11, hA, hu]
              | false =>
                have rises2 := fun (e : Env) (g1 : e.get 1 = .fptr v.cells) (g5 : e.get 5 = .int .i64 1) => ref_rises hX H' v hw4 e g1 g5
                by_cases k3 : v.kind = 3
                · have hc3 := hcode.2 k3
                  have k3' : (v.kind = 3) = True := eq_true k3
                  clear k3
                  cases hB : (decide (v.kind < 5) && decide (0 < v.list.length)) with
                  | true =>
                    have hu : usedS v = false := by
                      simp at hB
                      have : ¬ v.list = [] := fun h => by rw [h] at hB; simp at hB
                      simp [usedS, this, show ¬ 5 ≤ v.kind by omega]
                    simp +contextual -implicitDefEqProofs [a_bolterref05_own_L0, h1, h3, h4, FinR, FinP, finish, fz_osl, hl1', hl2', k3', c0, hc3, hA, hB, hu]
                  | false =>
                    cases hC : (!decide (v.kind = 6) && decide (0 < v.keys.length)) with
                    | true =>
                      have hu : usedS v = false := by
                        simp at hC
                        have : ¬ v.keys.length = 0 := by omega
                        have : ¬ v.keys = [] := fun h => by rw [h] at this; simp at this
                        simp [usedS, this, hC.1]
                      simp +contextual -implicitDefEqProofs [a_bolterref05_own_L0, h1, h3, h4, FinR, FinP, finish, fz_osl, hl1', hl2', k3', c0, hc3, hA, hB, hC, hu]
                    | false =>
                      cases hD : (decide (v.kind = 6) && !decide (v.keys.length = v.list.length)) with
                      | true =>
                        have hu : usedS v = false := by
                          simp at hD
                          simp [usedS, hD.1, hD.2]
                        simp +contextual -implicitDefEqProofs [a_bolterref05_own_L0, h1, h3, h4, FinR, FinP, finish, fz_osl, hl1', hl2', k3', c0, hc3, hA, hB, hC, hD, hu]
                      | false =>
                        have hu : usedS v = true := by
                          simp at hA hB hC hD
                          simp [usedS]
                          refine ⟨?_, ?_, ?_⟩
                          · by_cases h : v.kind = 4
                            · exact .inl h
                            · exact .inr (hA h)
                          · by_cases h : 5 ≤ v.kind
                            · exact .inl h
                            · exact .inr (hB (by omega))
                          · split
                            · rename_i h; exact hD h
                            · rename_i h; have := hC h; rw [this]; rfl
                        simp +contextual -implicitDefEqProofs [a_bolterref05_own_L0, h1, h3, h4, FinR, FinP, finish, fz_osl, hl1', hl2', k3', c0, hc3, hA, hB, hC, hD, hu]
                        exact rises2 _ (by simp [h1]) (by simp)
                · obtain ⟨q1, q2, q3⟩ := hcode.1 k3
                  cases hB : (decide (v.kind < 5) && decide (0 < v.list.length)) with
                  | true =>
                    have hu : usedS v = false := by
                      simp at hB
                      have : ¬ v.list = [] := fun h => by rw [h] at hB; simp at hB
                      simp [usedS, this, show ¬ 5 ≤ v.kind by omega]
                    simp +contextual -implicitDefEqProofs [a_bolterref05_own_L0, h1, h3, h4, FinR, FinP, finish, fz_osl, hl1', hl2', k3, s0, q1, q2, q3, z11, hA, hB, hu]
                  | false =>
                    cases hC : (!decide (v.kind = 6) && decide (0 < v.keys.length)) with
                    | true =>
                      have hu : usedS v = false := by
                        simp at hC
                        have : ¬ v.keys.length = 0 := by omega
                        have : ¬ v.keys = [] := fun h => by rw [h] at this; simp at this
                        simp [usedS, this, hC.1]
                      simp +contextual -implicitDefEqProofs [a_bolterref05_own_L0, h1, h3, h4, FinR, FinP, finish, fz_osl, hl1', hl2', k3, s0, q1, q2, q3, z11, hA, hB, hC, hu]
                    | false =>
                      cases hD : (decide (v.kind = 6) && !decide (v.keys.length = v.list.length)) with
                      | true =>
                        have hu : usedS v = false := by
                          simp at hD
                          simp [usedS, hD.1, hD.2]
                        simp +contextual -implicitDefEqProofs [a_bolterref05_own_L0, h1, h3, h4, FinR, FinP, finish, fz_osl, hl1', hl2', k3, s0, q1, q2, q3, z11, hA, hB, hC, hD, hu]
                      | false =>
                        have hu : usedS v = true := by
                          simp at hA hB hC hD
                          simp [usedS]
                          refine ⟨?_, ?_, ?_⟩
                          · by_cases h : v.kind = 4
                            · exact .inl h
                            · exact .inr (hA h)
                          · by_cases h : 5 ≤ v.kind
                            · exact .inl h
                            · exact .inr (hB (by omega))
                          · split
                            · rename_i h; exact hD h
                            · rename_i h; have := hC h; rw [this]; rfl
                        simp +contextual -implicitDefEqProofs [a_bolterref05_own_L0, h1, h3, h4, FinR, FinP, finish, fz_osl, hl1', hl2', k3, s0, q1, q2, q3, z11, hA, hB, hC, hD, hu]
                        exact rises2 _ (by simp [h1]) (by simp)
    · rw [textsE_bad hE] at hd
      unfold ownS
      rw [if_neg hk, hd, if_pos hE]
      by_cases h : k < v.keys.length
      · simp [a_bolterref05_own_L0, h1, h3, h4, h, hE, FinR, FinP, finish, fz_osl]
      · simp [a_bolterref05_own_L0, h1, h3, h4, h, hE, FinR, FinP, finish, fz_osl]
end
end Go.AM.T
/- Values: both checks of a value and its parts. -/
namespace Go.AM.T
section
variable {X : Ctx}
theorem ref_all (hX : CX X) (H : Heap) : ∀ (v : Val), v.wf → callΩ X (.func n_bolterref05_all [] []) [.agg v.cells] H = some (.int .i64 (allS v), H) := by
  intro v
  induction v using Val.ind with
  | h v ihv =>
  intro hw
  have ho := ref_own hX H v hw
  rw [Val.wf_iff] at hw
  obtain ⟨hw1, hw2, hw3, hw4, hw5, hw6⟩ := hw
  refine c_bolterref05_all hX (by simp) ?_
  rw [allS_eq]
  simp [a_bolterref05_all_B, Env.ofArgs, List.nil_append, List.append_nil, ho]
  refine YS_ind (fun (q : Nat × Int) e H' => H' = H ∧ q.1 ≤ v.list.length ∧ e.get 1 = .fptr v.cells ∧ e.get 3 = .int .i64 q.2 ∧ e.get 4 = .int .i64 q.1 ∧ (if ownS v ≠ 0 then ownS v else allL v.list) = if q.2 ≠ 0 then q.2 else allL (v.list.drop q.1)) (fun q => v.list.length - q.1) ?_ (0, ownS v) (by simp)
  rintro ⟨k, E⟩ e H' ⟨rfl, hkl, h1, h3, h4, hd⟩ L ih
  simp only at *
  by_cases hE : E = 0
  · subst hE
    simp only [ne_eq, not_true_eq_false, if_false] at hd
    by_cases h : k < v.list.length
    · rw [List.drop_eq_getElem_cons h, allL] at hd
      have hc := ihv v.list[k] (by simp) (hw6 _ (by simp))
      simp [a_bolterref05_all_L0, h1, h3, h4, h, Val.cellsL_drop h, hc, wrap_succ h hw3]
      refine ih (k + 1, allS v.list[k]) _ _ (by simp only; omega) ?_
      simp [h1]
      simp only [ne_eq] at hd
      exact ⟨by omega, by simpa using hd⟩
    · obtain rfl : k = v.list.length := by omega
      simp [allL] at hd
      simp [a_bolterref05_all_L0, h1, h3, h4, FinR, FinP, finish, fz_osl]
      simpa using hd.symm
  · simp only [ne_eq, hE, not_false_eq_true, if_true] at hd
    by_cases h : k < v.list.length
    · simp [a_bolterref05_all_L0, h1, h3, h4, h, hE, FinR, FinP, finish, fz_osl]
      simpa using hd.symm
    · simp [a_bolterref05_all_L0, h1, h3, h4, h, hE, FinR, FinP, finish, fz_osl]
      simpa using hd.symm

theorem ref_Check (hX : CX X) (H : Heap) (v : Val) (hw : v.wf) : callΩ X (.func n_bolterref05_Check [] []) [.agg v.cells] H = some (.int .i64 (chkS v), H) := by
  refine c_bolterref05_Check hX (by simp) ?_
  have h1 := ref_Deep hX H v hw
  have h2 := ref_Size hX H v hw
  have h3 := ref_all hX H v hw
  unfold chkS
  by_cases hd : 64 < deepS 1000 v
  · have hd' : (64 : Int) < deepS 1000 v := by omega
    simp [a_bolterref05_Check_B, Env.ofArgs, List.nil_append, List.append_nil, FinR, FinP, finish, fz_osl, h1, hd, hd']
  · have hd' : ¬ (64 : Int) < deepS 1000 v := by omega
    by_cases hs : 16384 < sizeS v
    · have hs' : (16384 : Int) < sizeS v := by omega
      simp [a_bolterref05_Check_B, Env.ofArgs, List.nil_append, List.append_nil, FinR, FinP, finish, fz_osl, h1, hd, hd', h2, hs, hs']
    · have hs' : ¬ (16384 : Int) < sizeS v := by omega
      simp [a_bolterref05_Check_B, Env.ofArgs, List.nil_append, List.append_nil, FinR, FinP, finish, fz_osl, h1, hd, hd', h2, hs, hs', h3]

theorem value_own' (hX : CX X) (H : Heap) (v : Val) (hw : v.wf) : callΩ X (.func n_value_own [] []) [.agg v.cells] H = some (.int .i64 (ownS v), H) := by
  rw [Val.wf_iff] at hw
  obtain ⟨hw1, hw2, hw3, hw4, hw5, hw6⟩ := hw
  exact value_own hX H v (value_texts hX H v hw4 (fun s hs => value_letters hX H s (by rcases hs with rfl | hs; exact hw2; exact hw5 s hs))) (value_numbers hX H v (dec_Check hX H v.num hw1)) (value_used hX H v) (value_rises hX H v.keysF v.keys hw4)

def fIdx (p : Val → Bool) : List Val → Nat → Option (Nat × Val)
  | [], _ => none
  | x :: r, k => if p x then some (k, x) else fIdx p r (k + 1)
def fRes (H0 : Heap) (H1 : Val → Heap) : Option (Nat × Val) → Option (D × Heap)
  | none => some (.int .i64 (-1), H0)
  | some (k, x) => some (.int .i64 k, H1 x)
theorem fIdx_mem {p : Val → Bool} : ∀ {l : List Val} {k j : Nat} {x : Val}, fIdx p l k = some (j, x) → x ∈ l ∧ p x = true
  | [], _, _, _, h => by simp [fIdx] at h
  | y :: r, k, j, x, h => by
    simp only [fIdx] at h
    split at h
    · rename_i hp; cases h; exact ⟨by simp, hp⟩
    · have := fIdx_mem h; exact ⟨List.mem_cons_of_mem _ this.1, this.2⟩
theorem IndexFunc (hX : CX X) (f : Nl) (l : List Val) (hl : (l.length : Int) ≤ 9223372036854775807) (g : Nat) (pre caps : List D) (p : Val → Bool) (H0 : Heap) (H1 : Val → Heap) (hlen : ∀ x, (H1 x).length = H0.length)
    (hc : ∀ x ∈ l, callΩ X (.func g pre caps) [.agg x.cells] H0 = some (.bool (p x), if p x then H1 x else H0)) :
    callΩ X (.func n_slices_IndexFunc_api_Value_api_Value [] []) [SL f (Val.cellsL l) l.length, .func g pre caps] H0 = fRes H0 H1 (fIdx p l 0) := by
  cases hr : fRes H0 H1 (fIdx p l 0) with
  | none => cases hq : fIdx p l 0 <;> rw [hq] at hr <;> cases hr
  | some r =>
  refine c_slices_IndexFunc_api_Value_api_Value hX (by simp) ?_
  simp [a_slices_IndexFunc_api_Value_api_Value_B, Env.ofArgs, List.nil_append, List.append_nil]
  refine YS_ind (fun k e H' => H' = H0 ∧ k ≤ l.length ∧ e.get 0 = SL f (Val.cellsL l) l.length ∧ e.get 1 = .func g pre caps ∧ e.get 7 = .int .i64 l.length ∧ e.get 8 = .int .i64 k ∧ fIdx p l 0 = fIdx p (l.drop k) k) (fun k => l.length - k) ?_ 0 (by simp)
  rintro k e H' ⟨rfl, hk, h0, h1, h7, h8, hd⟩ L ih
  by_cases h : k < l.length
  · rw [List.drop_eq_getElem_cons h, fIdx] at hd
    have hck := hc l[k] (by simp)
    cases hp : p l[k] with
    | true =>
      rw [hp, if_pos rfl] at hd hck
      rw [hd] at hr
      cases hr
      have ht : (H1 l[k]).take H'.length = H1 l[k] := List.take_of_length_le (by rw [hlen]; exact Nat.le_refl _)
      simp [a_slices_IndexFunc_api_Value_api_Value_L0, h0, h1, h7, h8, h, Val.cellsL_drop h, hck, FinR, FinP, finish, fz_osl, ht]
    | false =>
      rw [hp, if_neg (by simp)] at hd hck
      simp [a_slices_IndexFunc_api_Value_api_Value_L0, h0, h1, h7, h8, h, Val.cellsL_drop h, hck, wrap_succ h hl]
      refine ih (k + 1) _ _ (by omega) ?_
      simp [h0, h1, h7, hd]
      omega
  · obtain rfl : k = l.length := by omega
    simp [fIdx] at hd
    rw [hd] at hr
    cases hr
    simp [a_slices_IndexFunc_api_Value_api_Value_L0, h0, h1, h7, h8, FinR, FinP, finish, fz_osl]

theorem allL_fIdx : ∀ (l : List Val) (k : Nat), match fIdx (fun x => decide (allS x ≠ 0)) l k with
    | none => allL l = 0
    | some (_, x) => allL l = allS x ∧ allS x ≠ 0
  | [], k => by simp [fIdx, allL]
  | x :: r, k => by
    have ih := allL_fIdx r (k + 1)
    simp only [fIdx, allL]
    by_cases h : allS x = 0
    · simp only [h, ne_eq, not_true_eq_false, decide_false, if_false]
      exact ih
    · simp only [h, ne_eq, not_false_eq_true, decide_true, if_true]
      simp

/-- A value and its parts, each handed on: up to the first that is not as it should be. -/
theorem walk_ok (hX : CX X) (id : Nat) (A : Heap → Heap) (C : Int → Heap → Heap) (a1 : ∀ T c, A T ++ [c] = A (T ++ [c])) (c1 : ∀ E T c, C E T ++ [c] = C E (T ++ [c])) (hlen : ∀ E T, (C E T).length = (A T).length) (hid : ∀ T, id < (A T).length)
    (hy : ∀ (v : Val) (T : Heap), v.wf → callΩ X (.yield id) [.agg v.cells] (A T) = some (.bool (decide (ownS v = 0)), if ownS v = 0 then A T else C (ownS v) T)) :
    ∀ (v : Val), v.wf → ∀ T : Heap, callΩ X (.func n_value_walk [] []) [.agg v.cells, .yield id] (A T) = some (.bool (decide (allS v = 0)), if allS v = 0 then A T else C (allS v) T) := by
  intro v
  induction v using Val.ind with
  | h v ihv =>
  intro hw T
  have hyv := hy v (T ++ [.box [.yield id]]) hw
  rw [← a1, ← c1] at hyv
  rw [Val.wf_iff] at hw
  obtain ⟨hw1, hw2, hw3, hw4, hw5, hw6⟩ := hw
  have hcall : ∀ x ∈ v.list, callΩ X (.func n_value_walk_1 [] [.ptr (A T).length 0]) [.agg x.cells] (A T ++ [.box [.yield id]]) = some (.bool (decide (allS x ≠ 0)), if decide (allS x ≠ 0) = true then C (allS x) T ++ [.box [.yield id]] else A T ++ [.box [.yield id]]) := fun x hx => by
    have ih := ihv x hx (hw6 x hx) (T ++ [.box [.yield id]])
    rw [← a1, ← c1] at ih
    refine c_value_walk_1 hX (by simp) ?_
    have ht : ((C (allS x) T ++ [Chunk.box [.yield id]]).take ((A T).length + 1)) = C (allS x) T ++ [.box [.yield id]] := List.take_of_length_le (by simp [hlen])
    have ht0 : ((A T ++ [Chunk.box [.yield id]]).take ((A T).length + 1)) = A T ++ [.box [.yield id]] := List.take_of_length_le (by simp)
    by_cases h0 : allS x = 0
    · simp [h0] at ih
      simp [a_value_walk_1_B, Env.ofArgs, List.nil_append, List.append_nil, FinR, FinP, finish, fz_osl, ih, h0, ht0]
    · simp [h0] at ih
      simp [a_value_walk_1_B, Env.ofArgs, List.nil_append, List.append_nil, FinR, FinP, finish, fz_osl, ih, h0, ht]
  have hidx := IndexFunc hX v.listF v.list hw3 n_value_walk_1 [] [.ptr (A T).length 0] (fun x => decide (allS x ≠ 0)) _ (fun x => C (allS x) T ++ [.box [.yield id]]) (fun x => by simp [hlen]) hcall
  have hal := allL_fIdx v.list 0
  have hcon : callΩ X (.func n_slices_ContainsFunc_api_Value_api_Value [] []) [SL v.listF (Val.cellsL v.list) v.list.length, .func n_value_walk_1 [] [.ptr (A T).length 0]] (A T ++ [.box [.yield id]]) =
      some (.bool (decide (allL v.list ≠ 0)), if allL v.list = 0 then A T ++ [.box [.yield id]] else C (allL v.list) T ++ [.box [.yield id]]) := by
    refine c_slices_ContainsFunc_api_Value_api_Value hX (by simp) ?_
    have ht : ∀ E, ((C E T ++ [Chunk.box [.yield id]]).take ((A T).length + 1)) = C E T ++ [.box [.yield id]] := fun E => List.take_of_length_le (by simp [hlen])
    have ht0 : ((A T ++ [Chunk.box [.yield id]]).take ((A T).length + 1)) = A T ++ [.box [.yield id]] := List.take_of_length_le (by simp)
    cases hf : fIdx (fun x => decide (allS x ≠ 0)) v.list 0 with
    | none =>
      rw [hf] at hidx hal
      simp only [fRes] at hidx hal
      simp [a_slices_ContainsFunc_api_Value_api_Value_B, Env.ofArgs, List.nil_append, List.append_nil, FinR, FinP, finish, fz_osl, hidx, hal, ht0]
    | some q =>
      obtain ⟨j, x⟩ := q
      rw [hf] at hidx hal
      simp only [fRes] at hidx hal
      simp [a_slices_ContainsFunc_api_Value_api_Value_B, Env.ofArgs, List.nil_append, List.append_nil, FinR, FinP, finish, fz_osl, hidx, hal.1, hal.2, ht]
  refine c_value_walk hX (by simp) ?_
  rw [allS_eq]
  have hid' := hid T
  have ht : ∀ E, ((C E T ++ [Chunk.box [.yield id]]).take (A T).length) = C E T := fun E => by rw [← hlen E T]; exact takeH
  have hst : storable (A T).length (A T) (A T).length [.yield id] = true := by simp [storable, Nat.blt_eq, hid']
  by_cases ho : ownS v = 0
  · simp [ho] at hyv
    by_cases ha : allL v.list = 0
    · simp [ha] at hcon
      simp [a_value_walk_B, Env.ofArgs, List.nil_append, List.append_nil, hst, hyv, hcon, D.defd, FinR, FinP, finish, fz_osl, ho, ha]
    · simp [ha] at hcon
      simp [a_value_walk_B, Env.ofArgs, List.nil_append, List.append_nil, hst, hyv, hcon, D.defd, FinR, FinP, finish, fz_osl, ho, ha, ht]
  · simp [ho] at hyv
    simp [a_value_walk_B, Env.ofArgs, List.nil_append, List.append_nil, hst, hyv, D.defd, FinR, FinP, finish, fz_osl, ho, ht]

theorem value_all (hX : CX X) (H : Heap) (v : Val) : callΩ X (.func n_value_all [] []) [.agg v.cells] H = some (.func n_value_all_1 [] [.fptr v.cells], H) := by
  refine c_value_all hX (by simp) ?_
  simp [a_value_all_B, Env.ofArgs, List.nil_append, List.append_nil, FinR, FinP, finish, fz_osl, D.defd]
theorem value_all_1 (hX : CX X) (v : Val) (id : Nat) (H H1 : Heap) (hlen : H1.length = H.length) {r : Bool} (h : callΩ X (.func n_value_walk [] []) [.agg v.cells, .yield id] H = some (.bool r, H1)) : callΩ X (.func n_value_all_1 [] [.fptr v.cells]) [.yield id] H = some (.tup [], H1) := by
  refine c_value_all_1 hX (by simp) ?_
  simp [a_value_all_1_B, Env.ofArgs, List.nil_append, List.append_nil, FinR, FinP, finish, fz_osl, h]
  exact List.take_of_length_le (by omega)

theorem value_Check (hX : CX X) (H : Heap) (v : Val) (hw : v.wf) : callΩ X (.func n_value_Check [] []) [.agg v.cells] H = some (.int .i64 (chkS v), H) := by
  refine c_value_Check hX (by simp) ?_
  have h1 := fun H' => value_Deep hX H' v hw
  have h2 := fun H' => value_Size hX H' v hw
  unfold chkS
  by_cases hd : 64 < deepS 1000 v
  · have hd' : (64 : Int) < deepS 1000 v := by omega
    simp [a_value_Check_B, Env.ofArgs, List.nil_append, List.append_nil, FinR, FinP, finish, fz_osl, h1, hd, hd']
  · have hd' : ¬ (64 : Int) < deepS 1000 v := by omega
    by_cases hs : 16384 < sizeS v
    · have hs' : (16384 : Int) < sizeS v := by omega
      simp [a_value_Check_B, Env.ofArgs, List.nil_append, List.append_nil, FinR, FinP, finish, fz_osl, h1, hd, hd', h2, hs, hs']
    · have hs' : ¬ (16384 : Int) < sizeS v := by omega
      simp [a_value_Check_B, Env.ofArgs, List.nil_append, List.append_nil, h1, hd, hd', h2, hs, hs', value_all hX]
      refine YS_gen (fun e => e.get 2 = .ptr H.length 0 ∧ e.get 14 = .func n_value_all_1 [] [.fptr v.cells]) (by simp) ?_
      rintro e ⟨g2, g14⟩
      have hw1 := fun (L : ALoop) (hL : L = ⟨e, [15], a_value_Check_A0, a_value_Check_L0, .ready, none, H.length + 1⟩) => walk_ok hX (H.length + 2) (fun T => H ++ (.box [.int .i64 0] :: .dfr false :: .loop L :: T)) (fun E T => H ++ (.box [.int .i64 E] :: .dfr false :: .loop { L with st := .done, pend := some .ret } :: T)) (fun T c => by simp) (fun E T c => by simp) (fun E T => by simp) (fun T => by simp) (fun x T hx => by
        have ho := fun H' => value_own' hX H' x hx
        refine yield_by (L := L) (by simp) (by rw [hL]) (by rw [hL]; rfl) ?_
        subst hL
        refine YS_code (p := a_value_Check_A0) (by delta a_value_Check_A0; rfl) ?_
        simp [Env.puts]
        refine YS_code (p := a_value_Check_L0) (by delta a_value_Check_L0; rfl) ?_
        by_cases hz : ownS x = 0
        · simp [g2, ho, hz, endRoundA]
        · simp [g2, ho, hz, endRoundA]) v hw []
      by_cases ha : allS v = 0
      · refine YS_rangeN (H.length + 1) (H.length + 2) (H ++ [.box [.int .i64 0]]) (by simp) rfl (by simp) g14 (d := .tup []) ?_ ?_
        · intro L hL
          have := hw1 L hL
          simp [ha] at this
          have := value_all_1 hX v _ _ _ rfl this
          simpa using this
        · simp [g2, FinR, FinP, finish, fz_osl, ha]
      · refine YS_rangeB (H.length + 1) (H.length + 2) (H ++ [.box [.int .i64 (allS v)]]) .ret (by simp) rfl (by simp) g14 (d := .tup []) ?_ ?_
        · intro L hL
          have := hw1 L hL
          simp [ha] at this
          have := value_all_1 hX v _ _ _ (by simp) this
          simpa using this
        · simp [g2, FinR, FinP, finish, fz_osl, jumpEx]
end
end Go.AM.T
