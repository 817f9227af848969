/- Numbers. -/
import Derived.Test.YtjcnlakifipmgaaGreatDoorWalkA
import Derived.Test.YtjcnlakifipmgaaGreatDoorSpec
set_option linter.unusedVariables false
set_option linter.unusedSimpArgs false
set_option linter.unnecessarySimpa false
set_option maxRecDepth 100000
/- Limbs: what the program reckons with them. -/
namespace Go.AM.T
section
variable {X : Ctx}
abbrev u32s (l : List Int) : List D := l.map (D.int .u32)
theorem u32s_ld {l : List Int} {k : Nat} (h : k < l.length) : loadD false 1 (List.drop k (u32s l)) = some (.int .u32 l[k]) := loadD_map h
theorem len_pred {n : Nat} (h : 0 < n) (hn : (n : Int) ≤ 9223372036854775807) : IntKind.i64.wrap ((n : Int) - 1) = ((n - 1 : Nat) : Int) := by rw [wrap_i64 (by omega) (by omega)]; omega

theorem nat_Check (hX : CX X) (H : Heap) (f : Nl) (l : List Int) (hl : (l.length : Int) ≤ 9223372036854775807) : callΩ X (.func n_nat_Check [] []) [SL f (u32s l) l.length] H = some (.int .i64 (natE l), H) := by
  refine c_nat_Check hX (by simp) ?_
  unfold natE
  by_cases h1 : 256 < l.length
  · have h1' : (256 : Int) < l.length := by omega
    simp [a_nat_Check_B, Env.ofArgs, List.nil_append, List.append_nil, FinR, FinP, finish, fz_osl, h1, h1']
  · have h1' : ¬ (256 : Int) < l.length := by omega
    by_cases h0 : l.length = 0
    · have : l = [] := List.length_eq_zero_iff.1 h0
      subst this
      simp [a_nat_Check_B, Env.ofArgs, List.nil_append, List.append_nil, FinR, FinP, finish, fz_osl]
    · have h2 : 0 < l.length := by omega
      have hk : l.length - 1 < l.length := by omega
      have e1 := len_pred (show 0 < l.length by omega) hl
      rw [List.getLast?_eq_getElem?, List.getElem?_eq_getElem hk]
      have hld := u32s_ld hk
      by_cases h3 : l[l.length - 1] = 0
      · rw [h3] at hld
        simp [a_nat_Check_B, Env.ofArgs, List.nil_append, List.append_nil, FinR, FinP, finish, fz_osl, h1, h1', h2, e1, hk, hld, h3]
      · simp [a_nat_Check_B, Env.ofArgs, List.nil_append, List.append_nil, FinR, FinP, finish, fz_osl, h1, h1', h2, e1, hk, hld, h3]
theorem ref_nat_Check (hX : CX X) (H : Heap) (f : Nl) (l : List Int) (hl : (l.length : Int) ≤ 9223372036854775807) : callΩ X (.func n_bolterref01_Check [] []) [SL f (u32s l) l.length] H = some (.int .i64 (natE l), H) := by
  refine c_bolterref01_Check hX (by simp) ?_
  unfold natE
  by_cases h1 : 256 < l.length
  · have h1' : (256 : Int) < l.length := by omega
    simp [a_bolterref01_Check_B, Env.ofArgs, List.nil_append, List.append_nil, FinR, FinP, finish, fz_osl, h1, h1']
  · have h1' : ¬ (256 : Int) < l.length := by omega
    by_cases h0 : l.length = 0
    · have : l = [] := List.length_eq_zero_iff.1 h0
      subst this
      simp [a_bolterref01_Check_B, Env.ofArgs, List.nil_append, List.append_nil, FinR, FinP, finish, fz_osl]
    · have h2 : 0 < l.length := by omega
      have hk : l.length - 1 < l.length := by omega
      have e1 := len_pred (show 0 < l.length by omega) hl
      rw [List.getLast?_eq_getElem?, List.getElem?_eq_getElem hk]
      have hld := u32s_ld hk
      by_cases h3 : l[l.length - 1] = 0
      · rw [h3] at hld
        simp [a_bolterref01_Check_B, Env.ofArgs, List.nil_append, List.append_nil, FinR, FinP, finish, fz_osl, h1, h1', h2, e1, hk, hld, h3]
      · simp [a_bolterref01_Check_B, Env.ofArgs, List.nil_append, List.append_nil, FinR, FinP, finish, fz_osl, h1, h1', h2, e1, hk, hld, h3]

theorem or_add {hi lo : Nat} (h1 : hi < 4294967296) (h2 : lo < 4294967296) : orI .u64 ((hi : Int) * 4294967296) lo = ((hi * 4294967296 + lo : Nat) : Int) := by
  unfold orI
  have hb : IntKind.u64.bits = 64 := rfl
  rw [hb]
  have e1 : (BitVec.ofInt 64 ((hi : Int) * 4294967296)).toNat = hi * 4294967296 := by
    rw [BitVec.toNat_ofInt, show ((hi : Int) * 4294967296) % (2 ^ 64 : Nat) = (hi : Int) * 4294967296 from Int.emod_eq_of_lt (by omega) (by omega)]; omega
  have e2 : (BitVec.ofInt 64 (lo : Int)).toNat = lo := by
    rw [BitVec.toNat_ofInt, show (lo : Int) % (2 ^ 64 : Nat) = lo from Int.emod_eq_of_lt (by omega) (by omega)]; omega
  have e3 : (BitVec.ofInt 64 ((hi : Int) * 4294967296) ||| BitVec.ofInt 64 (lo : Int)).toNat = hi * 4294967296 + lo := by
    rw [BitVec.toNat_or, e1, e2]
    have := Nat.shiftLeft_add_eq_or_of_lt (i := 32) (b := lo) (by omega) hi
    rw [Nat.shiftLeft_eq] at this
    exact this.symm
  rw [e3, wrap_u64 (by omega) (by omega)]
theorem Div32 (hX : CX X) (H : Heap) (hi lo y : Nat) (h1 : hi < y) (h2 : lo < 4294967296) (h3 : y < 4294967296) : callΩ X (.func n_math_bits_Div32 [] []) [.int .u32 hi, .int .u32 lo, .int .u32 y] H = some (.tup [.int .u32 (((hi * 4294967296 + lo) / y : Nat) : Int), .int .u32 (((hi * 4294967296 + lo) % y : Nat) : Int)], H) := by
  refine c_math_bits_Div32 hX (by simp) ?_
  have g1 : ¬ (y : Int) ≤ hi := by omega
  have g2 : ¬ (y : Int) = 0 := by omega
  have w1 := wrap_u64 (n := (hi : Int)) (by omega) (by omega)
  have w2 := wrap_u64 (n := (lo : Int)) (by omega) (by omega)
  have w3 := wrap_u64 (n := (y : Int)) (by omega) (by omega)
  have w4 := wrap_u64 (n := (hi : Int) * 4294967296) (by omega) (by omega)
  have e := or_add (hi := hi) (lo := lo) (by omega) h2
  have hq : (hi * 4294967296 + lo) / y < 4294967296 := by
    rw [Nat.div_lt_iff_lt_mul (by omega)]
    have : (hi + 1) * 4294967296 ≤ y * 4294967296 := Nat.mul_le_mul_right _ h1
    omega
  have hr : (hi * 4294967296 + lo) % y < y := Nat.mod_lt _ (by omega)
  have t1 : (((hi * 4294967296 + lo : Nat) : Int)).tdiv y = (((hi * 4294967296 + lo) / y : Nat) : Int) := by rw [Int.ofNat_tdiv]
  have t2 : (((hi * 4294967296 + lo : Nat) : Int)).tmod y = (((hi * 4294967296 + lo) % y : Nat) : Int) := by rw [Int.ofNat_tmod]
  generalize hq' : (hi * 4294967296 + lo) / y = q at *
  generalize hr' : (hi * 4294967296 + lo) % y = r at *
  generalize hz' : hi * 4294967296 + lo = z at *
  have w5 := wrap_u64 (n := (q : Int)) (by omega) (by omega)
  have w6 := wrap_u32 (n := (q : Int)) (by omega) (by omega)
  have w7 := wrap_u32 (n := (r : Int)) (by omega) (by omega)
  have w8 := wrap_u64 (n := (r : Int)) (by omega) (by omega)
  have g3 : (y == 0) = false := by simpa using g2
  have g2' : ¬ y = 0 := by omega
  have g1' : ¬ y ≤ hi := by omega
  simp [a_math_bits_Div32_B, Env.ofArgs, List.nil_append, List.append_nil, FinR, FinP, finish, fz_osl, g1, g1', g2, g2', w1, w2, w3, w4, e, t1, t2, w5, w6, w7, IntKind.bits]

theorem Backward (hX : CX X) (H : Heap) (d : D) (h1 : d.cells = [d]) (h2 : d.under 0 = true) (h3 : d.one = true) (h4 : fz H H.length 62 d = some d) (h5 : d.under H.length = true) : callΩ X (.func n_slices_Backward_nat_num_uint32 [] []) [d] H = some (.func n_slices_Backward_nat_num_uint32_1 [] [.fptr [d]], H) := by
  refine c_slices_Backward_nat_num_uint32 hX (by simp) ?_
  simp [a_slices_Backward_nat_num_uint32_B, Env.ofArgs, List.nil_append, List.append_nil, FinR, FinP, finish, fz_osl, D.defd, h1, h2, h3]
theorem Backward_1 (hX : CX X) (f : Nl) (l : List Int) (hl : (l.length : Int) ≤ 9223372036854775807) (id : Nat) (HS : Nat → Heap) (hlen : ∀ k, (HS k).length = (HS l.length).length)
    (hy : ∀ k (h : k < l.length), callΩ X (.yield id) [.int .i64 k, .int .u32 l[k]] (HS (k + 1)) = some (.bool true, HS k)) :
    callΩ X (.func n_slices_Backward_nat_num_uint32_1 [] [.fptr [SL f (u32s l) l.length]]) [.yield id] (HS l.length) = some (.tup [], HS 0) := by
  refine c_slices_Backward_nat_num_uint32_1 hX (by simp) ?_
  have e0 : IntKind.i64.wrap ((l.length : Int) - 1) = (l.length : Int) - 1 := wrap_i64 (by omega) (by omega)
  simp [a_slices_Backward_nat_num_uint32_1_B, Env.ofArgs, List.nil_append, List.append_nil, e0]
  refine YS_ind (fun k e H' => H' = HS k ∧ k ≤ l.length ∧ e.get 0 = .yield id ∧ e.get 1 = .fptr [SL f (u32s l) l.length] ∧ e.get 3 = .int .i64 ((k : Int) - 1)) (fun k => k) ?_ l.length (by simp)
  rintro k e H' ⟨rfl, hk, h0, h1, h3⟩ L ih
  by_cases h : k = 0
  · subst h
    have : ¬ (0 : Int) ≤ ((0 : Nat) : Int) - 1 := by omega
    simp [a_slices_Backward_nat_num_uint32_1_L0, h0, h1, h3, FinR, FinP, finish, fz_osl]
    exact List.take_of_length_le (by rw [hlen]; exact Nat.le_refl _)
  · obtain ⟨q, rfl⟩ : ∃ q, k = q + 1 := ⟨k - 1, by omega⟩
    have hq : q < l.length := by omega
    have e1 : ((q + 1 : Nat) : Int) - 1 = q := by omega
    have e2 : IntKind.i64.wrap ((q : Int) - 1) = (q : Int) - 1 := wrap_i64 (by omega) (by omega)
    rw [e1] at h3
    simp [a_slices_Backward_nat_num_uint32_1_L0, h0, h1, h3, hq, u32s_ld hq, hy q hq, e2]
    refine ih q _ _ (by omega) ?_
    simp [h0, h1]
    omega

theorem trim_two (hX : CX X) (H : Heap) (x : Int) (h : x ≠ 0) : callΩ X (.func n_nat_num_trim [] []) [.fsl [.int .u32 x, .int .u32 0] 2] H = some (.fsl [.int .u32 x] 1, H) := by
  refine c_nat_num_trim hX (by simp) ?_
  have w1 : IntKind.i64.wrap (2 - 1) = 1 := by decide +kernel
  have w2 : IntKind.i64.wrap 1 = 1 := by decide +kernel
  have w3 : IntKind.i64.wrap (1 - 1) = 0 := by decide +kernel
  have w4 : IntKind.i64.wrap 0 = 0 := by decide +kernel
  simp [a_nat_num_trim_B, a_nat_num_trim_L0, YS_loopU, Env.ofArgs, List.nil_append, List.append_nil, FinR, FinP, finish, fz_osl, w1, w2, w3, w4, sliceD, natArg, h]
theorem trim_one (hX : CX X) (H : Heap) (x : Int) : callΩ X (.func n_nat_num_trim [] []) [.fsl [.int .u32 x] 1] H = some (if x = 0 then .nilsl else .fsl [.int .u32 x] 1, H) := by
  refine c_nat_num_trim hX (by simp) ?_
  have w1 : IntKind.i64.wrap (1 - 1) = 0 := by decide +kernel
  have w2 : IntKind.i64.wrap 0 = 0 := by decide +kernel
  by_cases h : x = 0
  · simp [a_nat_num_trim_B, a_nat_num_trim_L0, YS_loopU, Env.ofArgs, List.nil_append, List.append_nil, FinR, FinP, finish, fz_osl, w1, w2, sliceD, natArg, h]
  · simp [a_nat_num_trim_B, a_nat_num_trim_L0, YS_loopU, Env.ofArgs, List.nil_append, List.append_nil, FinR, FinP, finish, fz_osl, w1, w2, sliceD, natArg, h]
theorem trim_own (hX : CX X) (H : Heap) (id : Nat) (l : List Int) (hid : id < H.length) (hr : H[id]? = some (.row 1 (u32s l) false)) (hl : (l.length : Int) ≤ 9223372036854775807) : callΩ X (.func n_nat_num_trim [] []) [.osl id l.length 0 l.length] H = some (if tlen l l.length = 0 then .nilsl else .osl id l.length 0 (tlen l l.length), H) := by
  refine c_nat_num_trim hX (by simp) ?_
  simp [a_nat_num_trim_B, Env.ofArgs, List.nil_append, List.append_nil]
  refine YS_ind (fun k e H' => H' = H ∧ k ≤ l.length ∧ e.get 0 = .osl id l.length 0 k ∧ tlen l l.length = tlen l k) (fun k => k) ?_ l.length (by simp)
  rintro k e H' ⟨rfl, hk, h0, hd⟩ L ih
  cases k with
  | zero =>
    simp [tlen] at hd
    simp [a_nat_num_trim_L0, h0, FinR, FinP, finish, fz_osl, hd]
  | succ k =>
    have hk' : k < l.length := by omega
    have e1 : IntKind.i64.wrap (((k : Int) + 1) - 1) = k := by rw [wrap_i64 (by omega) (by omega)]; omega
    have e2 : (0 : Int) < (k : Int) + 1 := by omega
    have e3 : (k : Int) < (k : Int) + 1 := by omega
    have e4 : (k : Int) ≤ (k : Int) + 1 := by omega
    simp only [tlen, List.getElem?_eq_getElem hk'] at hd
    simp at e1
    by_cases hz : l[k] = 0
    · simp [hz] at hd
      simp [a_nat_num_trim_L0, h0, e1, e2, e3, e4, hr, u32s_ld hk', hz, sliceD, natArg]
      refine ih k _ _ (by omega) ?_
      simp [hd]
      omega
    · simp [hz] at hd
      simp [a_nat_num_trim_L0, h0, e1, e2, e3, e4, hr, u32s_ld hk', hz]
      simp [FinR, FinP, finish, fz_osl, hd, hid]
      omega
end
end Go.AM.T
/- Limbs: divided by one, printed. -/
namespace Go.AM.T
section
variable {X : Ctx}
abbrev smL (H : Heap) (f : Nl) (a : List Int) (y : Nat) : ALoop := ⟨(((((((((((((Env.nil.put 0 (SL f (u32s a) a.length)).put 1 (.int .u32 y)).put 2 (.fptr [SL f (u32s a) a.length])).put 3 (.fptr [.int .u32 y])).put 4 .nilsl).put 5 (.int .u32 0)).put 9 (SL f (u32s a) a.length)).put 10 (.int .i64 a.length)).put 11 (.osl H.length a.length 0 a.length)).put 6 .undef).put 6 (.ptr (H.length + 1) 0)).put 7 (.ptr (H.length + 2) 0)).put 12 (SL f (u32s a) a.length)).put 13 (.func n_slices_Backward_nat_num_uint32_1 [] [.fptr [SL f (u32s a) a.length]]), [14, 15], a_nat_num_small_A0, a_nat_num_small_L0, .ready, none, H.length + 3⟩
abbrev smG (H : Heap) (L : ALoop) (n : Nat) (c : List Int) (r : Nat) : Heap :=
  H ++ [.row 1 (u32s c) false, .box [.osl H.length n 0 n], .box [.int .u32 r], .dfr false, .loop L]
def smC (a : List Int) (y k : Nat) : List Int := List.replicate k 0 ++ (divL (a.drop k) y).1
theorem smC_len {a : List Int} {y k : Nat} (h : k ≤ a.length) : (smC a y k).length = a.length := by simp [smC, divL_len]; omega
theorem copies_eq (n : Nat) : copies z17 n = u32s (List.replicate n 0) := by
  induction n with
  | zero => rfl
  | succ n ih => simp only [copies, ih, List.replicate_succ]; rfl
theorem splice_rep {n k : Nat} {q : List Int} {v : Int} : (u32s (List.replicate (k + 1) 0 ++ q)).take k ++ ([D.int .u32 v] ++ (u32s (List.replicate (k + 1) 0 ++ q)).drop (k + 1)) = u32s (List.replicate k 0 ++ v :: q) := by
  have e1 : (List.replicate (k + 1) (0 : Int)) = List.replicate k 0 ++ [0] := List.replicate_succ'
  have e2 : (u32s (List.replicate (k + 1) 0 ++ q)).take k = u32s (List.replicate k 0) := by
    rw [u32s, List.map_append, List.take_append_of_le_length (by simp), e1]; simp
  have e3 : (u32s (List.replicate (k + 1) 0 ++ q)).drop (k + 1) = u32s q := by
    rw [u32s, List.map_append, List.drop_append_of_le_length (by simp)]; simp
  rw [e2, e3]; simp
theorem small_round (hX : CX X) (H : Heap) (f : Nl) (a : List Int) (ha : U32 a) (hl : (a.length : Int) ≤ 1000000) (y : Nat) (hy : 0 < y) (hy2 : y < 4294967296) (k : Nat) (h : k < a.length) :
    callΩ X (.yield (H.length + 4)) [.int .i64 k, .int .u32 a[k]] (smG H (smL H f a y) a.length (smC a y (k + 1)) (divL (a.drop (k + 1)) y).2) = some (.bool true, smG H (smL H f a y) a.length (smC a y k) (divL (a.drop k) y).2) := by
  refine yield_by (L := smL H f a y) (by simp) rfl rfl ?_
  have hu := ha.get h
  have e := divL_drop (y := y) h
  have hlt := divL_lt (l := a.drop (k + 1)) hy
  have hlen := smC_len (a := a) (y := y) (k := k + 1) h
  have hc0 : smC a y k = List.replicate k 0 ++ ((((divL (a.drop (k + 1)) y).2 * 4294967296 + a[k].toNat) / y : Nat) : Int) :: (divL (a.drop (k + 1)) y).1 := by unfold smC; rw [e]
  have hs := fun v => splice_rep (n := 0) (k := k) (q := (divL (a.drop (k + 1)) y).1) (v := v)
  rw [hc0, show (divL (a.drop k) y).2 = ((divL (a.drop (k + 1)) y).2 * 4294967296 + a[k].toNat) % y by rw [e]]
  have hcc : smC a y (k + 1) = List.replicate (k + 1) 0 ++ (divL (a.drop (k + 1)) y).1 := rfl
  rw [← hcc] at hs
  generalize hr : (divL (a.drop (k + 1)) y).2 = r at *
  generalize hq : (divL (a.drop (k + 1)) y).1 = q at *
  generalize hC : smC a y (k + 1) = C at *
  have hd : ∀ H', callΩ X (.func n_math_bits_Div32 [] []) [.int .u32 r, .int .u32 a[k], .int .u32 y] H' = some (.tup [.int .u32 (((r * 4294967296 + a[k].toNat) / y : Nat) : Int), .int .u32 (((r * 4294967296 + a[k].toNat) % y : Nat) : Int)], H') := fun H' => by
    have := Div32 hX H' r a[k].toNat y hlt (by omega) hy2
    rwa [show ((a[k].toNat : Nat) : Int) = a[k] by omega] at this
  generalize hv : (r * 4294967296 + a[k].toNat) / y = v at *
  generalize hw : (r * 4294967296 + a[k].toNat) % y = w at *
  refine YS_code (p := a_nat_num_small_A0) (by delta a_nat_num_small_A0; rfl) ?_
  simp [Env.puts]
  refine YS_code (p := a_nat_num_small_L0) (by delta a_nat_num_small_L0; rfl) ?_
  have hk1 : k + 1 ≤ a.length := by omega
  have hs' := hs v
  simp at hs'
  simp [h, u32s_ld h, hd, loadD_t1, hlen, hk1, endRoundA, hs']

theorem small (hX : CX X) (H : Heap) (f : Nl) (a : List Int) (ha : U32 a) (hl : (a.length : Int) ≤ 1000000) (y : Nat) (hy : 0 < y) (hy2 : y < 4294967296) :
    callΩ X (.func n_nat_num_small [] []) [SL f (u32s a) a.length, .int .u32 y] H = some (.tup [SL .nil (u32s ((divL a y).1.take (tlen (divL a y).1 a.length))) (tlen (divL a y).1 a.length), .int .u32 (divL a y).2], H) := by
  refine c_nat_num_small hX (by simp) ?_
  have hb := Backward hX
  have hbk := Backward_1 hX f a (by omega) (H.length + 4) (fun k => smG H (smL H f a y) a.length (smC a y k) (divL (a.drop k) y).2) (fun k => by simp) (fun k h => small_round hX H f a ha hl y hy hy2 k h)
  have hm : a.length ≤ maxBytes := by unfold maxBytes; omega
  have hm4 : a.length * 4 ≤ maxBytes := by unfold maxBytes; omega
  have hc0 : u32s (smC a y a.length) = copies z17 a.length := by rw [copies_eq, smC, List.drop_of_length_le (Nat.le_refl _)]; simp [divL]
  have hr0 : (divL (a.drop a.length) y).2 = 0 := by rw [List.drop_of_length_le (Nat.le_refl _)]; rfl
  have hb2 : ∀ H', callΩ X (.func n_slices_Backward_nat_num_uint32 [] []) [SL f (u32s a) a.length] H' = some (.func n_slices_Backward_nat_num_uint32_1 [] [.fptr [SL f (u32s a) a.length]], H') := fun H' => hb H' _ cells_SL under_SL one_SL fz_SL under_SL
  simp [a_nat_num_small_B, Env.ofArgs, List.nil_append, List.append_nil, hm, hm4, hb2, z17, storable, Nat.blt_eq]
  simp only [smG] at hbk
  rw [hr0, hc0] at hbk
  have hC0 : smC a y 0 = (divL a y).1 := by simp [smC]
  rw [show a.drop 0 = a from rfl, hC0] at hbk
  have hql : (divL a y).1.length = a.length := divL_len a y
  generalize hq : (divL a y).1 = q at *
  generalize hr : (divL a y).2 = r at *
  refine YS_rangeF (H.length + 3) (H.length + 4) (smL H f a y) (by simp) rfl (g := n_slices_Backward_nat_num_uint32_1) (pre := []) (caps := [.fptr [SL f (u32s a) a.length]]) (by simp) (by simpa [z17] using hbk) (by simp) (by simp) ?_
  have ht := fun (c : List Chunk) => trim_own hX (H ++ (Chunk.row 1 (u32s q) false :: c)) H.length q (by simp) (by simp) (by omega)
  rw [hql] at ht
  have hle := tlen_le q a.length
  by_cases h0 : tlen q a.length = 0
  · simp [jumpEx, ht, h0, FinR, FinP, finish, fz_osl, SL]
  · simp [jumpEx, ht, h0, FinR, FinP, finish, fz_osl, hql, hle, SL_pos (show 0 < tlen q a.length by omega)]

theorem u32s_take (l : List Int) (m : Nat) : u32s (l.take m) = (u32s l).take m := List.map_take
theorem cmp_int (hX : CX X) (H : Heap) (a b : Int) : callΩ X (.func n_cmp_Compare_int [] []) [.int .i64 a, .int .i64 b] H = some (.int .i64 (if a < b then -1 else if b < a then 1 else 0), H) := by
  have hn : ∀ (a : Int) H, callΩ X (.func n_cmp_isNaN_int [] []) [.int .i64 a] H = some (.bool false, H) := fun a H => by
    refine c_cmp_isNaN_int hX (by simp) ?_
    simp [a_cmp_isNaN_int_B, Env.ofArgs, List.nil_append, List.append_nil, FinR, FinP, finish, fz_osl]
  refine c_cmp_Compare_int hX (by simp) ?_
  by_cases h1 : a < b
  · simp [a_cmp_Compare_int_B, Env.ofArgs, List.nil_append, List.append_nil, FinR, FinP, finish, fz_osl, hn, h1]
  · by_cases h2 : b < a
    · simp [a_cmp_Compare_int_B, Env.ofArgs, List.nil_append, List.append_nil, FinR, FinP, finish, fz_osl, hn, h1, h2]
    · simp [a_cmp_Compare_int_B, Env.ofArgs, List.nil_append, List.append_nil, FinR, FinP, finish, fz_osl, hn, h1, h2]
theorem cmp_u32 (hX : CX X) (H : Heap) (a b : Int) : callΩ X (.func n_cmp_Compare_uint32 [] []) [.int .u32 a, .int .u32 b] H = some (.int .i64 (if a < b then -1 else if b < a then 1 else 0), H) := by
  have hn : ∀ (a : Int) H, callΩ X (.func n_cmp_isNaN_uint32 [] []) [.int .u32 a] H = some (.bool false, H) := fun a H => by
    refine c_cmp_isNaN_uint32 hX (by simp) ?_
    simp [a_cmp_isNaN_uint32_B, Env.ofArgs, List.nil_append, List.append_nil, FinR, FinP, finish, fz_osl]
  refine c_cmp_Compare_uint32 hX (by simp) ?_
  by_cases h1 : a < b
  · simp [a_cmp_Compare_uint32_B, Env.ofArgs, List.nil_append, List.append_nil, FinR, FinP, finish, fz_osl, hn, h1]
  · by_cases h2 : b < a
    · simp [a_cmp_Compare_uint32_B, Env.ofArgs, List.nil_append, List.append_nil, FinR, FinP, finish, fz_osl, hn, h1, h2]
    · simp [a_cmp_Compare_uint32_B, Env.ofArgs, List.nil_append, List.append_nil, FinR, FinP, finish, fz_osl, hn, h1, h2]

/-- Against ten: what is greater in limbs is greater. -/
theorem compare_long (hX : CX X) (H : Heap) (f : Nl) (a : List Int) (h : 1 < a.length) (hl : (a.length : Int) ≤ 1000000) : callΩ X (.func n_nat_num_compare [] []) [SL f (u32s a) a.length, .fsl [.int .u32 10] 1] H = some (.int .i64 1, H) := by
  refine c_nat_num_compare hX (by simp) ?_
  have h1 : ¬ (a.length : Int) < 1 := by omega
  have h2 : (1 : Int) < a.length := by omega
  have h1' : ¬ a.length < 1 := by omega
  simp [a_nat_num_compare_B, Env.ofArgs, List.nil_append, List.append_nil, FinR, FinP, finish, fz_osl, cmp_int hX, h1, h2, h, h1']
theorem backward_one (hX : CX X) (f : Nl) (x : Int) (id : Nat) (H0 H1 : Heap) (hlen : H1.length = H0.length) {r : Bool}
    (hy : callΩ X (.yield id) [.int .i64 0, .int .u32 x] H0 = some (.bool r, H1)) : callΩ X (.func n_slices_Backward_nat_num_uint32_1 [] [.fptr [SL f [D.int .u32 x] 1]]) [.yield id] H0 = some (.tup [], H1) := by
  refine c_slices_Backward_nat_num_uint32_1 hX (by simp) ?_
  have w0 : IntKind.i64.wrap (1 - 1) = 0 := by decide +kernel
  have w1 : IntKind.i64.wrap 0 = 0 := by decide +kernel
  have w2 : IntKind.i64.wrap (0 - 1) = -1 := by decide +kernel
  have w3 : IntKind.i64.wrap (-1) = -1 := by decide +kernel
  have ht : H1.take H0.length = H1 := List.take_of_length_le (by omega)
  cases r <;> simp [a_slices_Backward_nat_num_uint32_1_B, a_slices_Backward_nat_num_uint32_1_L0, YS_loopU, Env.ofArgs, List.nil_append, List.append_nil, FinR, FinP, finish, fz_osl, w0, w1, w2, w3, hy, ht]
theorem compare_one (hX : CX X) (H : Heap) (f : Nl) (x : Int) : callΩ X (.func n_nat_num_compare [] []) [SL f [D.int .u32 x] 1, .fsl [.int .u32 10] 1] H = some (.int .i64 (if x < 10 then -1 else if 10 < x then 1 else 0), H) := by
  refine c_nat_num_compare hX (by simp) ?_
  have hb : ∀ H', callΩ X (.func n_slices_Backward_nat_num_uint32 [] []) [SL f [D.int .u32 x] 1] H' = some (.func n_slices_Backward_nat_num_uint32_1 [] [.fptr [SL f [D.int .u32 x] 1]], H') := fun H' => Backward hX H' _ cells_SL under_SL one_SL fz_SL under_SL
  simp [a_nat_num_compare_B, Env.ofArgs, List.nil_append, List.append_nil, cmp_int hX, hb]
  refine YS_gen (fun e => e.get 2 = .fptr [SL f [D.int .u32 x] 1] ∧ e.get 3 = .fptr [.fsl [.int .u32 10] 1] ∧ e.get 4 = .ptr H.length 0 ∧ e.get 17 = .func n_slices_Backward_nat_num_uint32_1 [] [.fptr [SL f [D.int .u32 x] 1]]) (by simp) ?_
  rintro e ⟨g2, g3, g4, g17⟩
  by_cases h0 : (if x < 10 then (-1 : Int) else if 10 < x then 1 else 0) = 0
  · refine YS_rangeN (H.length + 1) (H.length + 2) (H ++ [.box [.int .i64 0]]) (by simp) rfl (by simp) g17 (d := .tup []) ?_ ?_
    · rintro L hL
      refine backward_one hX f x _ _ _ rfl (r := true) ?_
      refine yield_by (L := L) (by simp) (by rw [hL]) (by rw [hL]; rfl) ?_
      subst hL
      refine YS_code (p := a_nat_num_compare_A0) (by delta a_nat_num_compare_A0; rfl) ?_
      simp [Env.puts]
      refine YS_code (p := a_nat_num_compare_L0) (by delta a_nat_num_compare_L0; rfl) ?_
      simp [g2, g3, g4, cmp_u32 hX, h0, endRoundA]
    · rw [h0]
      simp [g4, FinR, FinP, finish, fz_osl]
  · refine YS_rangeB (H.length + 1) (H.length + 2) (H ++ [.box [.int .i64 (if x < 10 then (-1 : Int) else if 10 < x then 1 else 0)]]) .ret (by simp) rfl (by simp) g17 (d := .tup []) ?_ ?_
    · rintro L hL
      refine backward_one hX f x _ _ _ (by simp) (r := false) ?_
      refine yield_by (L := L) (by simp) (by rw [hL]) (by rw [hL]; rfl) ?_
      subst hL
      refine YS_code (p := a_nat_num_compare_A0) (by delta a_nat_num_compare_A0; rfl) ?_
      simp [Env.puts]
      refine YS_code (p := a_nat_num_compare_L0) (by delta a_nat_num_compare_L0; rfl) ?_
      simp [g2, g3, g4, cmp_u32 hX, h0, endRoundA]
    · simp [jumpEx, g4, FinR, FinP, finish, fz_osl]

theorem Clone_u32 (hX : CX X) (H : Heap) (f : Nl) (a : List Int) (h : 0 < a.length) (hl : (a.length : Int) ≤ 1000000) : ∃ d H', callΩ X (.func n_slices_Clone_nat_num_uint32 [] []) [SL f (u32s a) a.length] H = some (d, H') ∧ (d = .osl H.length a.length 0 a.length ∧ H' = H ++ [.row 1 (u32s a) false]) := by
  refine p_slices_Clone_nat_num_uint32 hX (by simp) ?_
  have hm4 : a.length * 4 ≤ maxBytes := by unfold maxBytes; omega
  have hm : a.length ≤ maxBytes := by unfold maxBytes; omega
  have hne : ¬ a = [] := by intro h'; subst h'; simp at h
  simp [a_slices_Clone_nat_num_uint32_B, Env.ofArgs, List.nil_append, List.append_nil, SL_pos h, eqSl, slNil, elems, appendD, hm4, hm, storable, FinR, FinP, finish, fz_osl, hne]
end
end Go.AM.T
/- Limbs: divided by ten, their digits. -/
namespace Go.AM.T
section
variable {X : Ctx}
theorem w_i64_i {n : Int} (h : -1000000 ≤ n) (h' : n ≤ 1000000) : IntKind.i64.wrap n = n := wrap_i64 (by omega) (by omega)
/-- Divided by ten. -/
theorem div_ten (hX : CX X) (H : Heap) (f : Nl) (a : List Int) (ha : U32 a) (hne : a ≠ []) (hlast : a.getLast? ≠ some 0) (hl : (a.length : Int) ≤ 1000000) :
    ∃ d H', callΩ X (.func n_nat_num_div [] []) [SL f (u32s a) a.length, .fsl [.int .u32 10] 1] H = some (d, H') ∧ ((∃ q m r, d = .tup [SL .nil q m, SL .nil (u32s r) r.length] ∧ (r = [] ↔ limbs a % 10 = 0)) ∧ H' = H) := by
  have hsm : callΩ X (.func n_nat_num_small [] []) [SL f (u32s a) a.length, .int .u32 10] H = some (.tup [SL .nil (u32s ((divL a 10).1.take (tlen (divL a 10).1 a.length))) (tlen (divL a 10).1 a.length), .int .u32 (divL a 10).2], H) := small hX H f a ha hl 10 (by omega) (by omega)
  have hmod := divL_mod (y := 10) (by omega) ha
  have hpos : 0 < a.length := List.length_pos_iff.2 hne
  have w1 : IntKind.i64.wrap (1 - 1) = 0 := by decide +kernel
  have big : ∀ c : Int, 0 ≤ c → callΩ X (.func n_nat_num_compare [] []) [SL f (u32s a) a.length, .fsl [.int .u32 10] 1] H = some (.int .i64 c, H) →
      ∃ d H', callΩ X (.func n_nat_num_div [] []) [SL f (u32s a) a.length, .fsl [.int .u32 10] 1] H = some (d, H') ∧ ((∃ q m r, d = .tup [SL .nil q m, SL .nil (u32s r) r.length] ∧ (r = [] ↔ limbs a % 10 = 0)) ∧ H' = H) := by
    intro c hc hcmp
    refine p_nat_num_div hX (by simp) ?_
    have hc' : ¬ c < 0 := by omega
    have ht := trim_one hX H (divL a 10).2
    by_cases h0 : (divL a 10).2 = 0
    · simp [h0] at ht hsm
      simp [a_nat_num_div_B, Env.ofArgs, List.nil_append, List.append_nil, hcmp, hc', hsm, z17, ht, FinR, FinP, finish, fz_osl]
      exact ⟨_, _, [], ⟨rfl, rfl⟩, by simp; omega⟩
    · have h0' : ¬ ((divL a 10).2 : Int) = 0 := by omega
      simp only [h0', if_false] at ht
      simp [a_nat_num_div_B, Env.ofArgs, List.nil_append, List.append_nil, hcmp, hc', hsm, z17, ht, FinR, FinP, finish, fz_osl]
      exact ⟨_, _, [((divL a 10).2 : Int)], ⟨rfl, rfl⟩, by simp; omega⟩
  by_cases h1 : 1 < a.length
  · exact big 1 (by omega) (compare_long hX H f a h1 hl)
  · obtain ⟨x, rfl⟩ : ∃ x, a = [x] := List.length_eq_one_iff.1 (by omega)
    have hx := ha.head
    have hx0 : x ≠ 0 := by simpa using hlast
    have hc := compare_one hX H f x
    by_cases h10 : x < 10
    · simp only [h10, if_true] at hc
      refine p_nat_num_div hX (by simp) ?_
      obtain ⟨d, H', g1, rfl, rfl⟩ := Clone_u32 hX H f [x] (by simp) (by simp)
      simp at g1
      simp [a_nat_num_div_B, Env.ofArgs, List.nil_append, List.append_nil, hc, g1, FinR, FinP, finish, fz_osl, show ¬ H.length < H.length by omega]
      refine ⟨[], 0, [x], ⟨rfl, rfl⟩, ?_⟩
      simp [limbs]; omega
    · exact big _ (by split <;> first | omega | (split <;> omega)) hc

theorem From_ten (hX : CX X) (H : Heap) : callΩ X (.func n_nat_From [] []) [.int .u64 10] H = some (.fsl [.int .u32 10] 1, H) := by
  refine c_nat_From hX (by simp) ?_
  have w1 : IntKind.u32.wrap 10 = 10 := by decide +kernel
  have w2 : IntKind.u32.wrap 0 = 0 := by decide +kernel
  have ht := trim_two hX H 10 (by omega)
  simp [a_nat_From_B, Env.ofArgs, List.nil_append, List.append_nil, FinR, FinP, finish, fz_osl, w1, w2, z16, ht, IntKind.bits]
theorem dec_ten (hX : CX X) (H : Heap) (f : Nl) (a : List Int) (ha : U32 a) (hne : a ≠ []) (hc : natE a = 0) :
    ∃ d H', callΩ X (.func n_dec_ten [] []) [SL f (u32s a) a.length] H = some (d, H') ∧ ((∃ q m, d = .tup [SL .nil q m, .bool (decide (limbs a % 10 = 0))]) ∧ H' = H) := by
  have hl : a.length ≤ 256 := by unfold natE at hc; split at hc <;> omega
  have hlast : a.getLast? ≠ some 0 := by
    unfold natE at hc
    rw [if_neg (by omega)] at hc
    split at hc
    · cases hc
    · assumption
  have hpos : 0 < a.length := List.length_pos_iff.2 hne
  obtain ⟨d, H', g1, ⟨q, m, r, rfl, g2⟩, rfl⟩ := div_ten hX H f a ha hne hlast (by omega)
  have c1 := nat_Check hX H' f a (by omega)
  rw [hc] at c1
  have c2 := nat_Check hX H' .full [10] (by simp)
  simp [natE, SL_full] at c2
  have c3 := cmp_Or2 hX H' 0 0
  simp [orE] at c3
  have hdiv : callΩ X (.func n_nat_Div [] []) [SL f (u32s a) a.length, .fsl [.int .u32 10] 1] H' = some (.tup [SL .nil q m, SL .nil (u32s r) r.length, .int .i64 0], H') := by
    refine c_nat_Div hX (by simp) ?_
    have h2 : callΩ X (.func n_nat_two [] []) [SL f (u32s a) a.length, .fsl [.int .u32 10] 1] H' = some (.int .i64 0, H') := by
      refine c_nat_two hX (by simp) ?_
      simp [a_nat_two_B, Env.ofArgs, List.nil_append, List.append_nil, FinR, FinP, finish, fz_osl, c1, c2, c3]
    simp [a_nat_Div_B, Env.ofArgs, List.nil_append, List.append_nil, FinR, FinP, finish, fz_osl, h2, g1]
  refine p_dec_ten hX (by simp) ?_
  simp [a_dec_ten_B, Env.ofArgs, List.nil_append, List.append_nil, FinR, FinP, finish, fz_osl, From_ten hX, hdiv]
  exact ⟨⟨q, m, rfl⟩, g2⟩
end
end Go.AM.T
/- Limbs: printed. -/
namespace Go.AM.T
section
variable {X : Ctx}
abbrev u8s (l : List Int) : List D := l.map (D.int .u8)
theorem bytesStr_u8s : ∀ l : List Int, ∃ s, bytesStr (u8s l) = some s ∧ s.length = l.length
  | [] => ⟨[], rfl, rfl⟩
  | x :: l => by
    obtain ⟨s, h1, h2⟩ := bytesStr_u8s l
    exact ⟨UInt8.ofNat x.toNat :: s, by simp only [u8s, List.map_cons, bytesStr]; rw [show bytesStr (List.map (D.int .u8) l) = some s from h1]; rfl, by simp [h2]⟩
theorem Reverse (hX : CX X) (H : Heap) (id : Nat) (l : List Int) (hid : id < H.length) (hr : H[id]? = some (.row 1 (u8s l) false)) (hl : (l.length : Int) ≤ 1000000) :
    ∃ d H', callΩ X (.func n_slices_Reverse_byte_byte [] []) [.osl id l.length 0 l.length] H = some (d, H') ∧ (d = .tup [] ∧ ∃ l', l'.length = l.length ∧ H' = H.set id (.row 1 (u8s l') false)) := by
  refine p_slices_Reverse_byte_byte hX (by simp) ?_
  have w0 : IntKind.i64.wrap ((l.length : Int) - 1) = (l.length : Int) - 1 := wrap_i64 (by omega) (by omega)
  simp [a_slices_Reverse_byte_byte_B, Env.ofArgs, List.nil_append, List.append_nil, w0]
  refine YS_ind (fun (q : Nat × List Int) e H' => H' = H.set id (.row 1 (u8s q.2) false) ∧ q.2.length = l.length ∧ q.1 ≤ l.length ∧ e.get 0 = .osl id l.length 0 l.length ∧ e.get 2 = .int .i64 q.1 ∧ e.get 3 = .int .i64 ((l.length : Int) - 1 - q.1)) (fun q => l.length - q.1) ?_ (0, l) (by
    simp; exact (set_same hr).symm)
  rintro ⟨k, q⟩ e H' ⟨rfl, hq, hk, h0, h2, h3⟩ L ih
  simp only at *
  by_cases h : (k : Int) < (l.length : Int) - 1 - k
  · have hk1 : k < q.length := by omega
    have hk1' : k < l.length := by omega
    obtain ⟨j, hj⟩ : ∃ j : Nat, (l.length : Int) - 1 - k = j := ⟨l.length - 1 - k, by omega⟩
    rw [hj] at h h3
    have hj1 : j < q.length := by omega
    have hj2 : j < l.length := by omega
    have hkj : k < j := by omega
    have e1 : IntKind.i64.wrap ((k : Int) + 1) = ((k + 1 : Nat) : Int) := by rw [wrap_i64 (by omega) (by omega)]; omega
    have e2 : IntKind.i64.wrap ((j : Int) - 1) = (j : Int) - 1 := wrap_i64 (by omega) (by omega)
    have d1 : loadD false 1 (List.drop k (u8s q)) = some (.int .u8 q[k]) := loadD_map hk1
    have d2 : loadD false 1 (List.drop j (u8s q)) = some (.int .u8 q[j]) := loadD_map hj1
    have s1 : List.take k (u8s q) ++ D.int .u8 q[j] :: List.drop (k + 1) (u8s q) = u8s (q.set k q[j]) := by
      have := splice_set (cs := u8s q) (i := k) (x := .int .u8 q[j]) (by simpa using hk1)
      simpa using this
    have s2 : List.take j (u8s (q.set k q[j])) ++ D.int .u8 q[k] :: List.drop (j + 1) (u8s (q.set k q[j])) = u8s ((q.set k q[j]).set j q[k]) := by
      have := splice_set (cs := u8s (q.set k q[j])) (i := j) (x := .int .u8 q[k]) (by simpa using hj1)
      simpa using this
    simp only [u8s] at d1 d2 s1 s2
    have b1 : k + 1 ≤ l.length := by omega
    have b2 : j + 1 ≤ l.length := by omega
    simp [a_slices_Reverse_byte_byte_L0, h0, h2, h3, hkj, hk1', hj2, get_set hid, hq, d1, d2, hid, s1, -List.map_set]
    rw [if_pos b1, if_pos b2, s2, e1, e2]
    refine ih (k + 1, (q.set k q[j]).set j q[k]) _ _ (by simp only; omega) ?_
    simp [h0, hq]
    omega
  · simp [a_slices_Reverse_byte_byte_L0, h0, h2, h3, h, FinR, FinP, finish, fz_osl]
    exact ⟨q, hq, List.take_of_length_le (by simp)⟩

theorem digs_le_limbs {l : List Int} (hu : U32 l) : digs (limbs l) ≤ 10 * l.length := digs_lt (Nat.lt_of_lt_of_le (limbs_lt hu) (pow_bound _))
theorem Print (hX : CX X) (H : Heap) (f : Nl) (a : List Int) (ha : U32 a) (hc : natE a = 0) :
    ∃ d H', callΩ X (.func n_nat_Print [] []) [SL f (u32s a) a.length] H = some (d, H') ∧ ((∃ s : List UInt8, d = .tup [.str s, .int .i64 0] ∧ (a ≠ [] → s.length = digs (limbs a))) ∧ H' = H) := by
  have hl : a.length ≤ 256 := by unfold natE at hc; split at hc <;> omega
  have hlast : a.getLast? ≠ some 0 := by
    unfold natE at hc
    rw [if_neg (by omega)] at hc
    split at hc
    · cases hc
    · assumption
  have hN : digs (limbs a) ≤ 2560 := by have := digs_le_limbs ha; omega
  have c1 := nat_Check hX H f a (by omega)
  rw [hc] at c1
  refine p_nat_Print hX (by simp) ?_
  simp [a_nat_Print_B, Env.ofArgs, List.nil_append, List.append_nil, c1]
  refine YS_ind (fun (q : Nl × List Int × List Int × Bool) e H' => H' = H ++ [.row 1 (u8s q.2.2.1) q.2.2.2] ∧ (q.2.2.2 = true → q.2.2.1 = []) ∧ U32 q.2.1 ∧ q.2.1.length ≤ 256 ∧ (q.2.1 ≠ [] → 0 < limbs q.2.1) ∧ q.2.2.1.length + digs (limbs q.2.1) = digs (limbs a) ∧
    e.get 5 = .osl H.length q.2.2.1.length 0 q.2.2.1.length ∧ e.get 6 = SL q.1 (u32s q.2.1) q.2.1.length) (fun q => limbs q.2.1) ?_ (f, a, [], true) (by
      simp; exact ⟨ha, hl, fun h => limbs_pos ha h hlast⟩)
  rintro ⟨g, l, cs, nl⟩ e H' ⟨rfl, hnl, hu, hll, hlp, hd, h5, h6⟩ L ih
  simp only at *
  by_cases hne : l = []
  · subst hne
    simp [limbs, digs_zero] at hd
    by_cases hz : cs = []
    · subst hz
      simp [a_nat_Print_L1, h5, h6, FinR, FinP, finish, fz_osl]
      simp at hd
      intro h'
      have := limbs_pos ha h' hlast
      rw [digs_pos (by omega)] at hd
      omega
    · have hnl' : nl = false := by cases nl with
        | false => rfl
        | true => exact absurd (hnl rfl) hz
      subst hnl'
      have hcl : 0 < cs.length := List.length_pos_iff.2 hz
      obtain ⟨d, H2, g1, rfl, l', g2, rfl⟩ := Reverse hX (H ++ [.row 1 (u8s cs) false]) H.length cs (by simp) (by simp) (by omega)
      obtain ⟨s, g3, g4⟩ := bytesStr_u8s l'
      simp at g1 g3
      have ht : List.take cs.length (List.map (D.int .u8) l') = List.map (D.int .u8) l' := List.take_of_length_le (by simp [g2])
      simp [a_nat_Print_L1, h5, h6, hz, g1, elems, g2, g3, ht, FinR, FinP, finish, fz_osl]
      intro _; omega
  · have hpos := hlp hne
    have hl0 : 0 < l.length := List.length_pos_iff.2 hne
    have hsm := fun H' => small hX H' g l hu (by omega) 1000000000 (by omega) (by omega)
    have hq := divL_div (y := 1000000000) (by omega) hu
    have hr := divL_mod (y := 1000000000) (by omega) hu
    have hql := divL_len l 1000000000
    have hqu := divL_u32 (y := 1000000000) (by omega) hu
    have hm := tlen_le (divL l 1000000000).1 l.length
    have htv := tlen_val (l := (divL l 1000000000).1) (n := l.length) (by omega)
    have htp := tlen_pos hqu (n := l.length) (by omega)
    rw [List.take_of_length_le (l := (divL l 1000000000).1) (i := l.length) (by omega), hq] at htv htp
    simp at hsm
    simp [a_nat_Print_L1, h5, h6, hl0, hsm]
    generalize (divL l 1000000000).2 = r at *
    generalize (divL l 1000000000).1 = q at *
    generalize tlen q l.length = m at *
    have hr9 : r < 1000000000 := by omega
    have hdr : digs r ≤ 9 := digs_lt (by omega)
    refine YS_ind (fun (t : Nat × Nat × List Int × Bool) e H' => H' = H ++ [.row 1 (u8s t.2.2.1) t.2.2.2] ∧ (t.2.2.2 = true → t.2.2.1 = []) ∧ t.1 ≤ 9 ∧ t.2.1 < 1000000000 ∧ (0 < m → t.2.2.1.length = cs.length + t.1) ∧ (m = 0 → digs t.2.1 + t.2.2.1.length = cs.length + digs r ∧ t.1 + digs t.2.1 ≤ 9) ∧
      e.get 5 = .osl H.length t.2.2.1.length 0 t.2.2.1.length ∧ e.get 7 = SL .nil (List.take m (u32s q)) m ∧ e.get 8 = .int .u32 t.2.1 ∧ e.get 9 = .int .i64 t.1 ∧ t.2.2.1.length ≤ cs.length + 9) (fun t => 9 - t.1) ?_ (0, r, cs, nl) (by simp [h5]; exact ⟨hnl, hr9, fun _ => ⟨by omega, hdr⟩⟩)
    rintro ⟨i, r', cs', nl'⟩ e' H'' ⟨rfl, hnl', hi, hr', hp1, hp2, k5, k7, k8, k9, hcl⟩ L' ih'
    simp only at *
    have hml : (q.take m).length = m := by rw [List.length_take]; omega
    have fin : cs'.length + digs (limbs (q.take m)) = digs (limbs a) → ∀ e'' : Env, e''.get 5 = .osl H.length cs'.length 0 cs'.length → e''.get 6 = SL .nil (List.take m (List.map (D.int .u32) q)) m → _ := fun hf e'' j5 j6 =>
      ih (.nil, q.take m, cs', nl') e'' (H ++ [.row 1 (u8s cs') nl']) (by simp only; rw [htv]; omega) ⟨rfl, hnl', hqu.take m, by simp only; omega, fun h' => by
        simp only at h' ⊢
        have : m ≠ 0 := fun h0 => h' (List.length_eq_zero_iff.1 (by rw [hml]; exact h0))
        have := mt htp.2 this
        rw [htv]; omega, hf, j5, by simp only; rw [hml, u32s_take]; exact j6⟩
    have hlN : digs (limbs l) = if m = 0 then digs r else digs (limbs l / 1000000000) + 9 := by
      split
      · rename_i h0
        have := htp.1 h0
        rw [hr]; congr 1; omega
      · rename_i h0
        have h0' := mt htp.2 h0
        rw [← digs_nine (q := limbs l / 1000000000) (r := r) (by omega) hr9]
        congr 1; omega
    have done : (i = 9 ∨ (m = 0 ∧ r' = 0)) → cs'.length + digs (limbs (q.take m)) = digs (limbs a) := fun h' => by
      rw [htv, ← hd, hlN]
      by_cases h0 : m = 0
      · rw [if_pos h0]
        have g1 := hp2 h0
        have g2 := htp.1 h0
        rw [g2, digs_zero]
        rcases h' with h' | ⟨_, h'⟩
        · omega
        · subst h'; rw [digs_zero] at g1; omega
      · rw [if_neg h0]
        have g1 := hp1 (by omega)
        rcases h' with h' | ⟨h', _⟩
        · omega
        · omega
    by_cases ci : i < 9
    · have ci' : (i : Int) < 9 := by omega
      have w9 : IntKind.i64.wrap ((i : Int) + 1) = ((i + 1 : Nat) : Int) := by rw [wrap_i64 (by omega) (by omega)]; omega
      have hdiv : IntKind.u32.wrap (Int.tdiv (r' : Int) 10) = ((r' / 10 : Nat) : Int) := by rw [show Int.tdiv (r' : Int) 10 = ((r' / 10 : Nat) : Int) from by rw [Int.tdiv_eq_ediv_of_nonneg (by omega)]; omega, wrap_u32 (by omega) (by omega)]
      have ap : ∀ v : Int, appendD H.length (H ++ [Chunk.row 1 (u8s cs') nl']) 1 1 (.osl H.length cs'.length 0 cs'.length) [D.int .u8 v] 1 = some (.osl H.length (cs'.length + 1 * 1) 0 (cs'.length + 1), (H ++ [Chunk.row 1 (u8s cs') nl']).set H.length (Chunk.row 1 (u8s cs' ++ [D.int .u8 v]) false)) := fun v =>
        appendD_full (cs := u8s cs') (nil := nl') (by simp) (by simp) (by omega) (fun h => by rw [hnl' h]; rfl) (by unfold maxBytes; omega) (by unfold maxBytes; omega) storable_i (by omega)
      simp at ap
      have next : (0 < m ∨ 0 < r') → ∀ (v : Int) (e'' : Env), e''.get 5 = .osl H.length (cs'.length + 1) 0 (cs'.length + 1) → e''.get 7 = SL .nil (List.take m (List.map (D.int .u32) q)) m → e''.get 8 = .int .u32 ((r' / 10 : Nat) : Int) → e''.get 9 = .int .i64 ((i + 1 : Nat) : Int) → _ := fun hc v e'' j5 j7 j8 j9 =>
        ih' (i + 1, r' / 10, cs' ++ [v], false) e'' (H ++ [Chunk.row 1 (List.map (D.int .u8) cs' ++ [D.int .u8 v]) false]) (by simp only; omega) ⟨by simp, by simp, by simp only; omega, by simp only; omega, fun h' => by have := hp1 h'; simp; omega, fun h' => by
          have := hp2 h'
          have hr0 : r' ≠ 0 := by omega
          rw [digs_pos hr0] at this
          simp; omega, by simpa using j5, j7, j8, j9, by
          simp only [List.length_append, List.length_cons, List.length_nil]
          by_cases h0 : m = 0
          · have := hp2 h0
            have hr0 : r' ≠ 0 := by omega
            rw [digs_pos hr0] at this
            omega
          · have := hp1 (by omega); omega⟩
      by_cases cm : 0 < m
      · simp [a_nat_Print_L0, k5, k7, k8, k9, ci', cm, z12, elems, ap, w9, hdiv]
        exact next (.inl cm) _ _ (by simp) (by simp [k7]) (by simp; rw [wrap_u32 (by omega) (by omega)]) (by simp)
      · obtain rfl : m = 0 := by omega
        by_cases cr : 0 < r'
        · have cr' : (0 : Int) < r' := by omega
          simp [a_nat_Print_L0, k5, k7, k8, k9, ci', cr', cr, z12, elems, ap, w9, hdiv]
          exact next (.inr cr) _ _ (by simp) (by simp [k7]) (by simp; rw [wrap_u32 (by omega) (by omega)]) (by simp)
        · have cr' : ¬ (0 : Int) < r' := by omega
          simp [a_nat_Print_L0, k5, k7, k8, k9, ci', cr', cr]
          exact fin (done (.inr ⟨rfl, by omega⟩)) _ (by simp [k5]) (by simp)
    · have ci' : ¬ (i : Int) < 9 := by omega
      simp [a_nat_Print_L0, k5, k7, k8, k9, ci']
      exact fin (done (.inl (by omega))) _ (by simp [k5]) (by simp)

theorem dec_digits (hX : CX X) (H : Heap) (f : Nl) (a : List Int) (ha : U32 a) (hne : a ≠ []) (hc : natE a = 0) : callΩ X (.func n_dec_digits [] []) [SL f (u32s a) a.length] H = some (.int .i64 (digs (limbs a)), H) := by
  obtain ⟨d, H', g1, ⟨s, rfl, g2⟩, rfl⟩ := Print hX H f a ha hc
  have hpos : ¬ a.length = 0 := fun h => hne (List.length_eq_zero_iff.1 h)
  refine c_dec_digits hX (by simp) ?_
  simp [a_dec_digits_B, Env.ofArgs, List.nil_append, List.append_nil, FinR, FinP, finish, fz_osl, g1, hne, g2 hne]

theorem dec_Check (hX : CX X) (H : Heap) (d : Dec) (hw : d.wf) : callΩ X (.func n_dec_Check [] []) [.agg d.cells] H = some (.int .i64 (decE d), H) := by
  refine c_dec_Check hX (by simp) ?_
  obtain ⟨hu, hl⟩ := hw
  have c1 := nat_Check hX H d.coefF d.coef hl
  unfold decE
  by_cases h0 : natE d.coef = 0
  · by_cases h40 : 40 < d.coef.length
    · have h40' : (40 : Int) < d.coef.length := by omega
      simp [a_dec_Check_B, Env.ofArgs, List.nil_append, List.append_nil, FinR, FinP, finish, fz_osl, c1, h0, h40, h40']
    · have h40' : ¬ (40 : Int) < d.coef.length := by omega
      by_cases he : d.coef = []
      · have c2 : callΩ X (.func n_nat_Check [] []) [SL d.coefF [] 0] H = some (.int .i64 0, H) := by rw [he] at c1 h0; rw [h0] at c1; exact c1
        by_cases hn : d.neg = true
        · simp [a_dec_Check_B, Env.ofArgs, List.nil_append, List.append_nil, FinR, FinP, finish, fz_osl, c2, h0, he, hn]
        · by_cases hx : d.exp = 0
          · simp [a_dec_Check_B, Env.ofArgs, List.nil_append, List.append_nil, FinR, FinP, finish, fz_osl, c2, h0, he, hn, hx]
            exact he ▸ h0
          · simp [a_dec_Check_B, Env.ofArgs, List.nil_append, List.append_nil, FinR, FinP, finish, fz_osl, c2, h0, he, hn, hx]
      · obtain ⟨d1, H1, g1, ⟨q, m, rfl⟩, rfl⟩ := dec_ten hX H d.coefF d.coef hu he h0
        have g2 := dec_digits hX H1 d.coefF d.coef hu he h0
        have hz : ¬ d.coef.length = 0 := fun h => he (List.length_eq_zero_iff.1 h)
        simp +contextual -implicitDefEqProofs [a_dec_Check_B, Env.ofArgs, List.nil_append, List.append_nil, FinR, FinP, finish, fz_osl, c1, h0, h40, h40', he, g1, g2]
        omega
  · simp [a_dec_Check_B, Env.ofArgs, List.nil_append, List.append_nil, FinR, FinP, finish, fz_osl, c1, h0]
end
end Go.AM.T
/- Decimals: the page's check of them. -/
namespace Go.AM.T
section
variable {X : Ctx}
abbrev i64n (l : List Nat) : List D := l.map fun n : Nat => D.int .i64 (n : Int)
theorem dig_step (M a d P S : Nat) (ha : a ≠ 0) (hd : d = a % 10) (hP : P = d * 4294967296) (hS : S = M + P) : digL (M + 4294967296 * a) = S % 10 :: digL (S / 10 + 4294967296 * (a / 10)) := by
  have h1 : (M + 4294967296 * a) % 10 = S % 10 := by omega
  have h2 : (M + 4294967296 * a) / 10 = S / 10 + 4294967296 * (a / 10) := by omega
  rw [digL_pos (by omega), h1, h2]
theorem q_lt (M d P S : Nat) (hd : d < 10) (hP : P = d * 4294967296) (hS : S = M + P) (hM : M < 4294967296) : S / 10 < 4294967296 ∧ P < 42949672960 ∧ S < 47244640256 := by omega
theorem mul_eq (d P : Nat) (hP : P = d * 4294967296) : (d : Int) * 4294967296 = P := by omega
theorem times (hX : CX X) (H : Heap) (f : Nl) (A more V : Nat) (hVd : V = more + 4294967296 * A) (hm : more < 4294967296) (hV : digs V ≤ 100000) (hA : digs A ≤ 100000) :
    callΩ X (.func n_bolterref01_times [] []) [SL f (i64n (digL A)) (digL A).length, .int .i64 4294967296, .int .i64 more] H = some (SL .nil (i64n (digL V)) (digL V).length, H) := by
  refine c_bolterref01_times hX (by simp) ?_
  rw [← digL_len] at hV hA
  have h0 : digL V = [] ++ digL (more + 4294967296 * A) := by rw [← hVd]; rfl
  clear hVd
  simp [a_bolterref01_times_B, Env.ofArgs, List.nil_append, List.append_nil]
  have ap : ∀ (cs : List Nat) (nl : Bool) (v : Int), (nl = true → cs = []) → cs.length ≤ 100000 → appendD H.length (H ++ [Chunk.row 1 [] true, Chunk.row 1 (i64n cs) nl]) 1 8 (.osl (H.length + 1) cs.length 0 cs.length) [D.int .i64 v] 1 = some (.osl (H.length + 1) (cs.length + 1) 0 (cs.length + 1), H ++ [Chunk.row 1 [] true, Chunk.row 1 (i64n cs ++ [D.int .i64 v]) false]) := fun cs nl v h1 h2 => by
    have := appendD_full (b := H.length) (H := H ++ [Chunk.row 1 [] true, Chunk.row 1 (i64n cs) nl]) (id := H.length + 1) (hw := cs.length) (es := 1) (bytes := 8) (m := 1) (ys := [D.int .i64 v]) (cs := i64n cs) (nil := nl) (n := cs.length) (by simp) (by simp) (by omega) (fun h => by rw [h1 h]; rfl) (by unfold maxBytes; omega) (by unfold maxBytes; omega) storable_i (by omega)
    simpa using this
  have hlen : ((digL A).length : Int) ≤ 9223372036854775807 := by omega
  refine YS_ind (fun (q : Nat × Nat × Nat × List Nat × Bool) e H' => H' = H ++ [.row 1 [] true, .row 1 (i64n q.2.2.2.1) q.2.2.2.2] ∧ (q.2.2.2.2 = true ↔ q.2.2.2.1 = []) ∧ (digL A).drop q.1 = digL q.2.1 ∧ q.2.2.1 < 4294967296 ∧ digL V = q.2.2.2.1 ++ digL (q.2.2.1 + 4294967296 * q.2.1) ∧ q.1 ≤ (digL A).length ∧
    e.get 0 = SL f (i64n (digL A)) (digL A).length ∧ e.get 1 = .int .i64 4294967296 ∧ e.get 2 = .int .i64 q.2.2.1 ∧ e.get 7 = .osl (H.length + 1) q.2.2.2.1.length 0 q.2.2.2.1.length ∧ e.get 8 = .int .i64 q.1) (fun q => (digL A).length - q.1) ?_ (0, A, more, [], true) (by
      simp; exact ⟨hm, h0⟩)
  clear h0
  rintro ⟨k, a, M, cs, nl⟩ e H' ⟨rfl, hnl, hdr, hM, hd, hk, h0, h1, h2, h7, h8⟩ L ih
  simp only at *
  have hcl : cs.length ≤ 100000 := by rw [hd, List.length_append] at hV; omega
  by_cases h : k < (digL A).length
  · have ha0 : a ≠ 0 := by
      rintro rfl
      rw [digL_zero] at hdr
      have := congrArg List.length hdr
      simp at this; omega
    rw [List.drop_eq_getElem_cons h, digL_pos ha0] at hdr
    obtain ⟨hg, hdr⟩ := List.cons.inj hdr
    obtain ⟨d, hdd⟩ : ∃ d, d = a % 10 := ⟨_, rfl⟩
    obtain ⟨P, hP⟩ : ∃ P, P = d * 4294967296 := ⟨_, rfl⟩
    obtain ⟨S, hS⟩ : ∃ S, S = M + P := ⟨_, rfl⟩
    obtain ⟨r, hr⟩ : ∃ r, r = S % 10 := ⟨_, rfl⟩
    obtain ⟨q, hq⟩ : ∃ q, q = S / 10 := ⟨_, rfl⟩
    have hst := dig_step M a d P S ha0 hdd hP hS
    have hme := mul_eq d P hP
    have hql := q_lt M d P S (by omega) hP hS hM
    clear hP
    rw [← hdd] at hg
    rw [hst, ← hr, ← hq] at hd
    clear hst
    have hld : loadD false 1 (List.drop k (i64n (digL A))) = some (.int .i64 (d : Int)) := by rw [← hg]; exact loadD_map (f := fun n : Nat => D.int .i64 (n : Int)) h
    have w1 : IntKind.i64.wrap ((d : Int) * 4294967296) = P := by rw [hme]; exact wrap_i64 (by omega) (by omega)
    have w2 : IntKind.i64.wrap ((M : Int) + (P : Int)) = S := by rw [show (M : Int) + P = S by omega]; exact wrap_i64 (by omega) (by omega)
    have t1 : Int.tmod (S : Int) 10 = (r : Int) := by rw [Int.tmod_eq_emod_of_nonneg (by omega)]; omega
    have t2 : Int.tdiv (S : Int) 10 = (q : Int) := by rw [Int.tdiv_eq_ediv_of_nonneg (by omega)]; omega
    have w3 : IntKind.i64.wrap (q : Int) = (q : Int) := wrap_i64 (by omega) (by omega)
    have w9 := wrap_succ h hlen
    simp [a_bolterref01_times_L0, h0, h1, h2, h7, h8, h, hld, w1, w2, t1, t2, elems, ap cs nl _ hnl.1 hcl, w3, w9]
    refine ih (k + 1, a / 10, q, cs ++ [r], false) _ _ (by simp only; omega) ?_
    simp [h0, h1, hdr, hd]
    omega
  · obtain rfl : k = (digL A).length := by omega
    have ha0 : a = 0 := by
      simp at hdr
      by_cases h : a = 0
      · exact h
      · rw [digL_pos h] at hdr; cases hdr
    subst ha0
    simp at hd
    simp [a_bolterref01_times_L0, h0, h1, h2, h7, h8]
    refine YS_ind (fun (q : Nat × List Nat × Bool) e H' => H' = H ++ [.row 1 [] true, .row 1 (i64n q.2.1) q.2.2] ∧ (q.2.2 = true ↔ q.2.1 = []) ∧ q.1 < 4294967296 ∧ digL V = q.2.1 ++ digL q.1 ∧ e.get 2 = .int .i64 q.1 ∧ e.get 7 = .osl (H.length + 1) q.2.1.length 0 q.2.1.length) (fun q => q.1) ?_ (M, cs, nl) (by simp [h2, h7]; exact ⟨hnl, hM, hd⟩)
    clear hd h2 h7 hcl hM hnl ih h0 h1 h8 h hdr hk M cs nl e
    rintro ⟨M, cs, nl⟩ e H' ⟨rfl, hnl, hM, hd, h2, h7⟩ L ih
    simp only at *
    have hcl : cs.length ≤ 100000 := by rw [hd, List.length_append] at hV; omega
    by_cases h : 0 < M
    · obtain ⟨r, hr⟩ : ∃ r, r = M % 10 := ⟨_, rfl⟩
      obtain ⟨q, hq⟩ : ∃ q, q = M / 10 := ⟨_, rfl⟩
      rw [digL_pos (n := M) (by omega), ← hr, ← hq] at hd
      have hp : (0 : Int) < M := by omega
      have t1 : Int.tmod (M : Int) 10 = (r : Int) := by rw [Int.tmod_eq_emod_of_nonneg (by omega)]; omega
      have t2 : Int.tdiv (M : Int) 10 = (q : Int) := by rw [Int.tdiv_eq_ediv_of_nonneg (by omega)]; omega
      have w3 : IntKind.i64.wrap (q : Int) = (q : Int) := wrap_i64 (by omega) (by omega)
      simp [a_bolterref01_times_L1, h2, h7, h, hp, t1, t2, elems, ap cs nl _ hnl.1 hcl, w3]
      refine ih (q, cs ++ [r], false) _ _ (by simp only; omega) ?_
      simp [hd]
      omega
    · obtain rfl : M = 0 := by omega
      rw [digL_zero, List.append_nil] at hd
      rw [hd]
      have ht : List.take cs.length (i64n cs) = i64n cs := List.take_of_length_le (by simp)
      cases nl with
      | true =>
        have := hnl.1 rfl
        subst this
        simp [a_bolterref01_times_L1, h2, h7, FinR, FinP, finish, fz_osl, SL]
      | false =>
        by_cases hc : cs = []
        · exact absurd (hnl.2 hc) (by simp)
        · have hc' : 0 < cs.length := List.length_pos_iff.2 hc
          simp [a_bolterref01_times_L1, h2, h7, FinR, FinP, finish, fz_osl, SL_pos hc', ht]

theorem ref_Digits (hX : CX X) (H : Heap) (f : Nl) (a : List Int) (ha : U32 a) (hl : a.length ≤ 1000) : callΩ X (.func n_bolterref01_Digits [] []) [SL f (u32s a) a.length] H = some (SL .nil (i64n (digL (limbs a))) (digL (limbs a)).length, H) := by
  refine c_bolterref01_Digits hX (by simp) ?_
  have w0 : IntKind.i64.wrap ((a.length : Int) - 1) = (a.length : Int) - 1 := wrap_i64 (by omega) (by omega)
  simp [a_bolterref01_Digits_B, Env.ofArgs, List.nil_append, List.append_nil, w0]
  refine YS_ind (fun k e H' => H' = H ∧ k ≤ a.length ∧ e.get 0 = SL f (u32s a) a.length ∧ e.get 3 = SL .nil (i64n (digL (limbs (a.drop k)))) (digL (limbs (a.drop k))).length ∧ e.get 4 = .int .i64 ((k : Int) - 1)) (fun k => k) ?_ a.length (by simp [limbs, digL_zero, SL])
  rintro k e H' ⟨rfl, hk, h0, h3, h4⟩ L ih
  cases k with
  | zero => simp [a_bolterref01_Digits_L0, h0, h3, h4, FinR, FinP, finish, fz_osl]
  | succ k =>
    have hk' : k < a.length := by omega
    have e1 : ((k + 1 : Nat) : Int) - 1 = k := by omega
    rw [e1] at h4
    have e2 : IntKind.i64.wrap ((k : Int) - 1) = (k : Int) - 1 := wrap_i64 (by omega) (by omega)
    have hu := ha.get hk'
    have e3 : IntKind.i64.wrap a[k] = a[k] := wrap_i64 (by omega) (by omega)
    have hv : limbs (a.drop k) = a[k].toNat + 4294967296 * limbs (a.drop (k + 1)) := by rw [List.drop_eq_getElem_cons hk', limbs]
    have hb : ∀ j, digs (limbs (a.drop j)) ≤ 100000 := fun j => by
      have h1 := digs_lt (Nat.lt_of_lt_of_le (limbs_lt (ha.drop j)) (pow_bound _))
      rw [List.length_drop] at h1
      omega
    have ht := times hX H' .nil (limbs (a.drop (k + 1))) a[k].toNat (limbs (a.drop k)) hv (by omega) (hb k) (hb (k + 1))
    rw [show ((a[k].toNat : Nat) : Int) = a[k] by omega] at ht
    simp [a_bolterref01_Digits_L0, h0, h3, h4, hk', u32s_ld hk', e2, e3, ht]
    refine ih k _ _ (by omega) ?_
    simp [h0]
    omega
end
end Go.AM.T
