/- Texts: utf8. -/
import Derived.Test.YtjcnlakifipmgaaGreatDoorWalkA
set_option linter.unusedVariables false
set_option linter.unusedSimpArgs false
set_option linter.unnecessarySimpa false
set_option maxRecDepth 100000
/- Texts: what the program's decoder and the page's say of them. -/
namespace Go.AM.T
section
variable {X : Ctx}
def fv (a : Nat) : Int := if a < 0x80 then 0xF0 else if a < 0xC2 then 0xF1 else if a < 0xE0 then 2 else if a = 0xE0 then 0x13 else if a = 0xED then 0x23 else if a < 0xF0 then 3 else if a = 0xF0 then 0x34 else if a < 0xF4 then 4 else if a = 0xF4 then 0x44 else 0xF1
def u8At (l : List D) (a : Nat) : Option Int := match l.drop a with
  | .int .u8 n :: _ => some n
  | _ => none
theorem first_all : (List.range 256).all (fun a => u8At firstD a == some (fv a)) = true := by decide +kernel
theorem first_at {a : Nat} (h : a < 256) : loadD false 1 (List.drop a firstD) = some (.int .u8 (fv a)) := by
  have := List.all_eq_true.1 first_all a (List.mem_range.2 h)
  unfold u8At at this
  split at this
  · rename_i n r hd
    rw [hd]; simp at this; rw [this]; rfl
  · simp at this
theorem a1 : andI .u8 2 7 = 2 := by decide +kernel
theorem a2 : andI .u8 0x13 7 = 3 := by decide +kernel
theorem a3 : andI .u8 0x23 7 = 3 := by decide +kernel
theorem a4 : andI .u8 3 7 = 3 := by decide +kernel
theorem a5 : andI .u8 0x34 7 = 4 := by decide +kernel
theorem a6 : andI .u8 4 7 = 4 := by decide +kernel
theorem a7 : andI .u8 0x44 7 = 4 := by decide +kernel
theorem s1 : (2 : Int).fdiv 16 = 0 := by decide +kernel
theorem s2 : (0x13 : Int).fdiv 16 = 1 := by decide +kernel
theorem s3 : (0x23 : Int).fdiv 16 = 2 := by decide +kernel
theorem s4 : (3 : Int).fdiv 16 = 0 := by decide +kernel
theorem s5 : (0x34 : Int).fdiv 16 = 3 := by decide +kernel
theorem s6 : (4 : Int).fdiv 16 = 0 := by decide +kernel
theorem s7 : (0x44 : Int).fdiv 16 = 4 := by decide +kernel
theorem w3 : IntKind.i64.wrap 3 = 3 := by decide +kernel
theorem w2 : IntKind.i64.wrap 2 = 2 := by decide +kernel
theorem w4 : IntKind.i64.wrap 4 = 4 := by decide +kernel
theorem u8_lt (a : UInt8) : a.toNat < 256 := a.toNat_lt
def badRune : Nat → Int := fun a => orI .i32 (andNotI .i32 (IntKind.i32.wrap a) (Int.fdiv (IntKind.i32.wrap (IntKind.i32.wrap 0xF1 * 2147483648)) 2147483648)) (andI .i32 65533 (Int.fdiv (IntKind.i32.wrap (IntKind.i32.wrap 0xF1 * 2147483648)) 2147483648))
theorem bad_all : (List.range 256).all (fun a => badRune a == 65533) = true := by decide +kernel
theorem bad_rune {a : Nat} (h : a < 256) : badRune a = 65533 := by
  have := List.all_eq_true.1 bad_all a (List.mem_range.2 h)
  simpa using this

/-- What a decoder says of a text that is not empty. -/
def RuneOk (s : List UInt8) (d : D) : Prop := ∃ c n : Int, d = .tup [.int .i32 c, .int .i64 n] ∧ (dec1 s = 0 → c = 65533 ∧ n = 1) ∧ (dec1 s ≠ 0 → 0 ≤ c ∧ n = dec1 s ∧ ¬(c = 65533 ∧ n = 1))
theorem cont_iff {b : UInt8} : cont b = true ↔ 128 ≤ b.toNat ∧ b.toNat ≤ 191 := by simp [cont]

theorem bad_ok {s : List UInt8} (h : dec1 s = 0) : RuneOk s (.tup [.int .i32 65533, .int .i64 1]) := ⟨_, _, rfl, by simp, fun h' => absurd h h'⟩
theorem good_ok {s : List UInt8} {c : Int} {n : Nat} (h : dec1 s = n) (hn : 2 ≤ n) (hc : 0 ≤ c) : RuneOk s (.tup [.int .i32 c, .int .i64 n]) :=
  ⟨_, _, rfl, fun h' => by omega, fun _ => ⟨hc, by rw [h], by omega⟩⟩
theorem dec1_two {a : UInt8} {r : List UInt8} (h : 0xC2 ≤ a.toNat ∧ a.toNat < 0xE0) : dec1 (a :: r) = match r with | b :: _ => if cont b then 2 else 0 | _ => 0 := by
  unfold dec1; simp only; rw [if_neg (by omega), if_neg (by omega), if_pos h.2]; cases r <;> rfl
theorem dec1_three {a : UInt8} {r : List UInt8} {lo hi : Nat} (h : 0xE0 ≤ a.toNat ∧ a.toNat < 0xF0) (hl : lo = if a.toNat = 0xE0 then 0xA0 else 0x80) (hh : hi = if a.toNat = 0xED then 0x9F else 0xBF) : dec1 (a :: r) = match r with | b :: c :: _ => if (lo ≤ b.toNat ∧ b.toNat ≤ hi) ∧ cont c then 3 else 0 | _ => 0 := by
  unfold dec1; simp only; rw [if_neg (by omega), if_neg (by omega), if_neg (by omega), if_pos h.2]
  cases r with
  | nil => rfl
  | cons b r => cases r with
    | nil => rfl
    | cons c r =>
      subst hl hh
      by_cases h1 : a.toNat = 0xE0
      · simp [h1]
      · by_cases h2 : a.toNat = 0xED
        · simp [h2]
        · simp [h1, h2, cont]
theorem dec1_four {a : UInt8} {r : List UInt8} {lo hi : Nat} (h : 0xF0 ≤ a.toNat ∧ a.toNat < 0xF5) (hl : lo = if a.toNat = 0xF0 then 0x90 else 0x80) (hh : hi = if a.toNat = 0xF4 then 0x8F else 0xBF) : dec1 (a :: r) = match r with | b :: c :: d :: _ => if (lo ≤ b.toNat ∧ b.toNat ≤ hi) ∧ cont c ∧ cont d then 4 else 0 | _ => 0 := by
  unfold dec1; simp only; rw [if_neg (by omega), if_neg (by omega), if_neg (by omega), if_neg (by omega), if_pos h.2]
  cases r with
  | nil => rfl
  | cons b r => cases r with
    | nil => rfl
    | cons c r => cases r with
      | nil => rfl
      | cons d r =>
        subst hl hh
        by_cases h1 : a.toNat = 0xF0
        · simp [h1]
        · by_cases h2 : a.toNat = 0xF4
          · simp [h2]
          · simp [h1, h2, cont]
theorem shl_i32 {n : Int} (h : 0 ≤ n) {m : Int} (h' : n ≤ m) (h2 : m < 1073741824) : 0 ≤ IntKind.i32.wrap n ∧ IntKind.i32.wrap n < 1073741824 := by
  rw [wrap_i32 h (by omega)]; omega

theorem slow_bad (hX : CX X) (H : Heap) (a : UInt8) (r : List UInt8) (ha : 128 ≤ a.toNat) (hv : fv a.toNat = 0xF1) (hd : dec1 (a :: r) = 0) : ∃ d H', callΩ X (.func n_unicode_utf8_decodeRuneInStringSlow [] []) [.str (a :: r)] H = some (d, H') ∧ (RuneOk (a :: r) d ∧ H' = H) := by
  refine p_unicode_utf8_decodeRuneInStringSlow hX (by simp) ?_
  have hlt := u8_lt a
  have hf := first_at hlt
  have hl : ¬ ((r.length : Int) + 1 < 1) := by omega
  have hb := bad_rune hlt
  unfold badRune at hb
  simp [a_unicode_utf8_decodeRuneInStringSlow_B, Env.ofArgs, List.nil_append, List.append_nil, FinR, FinP, finish, fz_osl, hX.g_first, hf, hv, hl, IntKind.bits]
  rw [hb]
  exact ⟨by omega, bad_ok hd⟩
theorem slow_c2 (hX : CX X) (H : Heap) (a : UInt8) (r : List UInt8) (ha : 0xC2 ≤ a.toNat ∧ a.toNat < 0xE0) : ∃ d H', callΩ X (.func n_unicode_utf8_decodeRuneInStringSlow [] []) [.str (a :: r)] H = some (d, H') ∧ (RuneOk (a :: r) d ∧ H' = H) := by
  refine p_unicode_utf8_decodeRuneInStringSlow hX (by simp) ?_
  have hlt := u8_lt a
  have hlt' : (a.toNat : Int) < 256 := by omega
  have hf := first_at hlt
  have hv : fv a.toNat = 2 := by unfold fv; repeat (first | rw [if_neg (by omega)] | rw [if_pos (by omega)])
  have hd := fun r => dec1_two (a := a) (by omega) (r := r)
  cases r with
  | nil =>
    have h0 := hd ([])
    simp at h0
    simp [a_unicode_utf8_decodeRuneInStringSlow_B, Env.ofArgs, List.nil_append, List.append_nil, FinR, FinP, finish, fz_osl, hX.g_first, hX.g_acc, hf, hv, hlt', IntKind.bits, a1, s1, w2, accD, loadD_t2]
    exact bad_ok h0
  | cons b r =>
    have h0 := hd (b :: r)
    simp only [cont_iff] at h0
    have l0 := u8_lt b
    have n1 : ¬ (r.length : Int) + 1 + 1 < 1 := by omega
    have n9 : ¬ (r.length : Int) + 1 + 1 < 2 := by omega
    by_cases t0 : 128 ≤ b.toNat ∧ b.toNat ≤ 191
    · have p0 : ¬ (b.toNat : Int) < 128 := by omega
      have q0 : ¬ 191 < (b.toNat : Int) := by omega
      rw [if_pos t0] at h0
      simp [a_unicode_utf8_decodeRuneInStringSlow_B, Env.ofArgs, List.nil_append, List.append_nil, FinR, FinP, finish, fz_osl, hX.g_first, hX.g_acc, hf, hv, hlt', IntKind.bits, a1, s1, w2, accD, loadD_t2, n9, n1, p0, q0]
      refine good_ok (n := 2) h0 (by omega) ?_
      have z0 := andI_u8 (x := a.toNat) (m := 31) (by omega)
      have z1 := andI_u8 (x := b.toNat) (m := 63) (by omega)
      exact (orI_i32 (by rw [wrap_i32 (n := andI .u8 a.toNat 31) (by omega) (by omega)]; exact shl_i32 (m := 1984) (by omega) (by omega) (by omega)) (by rw [wrap_i32 (by omega) (by omega)]; omega)).1
    · rw [if_neg (by omega)] at h0
      have p0 : (b.toNat : Int) < 128 ∨ 191 < (b.toNat : Int) := by omega
      rcases p0 with p0 | p0
      · simp [a_unicode_utf8_decodeRuneInStringSlow_B, Env.ofArgs, List.nil_append, List.append_nil, FinR, FinP, finish, fz_osl, hX.g_first, hX.g_acc, hf, hv, hlt', IntKind.bits, a1, s1, w2, accD, loadD_t2, n9, n1, p0]
        exact bad_ok h0
      · have p0' : ¬ (b.toNat : Int) < 128 := by omega
        simp [a_unicode_utf8_decodeRuneInStringSlow_B, Env.ofArgs, List.nil_append, List.append_nil, FinR, FinP, finish, fz_osl, hX.g_first, hX.g_acc, hf, hv, hlt', IntKind.bits, a1, s1, w2, accD, loadD_t2, n9, n1, p0, p0']
        exact bad_ok h0
theorem slow_e0 (hX : CX X) (H : Heap) (a : UInt8) (r : List UInt8) (ha : a.toNat = 0xE0) : ∃ d H', callΩ X (.func n_unicode_utf8_decodeRuneInStringSlow [] []) [.str (a :: r)] H = some (d, H') ∧ (RuneOk (a :: r) d ∧ H' = H) := by
  refine p_unicode_utf8_decodeRuneInStringSlow hX (by simp) ?_
  have hlt := u8_lt a
  have hlt' : (a.toNat : Int) < 256 := by omega
  have hf := first_at hlt
  have hv : fv a.toNat = 19 := by unfold fv; repeat (first | rw [if_neg (by omega)] | rw [if_pos (by omega)])
  have hd := fun r => dec1_three (a := a) (lo := 160) (hi := 191) (by omega) (by repeat (first | rw [if_neg (by omega)] | rw [if_pos (by omega)])) (by repeat (first | rw [if_neg (by omega)] | rw [if_pos (by omega)])) (r := r)
  cases r with
  | nil =>
    have h0 := hd ([])
    simp at h0
    simp [a_unicode_utf8_decodeRuneInStringSlow_B, Env.ofArgs, List.nil_append, List.append_nil, FinR, FinP, finish, fz_osl, hX.g_first, hX.g_acc, hf, hv, hlt', IntKind.bits, a2, s2, w3, accD, loadD_t2]
    exact bad_ok h0
  | cons b r =>
    cases r with
    | nil =>
      have h0 := hd (b :: [])
      simp at h0
      simp [a_unicode_utf8_decodeRuneInStringSlow_B, Env.ofArgs, List.nil_append, List.append_nil, FinR, FinP, finish, fz_osl, hX.g_first, hX.g_acc, hf, hv, hlt', IntKind.bits, a2, s2, w3, accD, loadD_t2]
      exact bad_ok h0
    | cons c r =>
      have h0 := hd (b :: c :: r)
      simp only [cont_iff] at h0
      have l0 := u8_lt b
      have l1 := u8_lt c
      have n1 : ¬ (r.length : Int) + 1 + 1 + 1 < 1 := by omega
      have n2 : ¬ (r.length : Int) + 1 + 1 + 1 < 2 := by omega
      have n9 : ¬ (r.length : Int) + 1 + 1 + 1 < 3 := by omega
      by_cases t0 : 160 ≤ b.toNat ∧ b.toNat ≤ 191
      · have p0 : ¬ (b.toNat : Int) < 160 := by omega
        have q0 : ¬ 191 < (b.toNat : Int) := by omega
        by_cases t1 : 128 ≤ c.toNat ∧ c.toNat ≤ 191
        · have p1 : ¬ (c.toNat : Int) < 128 := by omega
          have q1 : ¬ 191 < (c.toNat : Int) := by omega
          rw [if_pos ⟨t0, t1⟩] at h0
          simp [a_unicode_utf8_decodeRuneInStringSlow_B, Env.ofArgs, List.nil_append, List.append_nil, FinR, FinP, finish, fz_osl, hX.g_first, hX.g_acc, hf, hv, hlt', IntKind.bits, a2, s2, w3, accD, loadD_t2, n9, n1, n2, p0, q0, p1, q1]
          refine good_ok (n := 3) h0 (by omega) ?_
          have z0 := andI_u8 (x := a.toNat) (m := 15) (by omega)
          have z1 := andI_u8 (x := b.toNat) (m := 63) (by omega)
          have z2 := andI_u8 (x := c.toNat) (m := 63) (by omega)
          exact (orI_i32 (orI_i32 (by rw [wrap_i32 (n := andI .u8 a.toNat 15) (by omega) (by omega)]; exact shl_i32 (m := 61440) (by omega) (by omega) (by omega)) (by rw [wrap_i32 (n := andI .u8 b.toNat 63) (by omega) (by omega)]; exact shl_i32 (m := 4032) (by omega) (by omega) (by omega))) (by rw [wrap_i32 (by omega) (by omega)]; omega)).1
        · rw [if_neg (by omega)] at h0
          have p1 : (c.toNat : Int) < 128 ∨ 191 < (c.toNat : Int) := by omega
          rcases p1 with p1 | p1
          · simp [a_unicode_utf8_decodeRuneInStringSlow_B, Env.ofArgs, List.nil_append, List.append_nil, FinR, FinP, finish, fz_osl, hX.g_first, hX.g_acc, hf, hv, hlt', IntKind.bits, a2, s2, w3, accD, loadD_t2, n9, n1, n2, p0, q0, p1]
            exact bad_ok h0
          · have p1' : ¬ (c.toNat : Int) < 128 := by omega
            simp [a_unicode_utf8_decodeRuneInStringSlow_B, Env.ofArgs, List.nil_append, List.append_nil, FinR, FinP, finish, fz_osl, hX.g_first, hX.g_acc, hf, hv, hlt', IntKind.bits, a2, s2, w3, accD, loadD_t2, n9, n1, n2, p0, q0, p1, p1']
            exact bad_ok h0
      · rw [if_neg (by omega)] at h0
        have p0 : (b.toNat : Int) < 160 ∨ 191 < (b.toNat : Int) := by omega
        rcases p0 with p0 | p0
        · simp [a_unicode_utf8_decodeRuneInStringSlow_B, Env.ofArgs, List.nil_append, List.append_nil, FinR, FinP, finish, fz_osl, hX.g_first, hX.g_acc, hf, hv, hlt', IntKind.bits, a2, s2, w3, accD, loadD_t2, n9, n1, n2, p0]
          exact bad_ok h0
        · have p0' : ¬ (b.toNat : Int) < 160 := by omega
          simp [a_unicode_utf8_decodeRuneInStringSlow_B, Env.ofArgs, List.nil_append, List.append_nil, FinR, FinP, finish, fz_osl, hX.g_first, hX.g_acc, hf, hv, hlt', IntKind.bits, a2, s2, w3, accD, loadD_t2, n9, n1, n2, p0, p0']
          exact bad_ok h0
theorem slow_ed (hX : CX X) (H : Heap) (a : UInt8) (r : List UInt8) (ha : a.toNat = 0xED) : ∃ d H', callΩ X (.func n_unicode_utf8_decodeRuneInStringSlow [] []) [.str (a :: r)] H = some (d, H') ∧ (RuneOk (a :: r) d ∧ H' = H) := by
  refine p_unicode_utf8_decodeRuneInStringSlow hX (by simp) ?_
  have hlt := u8_lt a
  have hlt' : (a.toNat : Int) < 256 := by omega
  have hf := first_at hlt
  have hv : fv a.toNat = 35 := by unfold fv; repeat (first | rw [if_neg (by omega)] | rw [if_pos (by omega)])
  have hd := fun r => dec1_three (a := a) (lo := 128) (hi := 159) (by omega) (by repeat (first | rw [if_neg (by omega)] | rw [if_pos (by omega)])) (by repeat (first | rw [if_neg (by omega)] | rw [if_pos (by omega)])) (r := r)
  cases r with
  | nil =>
    have h0 := hd ([])
    simp at h0
    simp [a_unicode_utf8_decodeRuneInStringSlow_B, Env.ofArgs, List.nil_append, List.append_nil, FinR, FinP, finish, fz_osl, hX.g_first, hX.g_acc, hf, hv, hlt', IntKind.bits, a3, s3, w3, accD, loadD_t2]
    exact bad_ok h0
  | cons b r =>
    cases r with
    | nil =>
      have h0 := hd (b :: [])
      simp at h0
      simp [a_unicode_utf8_decodeRuneInStringSlow_B, Env.ofArgs, List.nil_append, List.append_nil, FinR, FinP, finish, fz_osl, hX.g_first, hX.g_acc, hf, hv, hlt', IntKind.bits, a3, s3, w3, accD, loadD_t2]
      exact bad_ok h0
    | cons c r =>
      have h0 := hd (b :: c :: r)
      simp only [cont_iff] at h0
      have l0 := u8_lt b
      have l1 := u8_lt c
      have n1 : ¬ (r.length : Int) + 1 + 1 + 1 < 1 := by omega
      have n2 : ¬ (r.length : Int) + 1 + 1 + 1 < 2 := by omega
      have n9 : ¬ (r.length : Int) + 1 + 1 + 1 < 3 := by omega
      by_cases t0 : 128 ≤ b.toNat ∧ b.toNat ≤ 159
      · have p0 : ¬ (b.toNat : Int) < 128 := by omega
        have q0 : ¬ 159 < (b.toNat : Int) := by omega
        by_cases t1 : 128 ≤ c.toNat ∧ c.toNat ≤ 191
        · have p1 : ¬ (c.toNat : Int) < 128 := by omega
          have q1 : ¬ 191 < (c.toNat : Int) := by omega
          rw [if_pos ⟨t0, t1⟩] at h0
          simp [a_unicode_utf8_decodeRuneInStringSlow_B, Env.ofArgs, List.nil_append, List.append_nil, FinR, FinP, finish, fz_osl, hX.g_first, hX.g_acc, hf, hv, hlt', IntKind.bits, a3, s3, w3, accD, loadD_t2, n9, n1, n2, p0, q0, p1, q1]
          refine good_ok (n := 3) h0 (by omega) ?_
          have z0 := andI_u8 (x := a.toNat) (m := 15) (by omega)
          have z1 := andI_u8 (x := b.toNat) (m := 63) (by omega)
          have z2 := andI_u8 (x := c.toNat) (m := 63) (by omega)
          exact (orI_i32 (orI_i32 (by rw [wrap_i32 (n := andI .u8 a.toNat 15) (by omega) (by omega)]; exact shl_i32 (m := 61440) (by omega) (by omega) (by omega)) (by rw [wrap_i32 (n := andI .u8 b.toNat 63) (by omega) (by omega)]; exact shl_i32 (m := 4032) (by omega) (by omega) (by omega))) (by rw [wrap_i32 (by omega) (by omega)]; omega)).1
        · rw [if_neg (by omega)] at h0
          have p1 : (c.toNat : Int) < 128 ∨ 191 < (c.toNat : Int) := by omega
          rcases p1 with p1 | p1
          · simp [a_unicode_utf8_decodeRuneInStringSlow_B, Env.ofArgs, List.nil_append, List.append_nil, FinR, FinP, finish, fz_osl, hX.g_first, hX.g_acc, hf, hv, hlt', IntKind.bits, a3, s3, w3, accD, loadD_t2, n9, n1, n2, p0, q0, p1]
            exact bad_ok h0
          · have p1' : ¬ (c.toNat : Int) < 128 := by omega
            simp [a_unicode_utf8_decodeRuneInStringSlow_B, Env.ofArgs, List.nil_append, List.append_nil, FinR, FinP, finish, fz_osl, hX.g_first, hX.g_acc, hf, hv, hlt', IntKind.bits, a3, s3, w3, accD, loadD_t2, n9, n1, n2, p0, q0, p1, p1']
            exact bad_ok h0
      · rw [if_neg (by omega)] at h0
        have p0 : (b.toNat : Int) < 128 ∨ 159 < (b.toNat : Int) := by omega
        rcases p0 with p0 | p0
        · simp [a_unicode_utf8_decodeRuneInStringSlow_B, Env.ofArgs, List.nil_append, List.append_nil, FinR, FinP, finish, fz_osl, hX.g_first, hX.g_acc, hf, hv, hlt', IntKind.bits, a3, s3, w3, accD, loadD_t2, n9, n1, n2, p0]
          exact bad_ok h0
        · have p0' : ¬ (b.toNat : Int) < 128 := by omega
          simp [a_unicode_utf8_decodeRuneInStringSlow_B, Env.ofArgs, List.nil_append, List.append_nil, FinR, FinP, finish, fz_osl, hX.g_first, hX.g_acc, hf, hv, hlt', IntKind.bits, a3, s3, w3, accD, loadD_t2, n9, n1, n2, p0, p0']
          exact bad_ok h0
theorem slow_e1 (hX : CX X) (H : Heap) (a : UInt8) (r : List UInt8) (ha : 0xE0 < a.toNat ∧ a.toNat < 0xF0 ∧ a.toNat ≠ 0xED) : ∃ d H', callΩ X (.func n_unicode_utf8_decodeRuneInStringSlow [] []) [.str (a :: r)] H = some (d, H') ∧ (RuneOk (a :: r) d ∧ H' = H) := by
  refine p_unicode_utf8_decodeRuneInStringSlow hX (by simp) ?_
  have hlt := u8_lt a
  have hlt' : (a.toNat : Int) < 256 := by omega
  have hf := first_at hlt
  have hv : fv a.toNat = 3 := by unfold fv; repeat (first | rw [if_neg (by omega)] | rw [if_pos (by omega)])
  have hd := fun r => dec1_three (a := a) (lo := 128) (hi := 191) (by omega) (by repeat (first | rw [if_neg (by omega)] | rw [if_pos (by omega)])) (by repeat (first | rw [if_neg (by omega)] | rw [if_pos (by omega)])) (r := r)
  cases r with
  | nil =>
    have h0 := hd ([])
    simp at h0
    simp [a_unicode_utf8_decodeRuneInStringSlow_B, Env.ofArgs, List.nil_append, List.append_nil, FinR, FinP, finish, fz_osl, hX.g_first, hX.g_acc, hf, hv, hlt', IntKind.bits, a4, s4, w3, accD, loadD_t2]
    exact bad_ok h0
  | cons b r =>
    cases r with
    | nil =>
      have h0 := hd (b :: [])
      simp at h0
      simp [a_unicode_utf8_decodeRuneInStringSlow_B, Env.ofArgs, List.nil_append, List.append_nil, FinR, FinP, finish, fz_osl, hX.g_first, hX.g_acc, hf, hv, hlt', IntKind.bits, a4, s4, w3, accD, loadD_t2]
      exact bad_ok h0
    | cons c r =>
      have h0 := hd (b :: c :: r)
      simp only [cont_iff] at h0
      have l0 := u8_lt b
      have l1 := u8_lt c
      have n1 : ¬ (r.length : Int) + 1 + 1 + 1 < 1 := by omega
      have n2 : ¬ (r.length : Int) + 1 + 1 + 1 < 2 := by omega
      have n9 : ¬ (r.length : Int) + 1 + 1 + 1 < 3 := by omega
      by_cases t0 : 128 ≤ b.toNat ∧ b.toNat ≤ 191
      · have p0 : ¬ (b.toNat : Int) < 128 := by omega
        have q0 : ¬ 191 < (b.toNat : Int) := by omega
        by_cases t1 : 128 ≤ c.toNat ∧ c.toNat ≤ 191
        · have p1 : ¬ (c.toNat : Int) < 128 := by omega
          have q1 : ¬ 191 < (c.toNat : Int) := by omega
          rw [if_pos ⟨t0, t1⟩] at h0
          simp [a_unicode_utf8_decodeRuneInStringSlow_B, Env.ofArgs, List.nil_append, List.append_nil, FinR, FinP, finish, fz_osl, hX.g_first, hX.g_acc, hf, hv, hlt', IntKind.bits, a4, s4, w3, accD, loadD_t2, n9, n1, n2, p0, q0, p1, q1]
          refine good_ok (n := 3) h0 (by omega) ?_
          have z0 := andI_u8 (x := a.toNat) (m := 15) (by omega)
          have z1 := andI_u8 (x := b.toNat) (m := 63) (by omega)
          have z2 := andI_u8 (x := c.toNat) (m := 63) (by omega)
          exact (orI_i32 (orI_i32 (by rw [wrap_i32 (n := andI .u8 a.toNat 15) (by omega) (by omega)]; exact shl_i32 (m := 61440) (by omega) (by omega) (by omega)) (by rw [wrap_i32 (n := andI .u8 b.toNat 63) (by omega) (by omega)]; exact shl_i32 (m := 4032) (by omega) (by omega) (by omega))) (by rw [wrap_i32 (by omega) (by omega)]; omega)).1
        · rw [if_neg (by omega)] at h0
          have p1 : (c.toNat : Int) < 128 ∨ 191 < (c.toNat : Int) := by omega
          rcases p1 with p1 | p1
          · simp [a_unicode_utf8_decodeRuneInStringSlow_B, Env.ofArgs, List.nil_append, List.append_nil, FinR, FinP, finish, fz_osl, hX.g_first, hX.g_acc, hf, hv, hlt', IntKind.bits, a4, s4, w3, accD, loadD_t2, n9, n1, n2, p0, q0, p1]
            exact bad_ok h0
          · have p1' : ¬ (c.toNat : Int) < 128 := by omega
            simp [a_unicode_utf8_decodeRuneInStringSlow_B, Env.ofArgs, List.nil_append, List.append_nil, FinR, FinP, finish, fz_osl, hX.g_first, hX.g_acc, hf, hv, hlt', IntKind.bits, a4, s4, w3, accD, loadD_t2, n9, n1, n2, p0, q0, p1, p1']
            exact bad_ok h0
      · rw [if_neg (by omega)] at h0
        have p0 : (b.toNat : Int) < 128 ∨ 191 < (b.toNat : Int) := by omega
        rcases p0 with p0 | p0
        · simp [a_unicode_utf8_decodeRuneInStringSlow_B, Env.ofArgs, List.nil_append, List.append_nil, FinR, FinP, finish, fz_osl, hX.g_first, hX.g_acc, hf, hv, hlt', IntKind.bits, a4, s4, w3, accD, loadD_t2, n9, n1, n2, p0]
          exact bad_ok h0
        · have p0' : ¬ (b.toNat : Int) < 128 := by omega
          simp [a_unicode_utf8_decodeRuneInStringSlow_B, Env.ofArgs, List.nil_append, List.append_nil, FinR, FinP, finish, fz_osl, hX.g_first, hX.g_acc, hf, hv, hlt', IntKind.bits, a4, s4, w3, accD, loadD_t2, n9, n1, n2, p0, p0']
          exact bad_ok h0
theorem slow_f0 (hX : CX X) (H : Heap) (a : UInt8) (r : List UInt8) (ha : a.toNat = 0xF0) : ∃ d H', callΩ X (.func n_unicode_utf8_decodeRuneInStringSlow [] []) [.str (a :: r)] H = some (d, H') ∧ (RuneOk (a :: r) d ∧ H' = H) := by
  refine p_unicode_utf8_decodeRuneInStringSlow hX (by simp) ?_
  have hlt := u8_lt a
  have hlt' : (a.toNat : Int) < 256 := by omega
  have hf := first_at hlt
  have hv : fv a.toNat = 52 := by unfold fv; repeat (first | rw [if_neg (by omega)] | rw [if_pos (by omega)])
  have hd := fun r => dec1_four (a := a) (lo := 144) (hi := 191) (by omega) (by repeat (first | rw [if_neg (by omega)] | rw [if_pos (by omega)])) (by repeat (first | rw [if_neg (by omega)] | rw [if_pos (by omega)])) (r := r)
  cases r with
  | nil =>
    have h0 := hd ([])
    simp at h0
    simp [a_unicode_utf8_decodeRuneInStringSlow_B, Env.ofArgs, List.nil_append, List.append_nil, FinR, FinP, finish, fz_osl, hX.g_first, hX.g_acc, hf, hv, hlt', IntKind.bits, a5, s5, w4, accD, loadD_t2]
    exact bad_ok h0
  | cons b r =>
    cases r with
    | nil =>
      have h0 := hd (b :: [])
      simp at h0
      simp [a_unicode_utf8_decodeRuneInStringSlow_B, Env.ofArgs, List.nil_append, List.append_nil, FinR, FinP, finish, fz_osl, hX.g_first, hX.g_acc, hf, hv, hlt', IntKind.bits, a5, s5, w4, accD, loadD_t2]
      exact bad_ok h0
    | cons c r =>
      cases r with
      | nil =>
        have h0 := hd (b :: c :: [])
        simp at h0
        simp [a_unicode_utf8_decodeRuneInStringSlow_B, Env.ofArgs, List.nil_append, List.append_nil, FinR, FinP, finish, fz_osl, hX.g_first, hX.g_acc, hf, hv, hlt', IntKind.bits, a5, s5, w4, accD, loadD_t2]
        exact bad_ok h0
      | cons d r =>
        have h0 := hd (b :: c :: d :: r)
        simp only [cont_iff] at h0
        have l0 := u8_lt b
        have l1 := u8_lt c
        have l2 := u8_lt d
        have n1 : ¬ (r.length : Int) + 1 + 1 + 1 + 1 < 1 := by omega
        have n2 : ¬ (r.length : Int) + 1 + 1 + 1 + 1 < 2 := by omega
        have n3 : ¬ (r.length : Int) + 1 + 1 + 1 + 1 < 3 := by omega
        have n9 : ¬ (r.length : Int) + 1 + 1 + 1 + 1 < 4 := by omega
        by_cases t0 : 144 ≤ b.toNat ∧ b.toNat ≤ 191
        · have p0 : ¬ (b.toNat : Int) < 144 := by omega
          have q0 : ¬ 191 < (b.toNat : Int) := by omega
          by_cases t1 : 128 ≤ c.toNat ∧ c.toNat ≤ 191
          · have p1 : ¬ (c.toNat : Int) < 128 := by omega
            have q1 : ¬ 191 < (c.toNat : Int) := by omega
            by_cases t2 : 128 ≤ d.toNat ∧ d.toNat ≤ 191
            · have p2 : ¬ (d.toNat : Int) < 128 := by omega
              have q2 : ¬ 191 < (d.toNat : Int) := by omega
              rw [if_pos ⟨t0, t1, t2⟩] at h0
              simp [a_unicode_utf8_decodeRuneInStringSlow_B, Env.ofArgs, List.nil_append, List.append_nil, FinR, FinP, finish, fz_osl, hX.g_first, hX.g_acc, hf, hv, hlt', IntKind.bits, a5, s5, w4, accD, loadD_t2, n9, n1, n2, n3, p0, q0, p1, q1, p2, q2]
              refine good_ok (n := 4) h0 (by omega) ?_
              have z0 := andI_u8 (x := a.toNat) (m := 7) (by omega)
              have z1 := andI_u8 (x := b.toNat) (m := 63) (by omega)
              have z2 := andI_u8 (x := c.toNat) (m := 63) (by omega)
              have z3 := andI_u8 (x := d.toNat) (m := 63) (by omega)
              exact (orI_i32 (orI_i32 (orI_i32 (by rw [wrap_i32 (n := andI .u8 a.toNat 7) (by omega) (by omega)]; exact shl_i32 (m := 1835008) (by omega) (by omega) (by omega)) (by rw [wrap_i32 (n := andI .u8 b.toNat 63) (by omega) (by omega)]; exact shl_i32 (m := 258048) (by omega) (by omega) (by omega))) (by rw [wrap_i32 (n := andI .u8 c.toNat 63) (by omega) (by omega)]; exact shl_i32 (m := 4032) (by omega) (by omega) (by omega))) (by rw [wrap_i32 (by omega) (by omega)]; omega)).1
            · rw [if_neg (by omega)] at h0
              have p2 : (d.toNat : Int) < 128 ∨ 191 < (d.toNat : Int) := by omega
              rcases p2 with p2 | p2
              · simp [a_unicode_utf8_decodeRuneInStringSlow_B, Env.ofArgs, List.nil_append, List.append_nil, FinR, FinP, finish, fz_osl, hX.g_first, hX.g_acc, hf, hv, hlt', IntKind.bits, a5, s5, w4, accD, loadD_t2, n9, n1, n2, n3, p0, q0, p1, q1, p2]
                exact bad_ok h0
              · have p2' : ¬ (d.toNat : Int) < 128 := by omega
                simp [a_unicode_utf8_decodeRuneInStringSlow_B, Env.ofArgs, List.nil_append, List.append_nil, FinR, FinP, finish, fz_osl, hX.g_first, hX.g_acc, hf, hv, hlt', IntKind.bits, a5, s5, w4, accD, loadD_t2, n9, n1, n2, n3, p0, q0, p1, q1, p2, p2']
                exact bad_ok h0
          · rw [if_neg (by omega)] at h0
            have p1 : (c.toNat : Int) < 128 ∨ 191 < (c.toNat : Int) := by omega
            rcases p1 with p1 | p1
            · simp [a_unicode_utf8_decodeRuneInStringSlow_B, Env.ofArgs, List.nil_append, List.append_nil, FinR, FinP, finish, fz_osl, hX.g_first, hX.g_acc, hf, hv, hlt', IntKind.bits, a5, s5, w4, accD, loadD_t2, n9, n1, n2, n3, p0, q0, p1]
              exact bad_ok h0
            · have p1' : ¬ (c.toNat : Int) < 128 := by omega
              simp [a_unicode_utf8_decodeRuneInStringSlow_B, Env.ofArgs, List.nil_append, List.append_nil, FinR, FinP, finish, fz_osl, hX.g_first, hX.g_acc, hf, hv, hlt', IntKind.bits, a5, s5, w4, accD, loadD_t2, n9, n1, n2, n3, p0, q0, p1, p1']
              exact bad_ok h0
        · rw [if_neg (by omega)] at h0
          have p0 : (b.toNat : Int) < 144 ∨ 191 < (b.toNat : Int) := by omega
          rcases p0 with p0 | p0
          · simp [a_unicode_utf8_decodeRuneInStringSlow_B, Env.ofArgs, List.nil_append, List.append_nil, FinR, FinP, finish, fz_osl, hX.g_first, hX.g_acc, hf, hv, hlt', IntKind.bits, a5, s5, w4, accD, loadD_t2, n9, n1, n2, n3, p0]
            exact bad_ok h0
          · have p0' : ¬ (b.toNat : Int) < 144 := by omega
            simp [a_unicode_utf8_decodeRuneInStringSlow_B, Env.ofArgs, List.nil_append, List.append_nil, FinR, FinP, finish, fz_osl, hX.g_first, hX.g_acc, hf, hv, hlt', IntKind.bits, a5, s5, w4, accD, loadD_t2, n9, n1, n2, n3, p0, p0']
            exact bad_ok h0
theorem slow_f1 (hX : CX X) (H : Heap) (a : UInt8) (r : List UInt8) (ha : 0xF0 < a.toNat ∧ a.toNat < 0xF4) : ∃ d H', callΩ X (.func n_unicode_utf8_decodeRuneInStringSlow [] []) [.str (a :: r)] H = some (d, H') ∧ (RuneOk (a :: r) d ∧ H' = H) := by
  refine p_unicode_utf8_decodeRuneInStringSlow hX (by simp) ?_
  have hlt := u8_lt a
  have hlt' : (a.toNat : Int) < 256 := by omega
  have hf := first_at hlt
  have hv : fv a.toNat = 4 := by unfold fv; repeat (first | rw [if_neg (by omega)] | rw [if_pos (by omega)])
  have hd := fun r => dec1_four (a := a) (lo := 128) (hi := 191) (by omega) (by repeat (first | rw [if_neg (by omega)] | rw [if_pos (by omega)])) (by repeat (first | rw [if_neg (by omega)] | rw [if_pos (by omega)])) (r := r)
  cases r with
  | nil =>
    have h0 := hd ([])
    simp at h0
    simp [a_unicode_utf8_decodeRuneInStringSlow_B, Env.ofArgs, List.nil_append, List.append_nil, FinR, FinP, finish, fz_osl, hX.g_first, hX.g_acc, hf, hv, hlt', IntKind.bits, a6, s6, w4, accD, loadD_t2]
    exact bad_ok h0
  | cons b r =>
    cases r with
    | nil =>
      have h0 := hd (b :: [])
      simp at h0
      simp [a_unicode_utf8_decodeRuneInStringSlow_B, Env.ofArgs, List.nil_append, List.append_nil, FinR, FinP, finish, fz_osl, hX.g_first, hX.g_acc, hf, hv, hlt', IntKind.bits, a6, s6, w4, accD, loadD_t2]
      exact bad_ok h0
    | cons c r =>
      cases r with
      | nil =>
        have h0 := hd (b :: c :: [])
        simp at h0
        simp [a_unicode_utf8_decodeRuneInStringSlow_B, Env.ofArgs, List.nil_append, List.append_nil, FinR, FinP, finish, fz_osl, hX.g_first, hX.g_acc, hf, hv, hlt', IntKind.bits, a6, s6, w4, accD, loadD_t2]
        exact bad_ok h0
      | cons d r =>
        have h0 := hd (b :: c :: d :: r)
        simp only [cont_iff] at h0
        have l0 := u8_lt b
        have l1 := u8_lt c
        have l2 := u8_lt d
        have n1 : ¬ (r.length : Int) + 1 + 1 + 1 + 1 < 1 := by omega
        have n2 : ¬ (r.length : Int) + 1 + 1 + 1 + 1 < 2 := by omega
        have n3 : ¬ (r.length : Int) + 1 + 1 + 1 + 1 < 3 := by omega
        have n9 : ¬ (r.length : Int) + 1 + 1 + 1 + 1 < 4 := by omega
        by_cases t0 : 128 ≤ b.toNat ∧ b.toNat ≤ 191
        · have p0 : ¬ (b.toNat : Int) < 128 := by omega
          have q0 : ¬ 191 < (b.toNat : Int) := by omega
          by_cases t1 : 128 ≤ c.toNat ∧ c.toNat ≤ 191
          · have p1 : ¬ (c.toNat : Int) < 128 := by omega
            have q1 : ¬ 191 < (c.toNat : Int) := by omega
            by_cases t2 : 128 ≤ d.toNat ∧ d.toNat ≤ 191
            · have p2 : ¬ (d.toNat : Int) < 128 := by omega
              have q2 : ¬ 191 < (d.toNat : Int) := by omega
              rw [if_pos ⟨t0, t1, t2⟩] at h0
              simp [a_unicode_utf8_decodeRuneInStringSlow_B, Env.ofArgs, List.nil_append, List.append_nil, FinR, FinP, finish, fz_osl, hX.g_first, hX.g_acc, hf, hv, hlt', IntKind.bits, a6, s6, w4, accD, loadD_t2, n9, n1, n2, n3, p0, q0, p1, q1, p2, q2]
              refine good_ok (n := 4) h0 (by omega) ?_
              have z0 := andI_u8 (x := a.toNat) (m := 7) (by omega)
              have z1 := andI_u8 (x := b.toNat) (m := 63) (by omega)
              have z2 := andI_u8 (x := c.toNat) (m := 63) (by omega)
              have z3 := andI_u8 (x := d.toNat) (m := 63) (by omega)
              exact (orI_i32 (orI_i32 (orI_i32 (by rw [wrap_i32 (n := andI .u8 a.toNat 7) (by omega) (by omega)]; exact shl_i32 (m := 1835008) (by omega) (by omega) (by omega)) (by rw [wrap_i32 (n := andI .u8 b.toNat 63) (by omega) (by omega)]; exact shl_i32 (m := 258048) (by omega) (by omega) (by omega))) (by rw [wrap_i32 (n := andI .u8 c.toNat 63) (by omega) (by omega)]; exact shl_i32 (m := 4032) (by omega) (by omega) (by omega))) (by rw [wrap_i32 (by omega) (by omega)]; omega)).1
            · rw [if_neg (by omega)] at h0
              have p2 : (d.toNat : Int) < 128 ∨ 191 < (d.toNat : Int) := by omega
              rcases p2 with p2 | p2
              · simp [a_unicode_utf8_decodeRuneInStringSlow_B, Env.ofArgs, List.nil_append, List.append_nil, FinR, FinP, finish, fz_osl, hX.g_first, hX.g_acc, hf, hv, hlt', IntKind.bits, a6, s6, w4, accD, loadD_t2, n9, n1, n2, n3, p0, q0, p1, q1, p2]
                exact bad_ok h0
              · have p2' : ¬ (d.toNat : Int) < 128 := by omega
                simp [a_unicode_utf8_decodeRuneInStringSlow_B, Env.ofArgs, List.nil_append, List.append_nil, FinR, FinP, finish, fz_osl, hX.g_first, hX.g_acc, hf, hv, hlt', IntKind.bits, a6, s6, w4, accD, loadD_t2, n9, n1, n2, n3, p0, q0, p1, q1, p2, p2']
                exact bad_ok h0
          · rw [if_neg (by omega)] at h0
            have p1 : (c.toNat : Int) < 128 ∨ 191 < (c.toNat : Int) := by omega
            rcases p1 with p1 | p1
            · simp [a_unicode_utf8_decodeRuneInStringSlow_B, Env.ofArgs, List.nil_append, List.append_nil, FinR, FinP, finish, fz_osl, hX.g_first, hX.g_acc, hf, hv, hlt', IntKind.bits, a6, s6, w4, accD, loadD_t2, n9, n1, n2, n3, p0, q0, p1]
              exact bad_ok h0
            · have p1' : ¬ (c.toNat : Int) < 128 := by omega
              simp [a_unicode_utf8_decodeRuneInStringSlow_B, Env.ofArgs, List.nil_append, List.append_nil, FinR, FinP, finish, fz_osl, hX.g_first, hX.g_acc, hf, hv, hlt', IntKind.bits, a6, s6, w4, accD, loadD_t2, n9, n1, n2, n3, p0, q0, p1, p1']
              exact bad_ok h0
        · rw [if_neg (by omega)] at h0
          have p0 : (b.toNat : Int) < 128 ∨ 191 < (b.toNat : Int) := by omega
          rcases p0 with p0 | p0
          · simp [a_unicode_utf8_decodeRuneInStringSlow_B, Env.ofArgs, List.nil_append, List.append_nil, FinR, FinP, finish, fz_osl, hX.g_first, hX.g_acc, hf, hv, hlt', IntKind.bits, a6, s6, w4, accD, loadD_t2, n9, n1, n2, n3, p0]
            exact bad_ok h0
          · have p0' : ¬ (b.toNat : Int) < 128 := by omega
            simp [a_unicode_utf8_decodeRuneInStringSlow_B, Env.ofArgs, List.nil_append, List.append_nil, FinR, FinP, finish, fz_osl, hX.g_first, hX.g_acc, hf, hv, hlt', IntKind.bits, a6, s6, w4, accD, loadD_t2, n9, n1, n2, n3, p0, p0']
            exact bad_ok h0
theorem slow_f4 (hX : CX X) (H : Heap) (a : UInt8) (r : List UInt8) (ha : a.toNat = 0xF4) : ∃ d H', callΩ X (.func n_unicode_utf8_decodeRuneInStringSlow [] []) [.str (a :: r)] H = some (d, H') ∧ (RuneOk (a :: r) d ∧ H' = H) := by
  refine p_unicode_utf8_decodeRuneInStringSlow hX (by simp) ?_
  have hlt := u8_lt a
  have hlt' : (a.toNat : Int) < 256 := by omega
  have hf := first_at hlt
  have hv : fv a.toNat = 68 := by unfold fv; repeat (first | rw [if_neg (by omega)] | rw [if_pos (by omega)])
  have hd := fun r => dec1_four (a := a) (lo := 128) (hi := 143) (by omega) (by repeat (first | rw [if_neg (by omega)] | rw [if_pos (by omega)])) (by repeat (first | rw [if_neg (by omega)] | rw [if_pos (by omega)])) (r := r)
  cases r with
  | nil =>
    have h0 := hd ([])
    simp at h0
    simp [a_unicode_utf8_decodeRuneInStringSlow_B, Env.ofArgs, List.nil_append, List.append_nil, FinR, FinP, finish, fz_osl, hX.g_first, hX.g_acc, hf, hv, hlt', IntKind.bits, a7, s7, w4, accD, loadD_t2]
    exact bad_ok h0
  | cons b r =>
    cases r with
    | nil =>
      have h0 := hd (b :: [])
      simp at h0
      simp [a_unicode_utf8_decodeRuneInStringSlow_B, Env.ofArgs, List.nil_append, List.append_nil, FinR, FinP, finish, fz_osl, hX.g_first, hX.g_acc, hf, hv, hlt', IntKind.bits, a7, s7, w4, accD, loadD_t2]
      exact bad_ok h0
    | cons c r =>
      cases r with
      | nil =>
        have h0 := hd (b :: c :: [])
        simp at h0
        simp [a_unicode_utf8_decodeRuneInStringSlow_B, Env.ofArgs, List.nil_append, List.append_nil, FinR, FinP, finish, fz_osl, hX.g_first, hX.g_acc, hf, hv, hlt', IntKind.bits, a7, s7, w4, accD, loadD_t2]
        exact bad_ok h0
      | cons d r =>
        have h0 := hd (b :: c :: d :: r)
        simp only [cont_iff] at h0
        have l0 := u8_lt b
        have l1 := u8_lt c
        have l2 := u8_lt d
        have n1 : ¬ (r.length : Int) + 1 + 1 + 1 + 1 < 1 := by omega
        have n2 : ¬ (r.length : Int) + 1 + 1 + 1 + 1 < 2 := by omega
        have n3 : ¬ (r.length : Int) + 1 + 1 + 1 + 1 < 3 := by omega
        have n9 : ¬ (r.length : Int) + 1 + 1 + 1 + 1 < 4 := by omega
        by_cases t0 : 128 ≤ b.toNat ∧ b.toNat ≤ 143
        · have p0 : ¬ (b.toNat : Int) < 128 := by omega
          have q0 : ¬ 143 < (b.toNat : Int) := by omega
          by_cases t1 : 128 ≤ c.toNat ∧ c.toNat ≤ 191
          · have p1 : ¬ (c.toNat : Int) < 128 := by omega
            have q1 : ¬ 191 < (c.toNat : Int) := by omega
            by_cases t2 : 128 ≤ d.toNat ∧ d.toNat ≤ 191
            · have p2 : ¬ (d.toNat : Int) < 128 := by omega
              have q2 : ¬ 191 < (d.toNat : Int) := by omega
              rw [if_pos ⟨t0, t1, t2⟩] at h0
              simp [a_unicode_utf8_decodeRuneInStringSlow_B, Env.ofArgs, List.nil_append, List.append_nil, FinR, FinP, finish, fz_osl, hX.g_first, hX.g_acc, hf, hv, hlt', IntKind.bits, a7, s7, w4, accD, loadD_t2, n9, n1, n2, n3, p0, q0, p1, q1, p2, q2]
              refine good_ok (n := 4) h0 (by omega) ?_
              have z0 := andI_u8 (x := a.toNat) (m := 7) (by omega)
              have z1 := andI_u8 (x := b.toNat) (m := 63) (by omega)
              have z2 := andI_u8 (x := c.toNat) (m := 63) (by omega)
              have z3 := andI_u8 (x := d.toNat) (m := 63) (by omega)
              exact (orI_i32 (orI_i32 (orI_i32 (by rw [wrap_i32 (n := andI .u8 a.toNat 7) (by omega) (by omega)]; exact shl_i32 (m := 1835008) (by omega) (by omega) (by omega)) (by rw [wrap_i32 (n := andI .u8 b.toNat 63) (by omega) (by omega)]; exact shl_i32 (m := 258048) (by omega) (by omega) (by omega))) (by rw [wrap_i32 (n := andI .u8 c.toNat 63) (by omega) (by omega)]; exact shl_i32 (m := 4032) (by omega) (by omega) (by omega))) (by rw [wrap_i32 (by omega) (by omega)]; omega)).1
            · rw [if_neg (by omega)] at h0
              have p2 : (d.toNat : Int) < 128 ∨ 191 < (d.toNat : Int) := by omega
              rcases p2 with p2 | p2
              · simp [a_unicode_utf8_decodeRuneInStringSlow_B, Env.ofArgs, List.nil_append, List.append_nil, FinR, FinP, finish, fz_osl, hX.g_first, hX.g_acc, hf, hv, hlt', IntKind.bits, a7, s7, w4, accD, loadD_t2, n9, n1, n2, n3, p0, q0, p1, q1, p2]
                exact bad_ok h0
              · have p2' : ¬ (d.toNat : Int) < 128 := by omega
                simp [a_unicode_utf8_decodeRuneInStringSlow_B, Env.ofArgs, List.nil_append, List.append_nil, FinR, FinP, finish, fz_osl, hX.g_first, hX.g_acc, hf, hv, hlt', IntKind.bits, a7, s7, w4, accD, loadD_t2, n9, n1, n2, n3, p0, q0, p1, q1, p2, p2']
                exact bad_ok h0
          · rw [if_neg (by omega)] at h0
            have p1 : (c.toNat : Int) < 128 ∨ 191 < (c.toNat : Int) := by omega
            rcases p1 with p1 | p1
            · simp [a_unicode_utf8_decodeRuneInStringSlow_B, Env.ofArgs, List.nil_append, List.append_nil, FinR, FinP, finish, fz_osl, hX.g_first, hX.g_acc, hf, hv, hlt', IntKind.bits, a7, s7, w4, accD, loadD_t2, n9, n1, n2, n3, p0, q0, p1]
              exact bad_ok h0
            · have p1' : ¬ (c.toNat : Int) < 128 := by omega
              simp [a_unicode_utf8_decodeRuneInStringSlow_B, Env.ofArgs, List.nil_append, List.append_nil, FinR, FinP, finish, fz_osl, hX.g_first, hX.g_acc, hf, hv, hlt', IntKind.bits, a7, s7, w4, accD, loadD_t2, n9, n1, n2, n3, p0, q0, p1, p1']
              exact bad_ok h0
        · rw [if_neg (by omega)] at h0
          have p0 : (b.toNat : Int) < 128 ∨ 143 < (b.toNat : Int) := by omega
          rcases p0 with p0 | p0
          · simp [a_unicode_utf8_decodeRuneInStringSlow_B, Env.ofArgs, List.nil_append, List.append_nil, FinR, FinP, finish, fz_osl, hX.g_first, hX.g_acc, hf, hv, hlt', IntKind.bits, a7, s7, w4, accD, loadD_t2, n9, n1, n2, n3, p0]
            exact bad_ok h0
          · have p0' : ¬ (b.toNat : Int) < 128 := by omega
            simp [a_unicode_utf8_decodeRuneInStringSlow_B, Env.ofArgs, List.nil_append, List.append_nil, FinR, FinP, finish, fz_osl, hX.g_first, hX.g_acc, hf, hv, hlt', IntKind.bits, a7, s7, w4, accD, loadD_t2, n9, n1, n2, n3, p0, p0']
            exact bad_ok h0
theorem decode_ok (hX : CX X) (H : Heap) (s : List UInt8) (hs : s ≠ []) : ∃ d H', callΩ X (.func n_unicode_utf8_DecodeRuneInString [] []) [.str s] H = some (d, H') ∧ (RuneOk s d ∧ H' = H) := by
  obtain ⟨a, r, rfl⟩ := List.exists_cons_of_ne_nil hs
  by_cases ha : a.toNat < 128
  · refine p_unicode_utf8_DecodeRuneInString hX (by simp) ?_
    have h1 : (a.toNat : Int) < 128 := by omega
    simp [a_unicode_utf8_DecodeRuneInString_B, Env.ofArgs, List.nil_append, List.append_nil, FinR, FinP, finish, fz_osl, h1]
    refine ⟨_, _, rfl, fun h => ?_, fun _ => ?_⟩
    · unfold dec1 at h; simp [ha] at h
    · rw [wrap_i32 (by omega) (by omega)]
      unfold dec1; simp [ha]; omega
  · have hlow : ∃ d H', callΩ X (.func n_unicode_utf8_decodeRuneInStringSlow [] []) [.str (a :: r)] H = some (d, H') ∧ (RuneOk (a :: r) d ∧ H' = H) := by
      by_cases c1 : a.toNat < 0xC2
      · exact slow_bad hX H a r (by omega) (by unfold fv; rw [if_neg (by omega), if_pos c1]) (by unfold dec1; simp only; rw [if_neg (by omega), if_pos c1])
      by_cases c2 : a.toNat < 0xE0
      · exact slow_c2 hX H a r (by omega)
      by_cases c3 : a.toNat = 0xE0
      · exact slow_e0 hX H a r c3
      by_cases c4 : a.toNat = 0xED
      · exact slow_ed hX H a r c4
      by_cases c5 : a.toNat < 0xF0
      · exact slow_e1 hX H a r (by omega)
      by_cases c6 : a.toNat = 0xF0
      · exact slow_f0 hX H a r c6
      by_cases c7 : a.toNat < 0xF4
      · exact slow_f1 hX H a r (by omega)
      by_cases c8 : a.toNat = 0xF4
      · exact slow_f4 hX H a r c8
      · exact slow_bad hX H a r (by omega) (by unfold fv; repeat (first | rw [if_neg (by omega)] | rw [if_pos (by omega)])) (by unfold dec1; simp only; repeat (first | rw [if_neg (by omega)] | rw [if_pos (by omega)]))
    obtain ⟨d, H', h1, h2, rfl⟩ := hlow
    obtain ⟨c, n, rfl, hc⟩ := h2
    refine p_unicode_utf8_DecodeRuneInString hX (by simp) ?_
    have h0 : ¬ (a.toNat : Int) < 128 := by omega
    simp [a_unicode_utf8_DecodeRuneInString_B, Env.ofArgs, List.nil_append, List.append_nil, FinR, FinP, finish, fz_osl, h0, h1]
    exact ⟨c, n, rfl, hc⟩
end
end Go.AM.T
/- Texts: the program's check of them. -/
namespace Go.AM.T
section
variable {X : Ctx}
theorem utfAt_step {s : List UInt8} (h : dec1 s ≠ 0) : utfAt s = dec1 s + utfAt (s.drop (dec1 s)) := by rw [utfAt, dif_neg h]
theorem utfAt_bad {s : List UInt8} (h : dec1 s = 0) : utfAt s = 0 := by rw [utfAt, dif_pos h]
theorem utf_runes (hX : CX X) (H : Heap) (s : List UInt8) : callΩ X (.func n_utf_runes [] []) [.str s] H = some (.func n_utf_runes_1 [] [.fptr [.str s]], H) := by
  refine c_utf_runes hX (by simp) ?_
  simp [a_utf_runes_B, Env.ofArgs, List.nil_append, List.append_nil, FinR, FinP, finish, fz_osl, D.defd]

theorem runes_1 (hX : CX X) (s : List UInt8) (hl : (s.length : Int) ≤ 9223372036854775807) (l : Nat) (H0 : Heap) (H1 : Nat → Heap) (hlen : ∀ k, (H1 k).length = H0.length)
    (hy : ∀ (k : Nat) (c : Int), 0 ≤ c → callΩ X (.yield l) [.int .i64 k, .int .i32 c] H0 = some (.bool true, H0))
    (hn : ∀ k : Nat, callΩ X (.yield l) [.int .i64 k, .int .i32 (-1)] H0 = some (.bool false, H1 k)) :
    callΩ X (.func n_utf_runes_1 [] [.fptr [.str s]]) [.yield l] H0 = some (.tup [], if utfAt s = s.length then H0 else H1 (utfAt s)) := by
  refine c_utf_runes_1 hX (by simp) ?_
  simp [a_utf_runes_1_B, Env.ofArgs, List.nil_append, List.append_nil]
  refine YS_ind (fun k e H' => H' = H0 ∧ k ≤ s.length ∧ e.get 0 = .yield l ∧ e.get 1 = .fptr [.str s] ∧ e.get 3 = .int .i64 k ∧ utfAt s = k + utfAt (s.drop k)) (fun k => s.length - k) ?_ 0 (by simp)
  rintro k e H' ⟨rfl, hk, h0, h1, h3, hd⟩ L ih
  by_cases h : k < s.length
  · have hne : s.drop k ≠ [] := by intro h'; have := congrArg List.length h'; simp at this; omega
    obtain ⟨d, H2, g1, ⟨c, n, rfl, g2, g3⟩, rfl⟩ := decode_ok hX H' (s.drop k) hne
    by_cases hz : dec1 (s.drop k) = 0
    · obtain ⟨rfl, rfl⟩ := g2 hz
      rw [utfAt_bad hz] at hd
      simp at hd
      have hne' : ¬ k = s.length := by omega
      simp [a_utf_runes_1_L0, h0, h1, h3, h, sliceStr_from (show k ≤ s.length by omega), g1, hn, FinR, FinP, finish, fz_osl, hd, hne']
      exact List.take_of_length_le (by rw [hlen]; omega)
    · obtain ⟨p1, p2, p3⟩ := g3 hz
      have hle := dec1_le (s.drop k)
      simp at hle
      rw [utfAt_step hz] at hd
      have hc : ¬ (c = 65533 ∧ n = 1) := p3
      have hw : IntKind.i64.wrap ((k : Int) + n) = ((k + dec1 (s.drop k) : Nat) : Int) := by rw [p2, wrap_i64 (by omega) (by omega)]; omega
      by_cases c1 : c = 65533
      · have n1 : ¬ n = 1 := fun hn1 => hc ⟨c1, hn1⟩
        subst c1
        simp [a_utf_runes_1_L0, h0, h1, h3, h, sliceStr_from (show k ≤ s.length by omega), g1, hy, n1, hw]
        refine ih (k + dec1 (s.drop k)) _ _ (by omega) ?_
        simp [h0, h1, hd]
        omega
      · simp [a_utf_runes_1_L0, h0, h1, h3, h, sliceStr_from (show k ≤ s.length by omega), g1, hy _ _ p1, c1, hw]
        refine ih (k + dec1 (s.drop k)) _ _ (by omega) ?_
        simp [h0, h1, hd]
        omega
  · obtain rfl : k = s.length := by omega
    have hb : utfAt [] = 0 := utfAt_bad rfl
    simp [hb] at hd
    simp [a_utf_runes_1_L0, h0, h1, h3, FinR, FinP, finish, fz_osl, hd]

abbrev utfEnv (H : Heap) (s : List UInt8) : Env := ((((Env.nil.put 0 (D.str s)).put 2 (.ptr H.length 0)).put 3 (.ptr (H.length + 1) 0)).put 6 (.str s)).put 7 (.func n_utf_runes_1 [] [.fptr [.str s]])
theorem utf_Check (hX : CX X) (H : Heap) (s : List UInt8) (hl : (s.length : Int) ≤ 9223372036854775807) : callΩ X (.func n_utf_Check [] []) [.str s] H = some (.tup [.int .i64 (utfAt s), .int .i64 (if utfOk s then 0 else 61)], H) := by
  refine c_utf_Check hX (by simp) ?_
  simp [a_utf_Check_B, Env.ofArgs, List.nil_append, List.append_nil, utf_runes hX]
  have hr := runes_1 hX s hl (H.length + 3) (H ++ [.box [.int .i64 0], .box [.int .i64 0], .dfr false, .loop ⟨utfEnv H s, [8, 9], a_utf_Check_A0, a_utf_Check_L0, .ready, none, H.length + 2⟩])
    (fun k => H ++ [.box [.int .i64 k], .box [.int .i64 61], .dfr false, .loop ⟨utfEnv H s, [8, 9], a_utf_Check_A0, a_utf_Check_L0, .done, some .ret, H.length + 2⟩]) (by simp)
    (fun k c hc => by
      have hc' : ¬ c < 0 := by omega
      refine yield_by (L := ⟨utfEnv H s, [8, 9], a_utf_Check_A0, a_utf_Check_L0, .ready, none, H.length + 2⟩) (by simp) rfl rfl ?_
      simp [a_utf_Check_A0, a_utf_Check_L0, Env.puts, hc', endRoundA])
    (fun k => by
      refine yield_by (L := ⟨utfEnv H s, [8, 9], a_utf_Check_A0, a_utf_Check_L0, .ready, none, H.length + 2⟩) (by simp) rfl rfl ?_
      simp [a_utf_Check_A0, a_utf_Check_L0, Env.puts, endRoundA])
  by_cases ho : utfAt s = s.length
  · rw [if_pos ho] at hr
    refine YS_rangeF (H.length + 2) (H.length + 3) ⟨utfEnv H s, [8, 9], a_utf_Check_A0, a_utf_Check_L0, .ready, none, H.length + 2⟩ (by simp) rfl (g := n_utf_runes_1) (pre := []) (caps := [.fptr [.str s]]) (by simp) (by simpa using hr) (by simp) (by simp) ?_
    simp [jumpEx, FinR, FinP, finish, fz_osl, utfOk, ho]
  · rw [if_neg ho] at hr
    refine YS_rangeF (H.length + 2) (H.length + 3) ⟨utfEnv H s, [8, 9], a_utf_Check_A0, a_utf_Check_L0, .done, some .ret, H.length + 2⟩ (by simp) rfl (g := n_utf_runes_1) (pre := []) (caps := [.fptr [.str s]]) (by simp) (by simpa using hr) (by simp) (by simp) ?_
    simp [jumpEx, FinR, FinP, finish, fz_osl, utfOk, ho]
theorem value_letters (hX : CX X) (H : Heap) (s : List UInt8) (hl : (s.length : Int) ≤ 9223372036854775807) : callΩ X (.func n_value_letters [] []) [.str s] H = some (.int .i64 (textE s), H) := by
  refine c_value_letters hX (by simp) ?_
  by_cases ho : utfOk s = true
  · by_cases h2 : 16384 < s.length
    · have h3 : (16384 : Int) < s.length := by omega
      simp [a_value_letters_B, Env.ofArgs, List.nil_append, List.append_nil, utf_Check hX H s hl, ho, FinR, FinP, finish, fz_osl, textE, h2, h3]
    · have h3 : ¬ (16384 : Int) < s.length := by omega
      simp [a_value_letters_B, Env.ofArgs, List.nil_append, List.append_nil, utf_Check hX H s hl, ho, FinR, FinP, finish, fz_osl, textE, h2, h3]
  · simp [a_value_letters_B, Env.ofArgs, List.nil_append, List.append_nil, utf_Check hX H s hl, ho, FinR, FinP, finish, fz_osl, textE]
end
end Go.AM.T
/- Texts: the page's check of them. -/
namespace Go.AM.T
section
variable {X : Ctx}
def octs (n : Nat) : List UInt8 :=
  if n < 0x80 then [UInt8.ofNat n] else if n < 0x800 then [UInt8.ofNat (0xC0 + n / 64), UInt8.ofNat (0x80 + n % 64)] else
  if n < 0x10000 then [UInt8.ofNat (0xE0 + n / 4096), UInt8.ofNat (0x80 + n / 64 % 64), UInt8.ofNat (0x80 + n % 64)] else
  [UInt8.ofNat (0xF0 + n / 262144), UInt8.ofNat (0x80 + n / 4096 % 64), UInt8.ofNat (0x80 + n / 64 % 64), UInt8.ofNat (0x80 + n % 64)]
def mayN (n : Nat) : Bool := decide (n ≤ 0x10ffff) && (decide (n < 0xd800) || decide (0xdfff < n))
theorem ref_may (hX : CX X) (H : Heap) (n : Nat) : callΩ X (.func n_bolterref04_may [] []) [.int .i64 n] H = some (.bool (mayN n), H) := by
  refine c_bolterref04_may hX (by simp) ?_
  have e1 : ((n : Int) ≤ 1114111) = (n ≤ 1114111) := by apply propext; omega
  have e2 : ((n : Int) < 55296) = (n < 55296) := by apply propext; omega
  have e3 : ((57343 : Int) < n) = (57343 < n) := by apply propext; omega
  simp +contextual -implicitDefEqProofs [a_bolterref04_may_B, Env.ofArgs, List.nil_append, List.append_nil, FinR, FinP, finish, fz_osl, mayN, e1, e2, e3]
theorem bytesStr_strBytes : ∀ s : List UInt8, bytesStr (strBytes s) = some s
  | [] => rfl
  | b :: s => by
    have := bytesStr_strBytes s
    simp only [strBytes] at this
    simp [strBytes, bytesStr, this]
theorem strBytes_length (s : List UInt8) : (strBytes s).length = s.length := by simp [strBytes]
theorem ofNat_toNat {n : Nat} (h : n < 256) : (UInt8.ofNat n).toNat = n := by simp; omega

theorem ref_Octets (hX : CX X) (H : Heap) (n : Nat) (hn : n ≤ 0x10ffff) : callΩ X (.func n_bolterref04_Octets [] []) [.int .i64 n] H = some (.fsl (strBytes (octs n)) (octs n).length, H) := by
  refine c_bolterref04_Octets hX (by simp) ?_
  unfold octs
  by_cases h1 : n < 128
  · have h1' : (n : Int) < 128 := by omega
    simp (disch := omega) [a_bolterref04_Octets_B, Env.ofArgs, List.nil_append, List.append_nil, FinR, FinP, finish, fz_osl, h1', h1, wrap_u8, z12, strBytes, ofNat_toNat, -UInt8.toNat_ofNat']
  · have h1' : ¬ (n : Int) < 128 := by omega
    by_cases h2 : n < 2048
    · have h2' : (n : Int) < 2048 := by omega
      simp (disch := omega) [a_bolterref04_Octets_B, Env.ofArgs, List.nil_append, List.append_nil, FinR, FinP, finish, fz_osl, h1', h1, h2, h2', z13, wrap_u8, wrap_i64, Int.tdiv_eq_ediv_of_nonneg, Int.tmod_eq_emod_of_nonneg, strBytes]
      omega
    · have h2' : ¬ (n : Int) < 2048 := by omega
      by_cases h3 : n < 65536
      · have h3' : (n : Int) < 65536 := by omega
        simp (disch := omega) [a_bolterref04_Octets_B, Env.ofArgs, List.nil_append, List.append_nil, FinR, FinP, finish, fz_osl, h1', h1, h2, h2', h3, h3', z14, wrap_u8, wrap_i64, Int.tdiv_eq_ediv_of_nonneg, Int.tmod_eq_emod_of_nonneg, strBytes]
        omega
      · have h3' : ¬ (n : Int) < 65536 := by omega
        simp (disch := omega) [a_bolterref04_Octets_B, Env.ofArgs, List.nil_append, List.append_nil, FinR, FinP, finish, fz_osl, h1', h1, h2, h2', h3, h3', z15, wrap_u8, wrap_i64, Int.tdiv_eq_ediv_of_nonneg, Int.tmod_eq_emod_of_nonneg, strBytes]
        omega

/-- What First tells. -/
def FirstOk (s : List UInt8) (d : D) : Prop := ∃ c : Int, d = .tup [.int .i64 c, .int .i64 (dec1 s)]
theorem fst_bad {s : List UInt8} {c : Int} (h : dec1 s = 0) : FirstOk s (.tup [.int .i64 c, .int .i64 0]) := ⟨c, by rw [h]; rfl⟩
theorem u8_eq {a : UInt8} {n : Nat} (h : n < 256) : UInt8.ofNat n = a ↔ n = a.toNat := by
  constructor
  · rintro rfl; exact (ofNat_toNat h).symm
  · rintro rfl; simp

theorem oct2 {a b : UInt8} {m : Nat} (h : 192 ≤ a.toNat ∧ a.toNat < 224) (hm : m = (a.toNat - 192) * 64 + b.toNat % 64) : octs m = [a, b] ↔ 194 ≤ a.toNat ∧ 128 ≤ b.toNat ∧ b.toNat ≤ 191 := by
  have lb := u8_lt b
  unfold octs
  by_cases h1 : m < 128
  · rw [if_pos h1]; simp; omega
  · rw [if_neg h1, if_pos (by omega)]
    simp only [List.cons.injEq, and_true]
    rw [u8_eq (by omega), u8_eq (by omega)]
    omega
theorem oct3 {a b c : UInt8} {m : Nat} (h : 224 ≤ a.toNat ∧ a.toNat < 240) (hm : m = ((a.toNat - 224) * 64 + b.toNat % 64) * 64 + c.toNat % 64) : (mayN m = true ∧ octs m = [a, b, c]) ↔ ((if a.toNat = 0xE0 then 0xA0 else 0x80) ≤ b.toNat ∧ b.toNat ≤ (if a.toNat = 0xED then 0x9F else 0xBF)) ∧ cont c = true := by
  have lb := u8_lt b
  have lc := u8_lt c
  unfold octs mayN
  simp only [Bool.and_eq_true, Bool.or_eq_true, decide_eq_true_eq, cont_iff]
  by_cases h1 : m < 2048
  · have : (if m < 128 then [UInt8.ofNat m] else if m < 2048 then [UInt8.ofNat (192 + m / 64), UInt8.ofNat (128 + m % 64)] else if m < 65536 then [UInt8.ofNat (224 + m / 4096), UInt8.ofNat (128 + m / 64 % 64), UInt8.ofNat (128 + m % 64)] else [UInt8.ofNat (240 + m / 262144), UInt8.ofNat (128 + m / 4096 % 64), UInt8.ofNat (128 + m / 64 % 64), UInt8.ofNat (128 + m % 64)]) ≠ [a, b, c] := by
      split
      · simp
      · simp [h1]
    simp only [this, and_false, false_iff]
    split <;> split <;> omega
  · rw [if_neg (by omega), if_neg h1, if_pos (by omega)]
    simp only [List.cons.injEq, and_true]
    rw [u8_eq (by omega), u8_eq (by omega), u8_eq (by omega)]
    split <;> split <;> omega
theorem oct4 {a b c d : UInt8} {m : Nat} (h : 240 ≤ a.toNat) (hm : m = (((a.toNat - 240) * 64 + b.toNat % 64) * 64 + c.toNat % 64) * 64 + d.toNat % 64) : (mayN m = true ∧ octs m = [a, b, c, d]) ↔ a.toNat < 0xF5 ∧ ((if a.toNat = 0xF0 then 0x90 else 0x80) ≤ b.toNat ∧ b.toNat ≤ (if a.toNat = 0xF4 then 0x8F else 0xBF)) ∧ cont c = true ∧ cont d = true := by
  have la := u8_lt a
  have lb := u8_lt b
  have lc := u8_lt c
  have ld := u8_lt d
  unfold octs mayN
  simp only [Bool.and_eq_true, Bool.or_eq_true, decide_eq_true_eq, cont_iff]
  by_cases h1 : m < 65536
  · have : (if m < 128 then [UInt8.ofNat m] else if m < 2048 then [UInt8.ofNat (192 + m / 64), UInt8.ofNat (128 + m % 64)] else if m < 65536 then [UInt8.ofNat (224 + m / 4096), UInt8.ofNat (128 + m / 64 % 64), UInt8.ofNat (128 + m % 64)] else [UInt8.ofNat (240 + m / 262144), UInt8.ofNat (128 + m / 4096 % 64), UInt8.ofNat (128 + m / 64 % 64), UInt8.ofNat (128 + m % 64)]) ≠ [a, b, c, d] := by
      split
      · simp
      · split
        · simp
        · simp [h1]
    simp only [this, and_false, false_iff]
    split <;> split <;> omega
  · rw [if_neg (by omega), if_neg (by omega), if_neg h1]
    simp only [List.cons.injEq, and_true]
    by_cases h2 : m ≤ 1114111
    · rw [u8_eq (by omega), u8_eq (by omega), u8_eq (by omega), u8_eq (by omega)]
      split <;> split <;> omega
    · constructor
      · intro h; omega
      · intro h; exfalso
        revert h; split <;> split <;> omega

set_option maxHeartbeats 2000000 in
theorem ref_First (hX : CX X) (H : Heap) (s : List UInt8) : ∃ d H', callΩ X (.func n_bolterref04_First [] []) [.str s] H = some (d, H') ∧ (FirstOk s d ∧ H' = H) := by
  refine p_bolterref04_First hX (by simp) ?_
  cases s with
  | nil =>
    simp [a_bolterref04_First_B, Env.ofArgs, List.nil_append, List.append_nil, FinR, FinP, finish, fz_osl]
    exact fst_bad rfl
  | cons a r =>
  have la := u8_lt a
  have hr : ¬ (r.length : Int) + 1 < 1 := by omega
  have hr0 : ¬ (r.length : Int) + 1 = 0 := by omega
  by_cases c1 : a.toNat < 192
  · have g1 : ¬ (240 : Int) ≤ a.toNat := by omega
    have g2 : ¬ (224 : Int) ≤ a.toNat := by omega
    have g3 : ¬ (192 : Int) ≤ a.toNat := by omega
    have hm : mayN a.toNat = true := by simp [mayN]; omega
    have ho := ref_Octets hX H a.toNat (by omega)
    have ht : sliceStr (a :: r) none (some (.int .i64 1)) = some (.str [a]) := sliceStr_to (s := a :: r) (k := 1) (by simp)
    simp (disch := omega) [a_bolterref04_First_B, a_bolterref04_First_L0, YS_loopU, List.getElem?_cons_zero, Env.ofArgs, List.nil_append, List.append_nil, FinR, FinP, finish, fz_osl, wrap_i64, g1, g2, g3, hr, hr0, ref_may hX, hm, ho, elems, strBytes_length, bytesStr_strBytes, ht]
    by_cases c0 : a.toNat < 128
    · have e1 : octs a.toNat = [a] := by unfold octs; rw [if_pos c0]; simp
      have e2 : dec1 (a :: r) = 1 := by unfold dec1; simp only; rw [if_pos c0]
      rw [e1]
      simp [FirstOk, e2]
    · have e1 : octs a.toNat ≠ [a] := by unfold octs; rw [if_neg c0, if_pos (by omega)]; simp
      have e2 : dec1 (a :: r) = 0 := by unfold dec1; simp only; rw [if_neg c0, if_pos (by omega)]
      simp [FirstOk, e1, e2]
  · by_cases c2 : a.toNat < 224
    · have g1 : ¬ (240 : Int) ≤ a.toNat := by omega
      have g2 : ¬ (224 : Int) ≤ a.toNat := by omega
      have g3 : (192 : Int) ≤ a.toNat := by omega
      cases r with
      | nil =>
        simp (disch := omega) [a_bolterref04_First_B, List.getElem?_cons_zero, Env.ofArgs, List.nil_append, List.append_nil, FinR, FinP, finish, fz_osl, wrap_i64, g1, g2, g3]
        exact fst_bad (by unfold dec1; simp only; (repeat' split) <;> first | rfl | omega)
      | cons b r =>
      have lb := u8_lt b
      obtain ⟨m, hm⟩ : ∃ m : Nat, m = (a.toNat - 192) * 64 + b.toNat % 64 := ⟨_, rfl⟩
      have hm' : ((a.toNat : Int) - 192) * 64 + (b.toNat : Int) % 64 = m := by omega
      have hmay : mayN m = true := by simp [mayN]; omega
      have ho := ref_Octets hX H m (by omega)
      have ht : sliceStr (a :: b :: r) none (some (.int .i64 2)) = some (.str [a, b]) := sliceStr_to (s := a :: b :: r) (k := 2) (by simp)
      have hr2 : ¬ (r.length : Int) + 1 + 1 < 2 := by omega
      have hr3 : ¬ (r.length : Int) + 1 + 1 = 0 := by omega
      simp (disch := omega) [a_bolterref04_First_B, a_bolterref04_First_L0, YS_loopU, List.getElem?_cons_zero, List.getElem?_cons_succ, Env.ofArgs, List.nil_append, List.append_nil, FinR, FinP, finish, fz_osl, wrap_i64, Int.tmod_eq_emod_of_nonneg, g1, g2, g3, hr2, hr3, hm', ref_may hX, hmay, ho, elems, strBytes_length, bytesStr_strBytes, ht]
      have hd := dec1_two (a := a) (r := b :: r)
      have ho2 := oct2 (a := a) (b := b) (by omega) hm
      refine ⟨fun h => fst_bad ?_, fun h => ⟨(m : Int), ?_⟩⟩
      · by_cases c3 : 194 ≤ a.toNat
        · rw [hd (by omega)]
          simp only [ite_eq_right_iff, cont_iff]
          intro h'; exact absurd (ho2.2 ⟨c3, h'⟩) h
        · unfold dec1; simp only; rw [if_neg (by omega), if_pos (by omega)]
      · obtain ⟨q1, q2⟩ := ho2.1 h
        rw [hd (by omega)]
        simp only
        rw [if_pos (cont_iff.2 q2)]
        rfl
    · by_cases c3 : a.toNat < 240
      · have g1 : ¬ (240 : Int) ≤ a.toNat := by omega
        have g2 : (224 : Int) ≤ a.toNat := by omega
        have hd := fun r => dec1_three (a := a) (r := r) (by omega) rfl rfl
        cases r with
        | nil =>
          simp (disch := omega) [a_bolterref04_First_B, List.getElem?_cons_zero, Env.ofArgs, List.nil_append, List.append_nil, FinR, FinP, finish, fz_osl, wrap_i64, g1, g2]
          exact fst_bad (by rw [hd])
        | cons b r =>
        cases r with
        | nil =>
          simp (disch := omega) [a_bolterref04_First_B, List.getElem?_cons_zero, Env.ofArgs, List.nil_append, List.append_nil, FinR, FinP, finish, fz_osl, wrap_i64, g1, g2]
          exact fst_bad (by rw [hd])
        | cons c r =>
        have lb := u8_lt b
        have lc := u8_lt c
        obtain ⟨m, hm⟩ : ∃ m : Nat, m = ((a.toNat - 224) * 64 + b.toNat % 64) * 64 + c.toNat % 64 := ⟨_, rfl⟩
        have hm' : (((a.toNat : Int) - 224) * 64 + (b.toNat : Int) % 64) * 64 + (c.toNat : Int) % 64 = m := by omega
        have ht : sliceStr (a :: b :: c :: r) none (some (.int .i64 3)) = some (.str [a, b, c]) := sliceStr_to (s := a :: b :: c :: r) (k := 3) (by simp)
        have hr2 : ¬ (r.length : Int) + 1 + 1 + 1 < 3 := by omega
        have hr3 : ¬ (r.length : Int) + 1 + 1 + 1 = 0 := by omega
        have ho3 := oct3 (a := a) (b := b) (c := c) (by omega) hm
        have hd0 := hd (b :: c :: r)
        simp only at hd0
        cases hmay : mayN m with
        | false =>
          rw [if_neg (fun q => by have := (ho3.2 q).1; rw [hmay] at this; cases this)] at hd0
          simp (disch := omega) [a_bolterref04_First_B, a_bolterref04_First_L0, YS_loopU, List.getElem?_cons_zero, List.getElem?_cons_succ, Env.ofArgs, List.nil_append, List.append_nil, FinR, FinP, finish, fz_osl, wrap_i64, Int.tmod_eq_emod_of_nonneg, g1, g2, hr2, hr3, hm', ref_may hX, hmay]
          exact fst_bad hd0
        | true =>
          have ho := ref_Octets hX H m (by simp [mayN] at hmay; omega)
          simp (disch := omega) [a_bolterref04_First_B, a_bolterref04_First_L0, YS_loopU, List.getElem?_cons_zero, List.getElem?_cons_succ, Env.ofArgs, List.nil_append, List.append_nil, FinR, FinP, finish, fz_osl, wrap_i64, Int.tmod_eq_emod_of_nonneg, g1, g2, hr2, hr3, hm', ref_may hX, hmay, ho, elems, strBytes_length, bytesStr_strBytes, ht]
          refine ⟨fun h => fst_bad ?_, fun h => ⟨(m : Int), ?_⟩⟩
          · rw [if_neg (fun q => h (ho3.2 q).2)] at hd0; exact hd0
          · rw [if_pos (ho3.1 ⟨hmay, h⟩)] at hd0; rw [hd0]; rfl
      · have g1 : (240 : Int) ≤ a.toNat := by omega
        have hd5 : ¬ a.toNat < 0xF5 → ∀ r, dec1 (a :: r) = 0 := fun h r => by unfold dec1; simp only; rw [if_neg (by omega), if_neg (by omega), if_neg (by omega), if_neg (by omega), if_neg h]
        have hd := fun (h : a.toNat < 0xF5) r => dec1_four (a := a) (r := r) (by omega) rfl rfl
        have hs : ∀ r, (∀ b c d t, r ≠ b :: c :: d :: t) → dec1 (a :: r) = 0 := fun r hr => by
          by_cases h5 : a.toNat < 0xF5
          · rw [hd h5]
            split
            · rename_i b c d t; exact absurd rfl (hr b c d t)
            · rfl
          · exact hd5 h5 r
        cases r with
        | nil =>
          simp (disch := omega) [a_bolterref04_First_B, List.getElem?_cons_zero, Env.ofArgs, List.nil_append, List.append_nil, FinR, FinP, finish, fz_osl, wrap_i64, g1]
          exact fst_bad (hs _ (by simp))
        | cons b r =>
        cases r with
        | nil =>
          simp (disch := omega) [a_bolterref04_First_B, List.getElem?_cons_zero, Env.ofArgs, List.nil_append, List.append_nil, FinR, FinP, finish, fz_osl, wrap_i64, g1]
          exact fst_bad (hs _ (by simp))
        | cons c r =>
        cases r with
        | nil =>
          simp (disch := omega) [a_bolterref04_First_B, List.getElem?_cons_zero, Env.ofArgs, List.nil_append, List.append_nil, FinR, FinP, finish, fz_osl, wrap_i64, g1]
          exact fst_bad (hs _ (by simp))
        | cons d r =>
        have lb := u8_lt b
        have lc := u8_lt c
        have ld := u8_lt d
        obtain ⟨m, hm⟩ : ∃ m : Nat, m = (((a.toNat - 240) * 64 + b.toNat % 64) * 64 + c.toNat % 64) * 64 + d.toNat % 64 := ⟨_, rfl⟩
        have hm' : ((((a.toNat : Int) - 240) * 64 + (b.toNat : Int) % 64) * 64 + (c.toNat : Int) % 64) * 64 + (d.toNat : Int) % 64 = m := by omega
        have ht : sliceStr (a :: b :: c :: d :: r) none (some (.int .i64 4)) = some (.str [a, b, c, d]) := sliceStr_to (s := a :: b :: c :: d :: r) (k := 4) (by simp)
        have hr2 : ¬ (r.length : Int) + 1 + 1 + 1 + 1 < 4 := by omega
        have hr3 : ¬ (r.length : Int) + 1 + 1 + 1 + 1 = 0 := by omega
        have ho3 := oct4 (a := a) (b := b) (c := c) (d := d) (by omega) hm
        have hd0 : dec1 (a :: b :: c :: d :: r) = if mayN m = true ∧ octs m = [a, b, c, d] then 4 else 0 := by
          by_cases h5 : a.toNat < 0xF5
          · rw [hd h5]
            simp only [ho3, h5, true_and]
          · rw [hd5 h5, if_neg (fun q => h5 (ho3.1 q).1)]
        cases hmay : mayN m with
        | false =>
          rw [if_neg (fun q => by have := q.1; rw [hmay] at this; cases this)] at hd0
          simp (disch := omega) [a_bolterref04_First_B, a_bolterref04_First_L0, YS_loopU, List.getElem?_cons_zero, List.getElem?_cons_succ, Env.ofArgs, List.nil_append, List.append_nil, FinR, FinP, finish, fz_osl, wrap_i64, Int.tmod_eq_emod_of_nonneg, g1, hr2, hr3, hm', ref_may hX, hmay]
          exact fst_bad hd0
        | true =>
          have ho := ref_Octets hX H m (by simp [mayN] at hmay; omega)
          simp (disch := omega) [a_bolterref04_First_B, a_bolterref04_First_L0, YS_loopU, List.getElem?_cons_zero, List.getElem?_cons_succ, Env.ofArgs, List.nil_append, List.append_nil, FinR, FinP, finish, fz_osl, wrap_i64, Int.tmod_eq_emod_of_nonneg, g1, hr2, hr3, hm', ref_may hX, hmay, ho, elems, strBytes_length, bytesStr_strBytes, ht]
          refine ⟨fun h => fst_bad ?_, fun h => ⟨(m : Int), ?_⟩⟩
          · rw [if_neg (fun q => h q.2)] at hd0; exact hd0
          · rw [if_pos ⟨hmay, h⟩] at hd0; rw [hd0]; rfl

theorem ref_utfCheck (hX : CX X) (H : Heap) (s : List UInt8) (hl : (s.length : Int) ≤ 9223372036854775807) : callΩ X (.func n_bolterref04_Check [] []) [.str s] H = some (.tup [.int .i64 (utfAt s), .int .i64 (if utfOk s then 0 else 61)], H) := by
  refine c_bolterref04_Check hX (by simp) ?_
  simp [a_bolterref04_Check_B, Env.ofArgs, List.nil_append, List.append_nil]
  refine YS_ind (fun k e H' => H' = H ∧ k ≤ s.length ∧ e.get 0 = .str s ∧ e.get 4 = .int .i64 k ∧ utfAt s = k + utfAt (s.drop k)) (fun k => s.length - k) ?_ 0 (by simp)
  rintro k e H' ⟨rfl, hk, h0, h4, hd⟩ L ih
  by_cases h : k < s.length
  · obtain ⟨d, H2, g1, ⟨c, rfl⟩, rfl⟩ := ref_First hX H' (s.drop k)
    by_cases hz : dec1 (s.drop k) = 0
    · rw [utfAt_bad hz] at hd
      simp at hd
      have hne' : ¬ k = s.length := by omega
      simp [a_bolterref04_Check_L0, h0, h4, h, sliceStr_from (show k ≤ s.length by omega), g1, FinR, FinP, finish, fz_osl, hd, hz, utfOk, hne']
    · have hle := dec1_le (s.drop k)
      simp at hle
      rw [utfAt_step hz] at hd
      have hw : IntKind.i64.wrap ((k : Int) + (dec1 (s.drop k) : Nat)) = ((k + dec1 (s.drop k) : Nat) : Int) := by rw [wrap_i64 (by omega) (by omega)]; omega
      simp [a_bolterref04_Check_L0, h0, h4, h, sliceStr_from (show k ≤ s.length by omega), g1, hz, hw]
      refine ih (k + dec1 (s.drop k)) _ _ (by omega) ?_
      simp [h0, hd]
      omega
  · obtain rfl : k = s.length := by omega
    have hb : utfAt [] = 0 := utfAt_bad rfl
    simp [hb] at hd
    simp [a_bolterref04_Check_L0, h0, h4, FinR, FinP, finish, fz_osl, hd, utfOk]

theorem ref_text (hX : CX X) (H : Heap) (s : List UInt8) (hl : (s.length : Int) ≤ 9223372036854775807) : callΩ X (.func n_bolterref05_text [] []) [.str s] H = some (.int .i64 (textE s), H) := by
  refine c_bolterref05_text hX (by simp) ?_
  by_cases ho : utfOk s = true
  · by_cases h2 : 16384 < s.length
    · have h3 : (16384 : Int) < s.length := by omega
      simp [a_bolterref05_text_B, Env.ofArgs, List.nil_append, List.append_nil, ref_utfCheck hX H s hl, ho, FinR, FinP, finish, fz_osl, textE, h2, h3]
    · have h3 : ¬ (16384 : Int) < s.length := by omega
      simp [a_bolterref05_text_B, Env.ofArgs, List.nil_append, List.append_nil, ref_utfCheck hX H s hl, ho, FinR, FinP, finish, fz_osl, textE, h2, h3]
  · simp [a_bolterref05_text_B, Env.ofArgs, List.nil_append, List.append_nil, ref_utfCheck hX H s hl, ho, FinR, FinP, finish, fz_osl, textE]
end
end Go.AM.T
