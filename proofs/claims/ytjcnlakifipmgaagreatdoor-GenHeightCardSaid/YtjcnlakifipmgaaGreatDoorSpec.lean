/- What values, texts and numbers are held to. -/
import Derived.Test.YtjcnlakifipmgaaGreatDoorAmK
set_option linter.unusedVariables false
set_option linter.unusedSimpArgs false
set_option linter.unnecessarySimpa false
set_option maxRecDepth 100000
/- What the checks of values are, in plain terms. -/
namespace Go.AM
mutual
/-- How deep a value is, as far as is counted. -/
def deepS : Nat → Val → Nat
  | left, .mk k _ _ _ l _ _ => if (k ≠ 5 ∧ k ≠ 6) ∨ left = 0 then 0 else deepL (left - 1) l + 1
def deepL : Nat → List Val → Nat
  | _, [] => 0
  | left, v :: r => max (deepS left v) (deepL left r)
end
theorem deepS_eq (left : Nat) (v : Val) : deepS left v = if (v.kind ≠ 5 ∧ v.kind ≠ 6) ∨ left = 0 then 0 else deepL (left - 1) v.list + 1 := by
  cases v; rw [deepS]; rfl
theorem deepS_le : ∀ (n : Nat) (v : Val), deepS n v ≤ n ∧ ∀ l : List Val, (∀ x ∈ l, deepS n x ≤ n) → deepL n l ≤ n := by
  intro n
  induction n with
  | zero =>
    intro v
    refine ⟨by rw [deepS_eq]; simp, fun l h => ?_⟩
    induction l with
    | nil => simp [deepL]
    | cons x r ih => simp only [deepL]; exact Nat.max_le.2 ⟨h x (by simp), ih fun y hy => h y (by simp [hy])⟩
  | succ n ih =>
    have key : ∀ l : List Val, deepL n l ≤ n := fun l => by
      induction l with
      | nil => simp [deepL]
      | cons x r ihl => simp only [deepL]; exact Nat.max_le.2 ⟨(ih x).1, ihl⟩
    intro v
    refine ⟨?_, fun l h => ?_⟩
    · rw [deepS_eq]; have := key v.list; split <;> simp <;> omega
    · induction l with
      | nil => simp [deepL]
      | cons x r ih => simp only [deepL]; exact Nat.max_le.2 ⟨h x (by simp), ih fun y hy => h y (by simp [hy])⟩
mutual
/-- How many values there are. -/
def sizeS : Val → Nat
  | .mk _ _ _ _ l _ _ => min (sizeL 1 l) 1048576
def sizeL : Nat → List Val → Nat
  | n, [] => n
  | n, v :: r => if 1048576 ≤ n then n else sizeL (n + sizeS v) r
end
theorem sizeS_eq (v : Val) : sizeS v = min (sizeL 1 v.list) 1048576 := by cases v; rw [sizeS]; rfl
theorem sizeS_le (v : Val) : sizeS v ≤ 1048576 := by rw [sizeS_eq]; omega

def orE (a b : Int) : Int := if a ≠ 0 then a else b

/-- How many octets the character has that a text begins with; 0: it begins with none. -/
def cont (b : UInt8) : Bool := decide (0x80 ≤ b.toNat ∧ b.toNat ≤ 0xBF)
def dec1 : List UInt8 → Nat
  | [] => 0
  | a :: r =>
    if a.toNat < 0x80 then 1 else if a.toNat < 0xC2 then 0 else
    if a.toNat < 0xE0 then (match r with | b :: _ => if cont b then 2 else 0 | _ => 0) else
    if a.toNat < 0xF0 then (match r with | b :: c :: _ => if (if a.toNat = 0xE0 then decide (0xA0 ≤ b.toNat ∧ b.toNat ≤ 0xBF) else if a.toNat = 0xED then decide (0x80 ≤ b.toNat ∧ b.toNat ≤ 0x9F) else cont b) && cont c then 3 else 0 | _ => 0) else
    if a.toNat < 0xF5 then (match r with | b :: c :: d :: _ => if (if a.toNat = 0xF0 then decide (0x90 ≤ b.toNat ∧ b.toNat ≤ 0xBF) else if a.toNat = 0xF4 then decide (0x80 ≤ b.toNat ∧ b.toNat ≤ 0x8F) else cont b) && (cont c && cont d) then 4 else 0 | _ => 0) else 0
theorem dec1_le (s : List UInt8) : dec1 s ≤ s.length := by
  unfold dec1
  repeat' split
  all_goals simp
  all_goals (try split) <;> omega
/-- Where a text is none; its end if it is one. -/
def utfAt (s : List UInt8) : Nat :=
  if h : dec1 s = 0 then 0 else dec1 s + utfAt (s.drop (dec1 s))
termination_by s.length
decreasing_by have := dec1_le s; simp only [List.length_drop]; omega
theorem utfAt_le (s : List UInt8) : utfAt s ≤ s.length := by
  induction h : s.length using Nat.strongRecOn generalizing s with
  | ind n ih =>
    rw [utfAt]
    have h1 := dec1_le s
    split
    · omega
    · have := ih (s.drop (dec1 s)).length (by simp only [List.length_drop]; omega) _ rfl
      simp only [List.length_drop] at this
      omega
def utfOk (s : List UInt8) : Bool := decide (utfAt s = s.length)
def textE (s : List UInt8) : Int := if utfOk s then (if s.length > 16384 then 5 else 0) else 61
def textsE : Int → List (List UInt8) → Int
  | e, [] => e
  | e, s :: r => textsE (orE e (textE s)) r
theorem textsE_bad {e : Int} (h : e ≠ 0) : ∀ l, textsE e l = e
  | [] => rfl
  | s :: r => by simp [textsE, orE, h, textsE_bad h r]
def bytesLt (a b : List UInt8) : Bool := Op.bytesLess a b
def risesS : List (List UInt8) → Bool
  | [] => true
  | [_] => true
  | a :: b :: r => !(Op.bytesLess b a || b == a) && risesS (b :: r)

/-- A number, the lowest limb first. -/
def limbs : List Int → Nat
  | [] => 0
  | x :: r => x.toNat + 4294967296 * limbs r
/-- How many decimal digits a number has; 0 has none. -/
def digs (n : Nat) : Nat := if h : n = 0 then 0 else digs (n / 10) + 1
def natE (l : List Int) : Int := if l.length > 256 then 5 else if l.getLast? = some 0 then 9 else 0
def decE (d : Dec) : Int :=
  if natE d.coef ≠ 0 ∨ d.coef.length > 40 then 9 else
  if d.coef = [] then (if d.neg = true ∨ d.exp ≠ 0 then 9 else 0) else
  if limbs d.coef % 10 = 0 ∨ digs (limbs d.coef) > 300 ∨ d.exp < -1000 ∨ d.exp > 1000 then 9 else 0
def numsS (v : Val) : Bool := if v.kind = 3 then decide (decE v.num = 0) else !v.num.neg && decide (v.num.coef = []) && decide (v.num.exp = 0)
def usedS (v : Val) : Bool := (decide (v.kind = 4) || decide (v.text = [])) && ((decide (v.kind ≥ 5) || decide (v.list = [])) && decide (v.keys.length = if v.kind = 6 then v.list.length else 0))
def ownS (v : Val) : Int :=
  if v.kind < 0 ∨ v.kind > 6 then 23 else
  if textsE (textE v.text) v.keys ≠ 0 then textsE (textE v.text) v.keys else
  if max v.list.length v.keys.length > 4096 then 5 else
  if (numsS v && (usedS v && risesS v.keys)) = true then 0 else 9
mutual
def allS : Val → Int
  | .mk k num t lf l kf ks => if ownS (.mk k num t lf l kf ks) ≠ 0 then ownS (.mk k num t lf l kf ks) else allL l
def allL : List Val → Int
  | [] => 0
  | v :: r => if allS v ≠ 0 then allS v else allL r
end
theorem allS_eq (v : Val) : allS v = if ownS v ≠ 0 then ownS v else allL v.list := by cases v; rw [allS]; rfl
def chkS (v : Val) : Int := if deepS 1000 v > 64 then 42 else if sizeS v > 16384 then 3 else allS v
def chksS : List Val → Int
  | [] => 0
  | v :: r => if chkS v ≠ 0 then chkS v else chksS r

/-- What comes in fits its places. -/
def Dec.wf (d : Dec) : Prop := (∀ x ∈ d.coef, 0 ≤ x ∧ x < 4294967296) ∧ (d.coef.length : Int) ≤ 9223372036854775807
mutual
def Val.wf : Val → Prop
  | .mk k num t lf l kf ks => num.wf ∧ (t.length : Int) ≤ 9223372036854775807 ∧ (l.length : Int) ≤ 9223372036854775807 ∧ (ks.length : Int) ≤ 9223372036854775807 ∧ (∀ s ∈ ks, (s.length : Int) ≤ 9223372036854775807) ∧ Val.wfL l
def Val.wfL : List Val → Prop
  | [] => True
  | v :: r => v.wf ∧ Val.wfL r
end
theorem Val.wfL_iff : ∀ {l : List Val}, Val.wfL l ↔ ∀ v ∈ l, v.wf
  | [] => by simp [Val.wfL]
  | v :: r => by simp [Val.wfL, Val.wfL_iff (l := r)]
theorem Val.wf_iff {v : Val} : v.wf ↔ v.num.wf ∧ (v.text.length : Int) ≤ 9223372036854775807 ∧ (v.list.length : Int) ≤ 9223372036854775807 ∧ (v.keys.length : Int) ≤ 9223372036854775807 ∧ (∀ s ∈ v.keys, (s.length : Int) ≤ 9223372036854775807) ∧ ∀ x ∈ v.list, x.wf := by
  cases v; rw [Val.wf, Val.wfL_iff]; rfl
mutual
/-- Nothing is written in the third way. -/
def nE : Val → Prop
  | .mk _ n _ lf l kf _ => n.coefF ≠ .emp ∧ lf ≠ .emp ∧ kf ≠ .emp ∧ nEL l
def nEL : List Val → Prop
  | [] => True
  | v :: r => nE v ∧ nEL r
end
theorem nEL_iff : ∀ {l : List Val}, nEL l ↔ ∀ v ∈ l, nE v
  | [] => by simp [nEL]
  | v :: r => by simp [nEL, nEL_iff (l := r)]
theorem nE_iff {v : Val} : nE v ↔ v.num.coefF ≠ .emp ∧ v.listF ≠ .emp ∧ v.keysF ≠ .emp ∧ ∀ x ∈ v.list, nE x := by
  cases v; rw [nE, nEL_iff]; rfl
end Go.AM
/- Limbs and digits, in plain terms. -/
namespace Go.AM
def U32 (l : List Int) : Prop := ∀ x ∈ l, 0 ≤ x ∧ x < 4294967296
theorem U32.tail {x : Int} {l : List Int} (h : U32 (x :: l)) : U32 l := fun y hy => h y (List.mem_cons_of_mem _ hy)
theorem U32.head {x : Int} {l : List Int} (h : U32 (x :: l)) : 0 ≤ x ∧ x < 4294967296 := h x (by simp)
theorem U32.drop {l : List Int} (h : U32 l) (k : Nat) : U32 (l.drop k) := fun x hx => h x (List.mem_of_mem_drop hx)
theorem U32.take {l : List Int} (h : U32 l) (k : Nat) : U32 (l.take k) := fun x hx => h x (List.mem_of_mem_take hx)
theorem U32.get {l : List Int} (h : U32 l) {k : Nat} (hk : k < l.length) : 0 ≤ l[k] ∧ l[k] < 4294967296 := h _ (by simp)

/-- Divided by a limb, from the top. -/
def divL : List Int → Nat → List Int × Nat
  | [], _ => ([], 0)
  | x :: r, y => (((((divL r y).2 * 4294967296 + x.toNat) / y : Nat) : Int) :: (divL r y).1, ((divL r y).2 * 4294967296 + x.toNat) % y)
theorem divL_lt {l : List Int} {y : Nat} (hy : 0 < y) : (divL l y).2 < y := by
  cases l with
  | nil => exact hy
  | cons x r => exact Nat.mod_lt _ hy
theorem divL_len : ∀ (l : List Int) (y : Nat), (divL l y).1.length = l.length
  | [], _ => rfl
  | x :: r, y => by simp [divL, divL_len r y]
theorem limb_lt {x : Int} (h : 0 ≤ x ∧ x < 4294967296) : x.toNat < 4294967296 := by omega
theorem divL_u32 : ∀ {l : List Int} {y : Nat}, 0 < y → U32 l → U32 (divL l y).1
  | [], _, _, _ => by simp [divL, U32]
  | x :: r, y, hy, h => by
    intro z hz
    rcases List.mem_cons.1 hz with rfl | hz
    · have h1 := divL_lt (l := r) hy
      have h2 := limb_lt h.head
      have : ((divL r y).2 * 4294967296 + x.toNat) / y < 4294967296 := by
        rw [Nat.div_lt_iff_lt_mul hy]
        have : ((divL r y).2 + 1) * 4294967296 ≤ y * 4294967296 := Nat.mul_le_mul_right _ h1
        omega
      exact ⟨Int.natCast_nonneg _, Int.ofNat_lt.2 this⟩
    · exact divL_u32 hy h.tail z hz
theorem divL_val : ∀ {l : List Int} {y : Nat}, 0 < y → U32 l → limbs l = limbs (divL l y).1 * y + (divL l y).2
  | [], _, _, _ => by simp [divL, limbs]
  | x :: r, y, hy, h => by
    have ih := divL_val hy h.tail
    simp only [divL, limbs]
    have e := Nat.div_add_mod ((divL r y).2 * 4294967296 + x.toNat) y
    rw [Int.toNat_natCast, ih]
    generalize ((divL r y).2 * 4294967296 + x.toNat) / y = a at *
    generalize ((divL r y).2 * 4294967296 + x.toNat) % y = c at *
    generalize limbs (divL r y).1 = q at *
    rw [Nat.add_mul, Nat.mul_comm y a] at *
    have : 4294967296 * (q * y + (divL r y).2) = 4294967296 * q * y + (divL r y).2 * 4294967296 := by rw [Nat.mul_add, Nat.mul_assoc]; omega
    omega
theorem divL_div {l : List Int} {y : Nat} (hy : 0 < y) (h : U32 l) : limbs (divL l y).1 = limbs l / y := by
  rw [divL_val hy h, Nat.mul_comm, Nat.mul_add_div hy, Nat.div_eq_of_lt (divL_lt hy)]; rfl
theorem divL_mod {l : List Int} {y : Nat} (hy : 0 < y) (h : U32 l) : (divL l y).2 = limbs l % y := by
  rw [divL_val hy h, Nat.mul_comm, Nat.mul_add_mod, Nat.mod_eq_of_lt (divL_lt hy)]
theorem divL_drop {l : List Int} {y k : Nat} (h : k < l.length) : divL (l.drop k) y = (((((divL (l.drop (k + 1)) y).2 * 4294967296 + l[k].toNat) / y : Nat) : Int) :: (divL (l.drop (k + 1)) y).1, ((divL (l.drop (k + 1)) y).2 * 4294967296 + l[k].toNat) % y) := by
  rw [List.drop_eq_getElem_cons h, divL]

/-- How much of limbs stays without 0 at the end. -/
def tlen (l : List Int) : Nat → Nat
  | 0 => 0
  | n + 1 => if l[n]? = some 0 then tlen l n else n + 1
theorem tlen_le (l : List Int) : ∀ n, tlen l n ≤ n
  | 0 => by simp [tlen]
  | n + 1 => by
    have := tlen_le l n
    simp only [tlen]; split <;> omega
theorem limbs_append : ∀ (a b : List Int), limbs (a ++ b) = limbs a + 4294967296 ^ a.length * limbs b
  | [], b => by simp [limbs]
  | x :: a, b => by
    simp only [List.cons_append, limbs, limbs_append a b, List.length_cons, Nat.pow_succ]
    rw [Nat.mul_add, ← Nat.mul_assoc, Nat.mul_comm 4294967296 (4294967296 ^ a.length)]; omega
theorem tlen_val {l : List Int} : ∀ {n}, n ≤ l.length → limbs (l.take (tlen l n)) = limbs (l.take n)
  | 0, _ => rfl
  | n + 1, h => by
    simp only [tlen]
    split
    · rename_i h0
      rw [tlen_val (by omega)]
      have hn : n < l.length := by omega
      rw [List.getElem?_eq_getElem hn] at h0
      rw [← List.take_append_getElem hn, limbs_append]
      have : l[n] = 0 := by simpa using h0
      simp [limbs, this]
    · rfl
theorem tlen_pos {l : List Int} (hu : U32 l) : ∀ {n}, n ≤ l.length → (tlen l n = 0 ↔ limbs (l.take n) = 0)
  | 0, _ => by simp [tlen, limbs]
  | n + 1, h => by
    have hn : n < l.length := by omega
    simp only [tlen]
    rw [List.getElem?_eq_getElem hn, ← List.take_append_getElem hn, limbs_append]
    split
    · rename_i h0
      have : l[n] = 0 := by simpa using h0
      rw [tlen_pos hu (by omega)]
      simp [limbs, this]
    · rename_i h0
      have h1 : l[n] ≠ 0 := by simpa using h0
      have h2 := hu.get hn
      simp only [Nat.add_eq_zero_iff, Nat.succ_ne_zero, and_false, false_iff, not_and, limbs]
      intro _ h3
      have h4 : 0 < 4294967296 ^ (l.take n).length := Nat.pow_pos (by decide)
      have h5 : 0 < l[n].toNat := by omega
      have := Nat.mul_pos h4 (Nat.lt_of_lt_of_le h5 (Nat.le_add_right _ (4294967296 * 0)))
      omega
theorem tlen_last {l : List Int} : ∀ {n}, n ≤ l.length → ∀ {m}, tlen l n = m + 1 → l[m]? ≠ some 0
  | 0, _, m, h => by simp [tlen] at h
  | n + 1, hn, m, h => by
    simp only [tlen] at h
    split at h
    · exact tlen_last (by omega) h
    · rename_i h0
      obtain rfl : n = m := by omega
      exact h0
theorem limbs_lt : ∀ {l : List Int}, U32 l → limbs l < 4294967296 ^ l.length
  | [], _ => by simp [limbs]
  | x :: r, h => by
    have ih := limbs_lt h.tail
    have h1 := limb_lt h.head
    simp only [limbs, List.length_cons, Nat.pow_succ]
    have : (limbs r + 1) * 4294967296 ≤ 4294967296 ^ r.length * 4294967296 := Nat.mul_le_mul_right _ ih
    omega
theorem limbs_pos {l : List Int} (hu : U32 l) (hne : l ≠ []) (hl : l.getLast? ≠ some 0) : 0 < limbs l := by
  have hlen : 0 < l.length := List.length_pos_iff.2 hne
  have hk : l.length - 1 < l.length := by omega
  rw [List.getLast?_eq_getElem?, List.getElem?_eq_getElem hk] at hl
  have h2 := hu.get hk
  have e : l = l.take (l.length - 1) ++ [l[l.length - 1]] := by
    rw [List.take_append_getElem hk, List.take_of_length_le (by omega)]
  rw [e, limbs_append]
  have h3 : l[l.length - 1] ≠ 0 := by simpa using hl
  have h4 : 0 < 4294967296 ^ (l.take (l.length - 1)).length := Nat.pow_pos (by decide)
  have h5 : 0 < limbs [l[l.length - 1]] := by simp [limbs]; omega
  have := Nat.mul_pos h4 h5
  omega

/-- A number's digits, the lowest first. -/
def digL (n : Nat) : List Nat := if h : n = 0 then [] else n % 10 :: digL (n / 10)
theorem digL_zero : digL 0 = [] := by rw [digL]; rfl
theorem digL_pos {n : Nat} (h : n ≠ 0) : digL n = n % 10 :: digL (n / 10) := by rw [digL, dif_neg h]
theorem digs_zero : digs 0 = 0 := by rw [digs]; rfl
theorem digs_pos {n : Nat} (h : n ≠ 0) : digs n = digs (n / 10) + 1 := by rw [digs, dif_neg h]
theorem digL_len (n : Nat) : (digL n).length = digs n := by
  induction n using Nat.strongRecOn with
  | ind n ih =>
    by_cases h : n = 0
    · subst h; rw [digL_zero, digs_zero]; rfl
    · rw [digL_pos h, digs_pos h, List.length_cons, ih _ (by omega)]
theorem digL_lt {n : Nat} : ∀ d ∈ digL n, d < 10 := by
  induction n using Nat.strongRecOn with
  | ind n ih =>
    by_cases h : n = 0
    · subst h; rw [digL_zero]; simp
    · rw [digL_pos h]
      intro d hd
      rcases List.mem_cons.1 hd with rfl | hd
      · omega
      · exact ih _ (by omega) d hd
theorem digs_lt {n k : Nat} (h : n < 10 ^ k) : digs n ≤ k := by
  induction k generalizing n with
  | zero => obtain rfl : n = 0 := by simpa using h
            rw [digs_zero]; omega
  | succ k ih =>
    by_cases h0 : n = 0
    · subst h0; rw [digs_zero]; omega
    · rw [digs_pos h0]
      have := ih (n := n / 10) (by rw [Nat.pow_succ] at h; omega)
      omega
theorem digs_nine {q r : Nat} (hq : 0 < q) (hr : r < 1000000000) : digs (q * 1000000000 + r) = digs q + 9 := by
  have key : ∀ (k q r : Nat), 0 < q → r < 10 ^ k → digs (q * 10 ^ k + r) = digs q + k := by
    intro k
    induction k with
    | zero => intro q r _ h; obtain rfl : r = 0 := by simpa using h
              simp
    | succ k ih =>
      intro q r hq h
      have h1 : 0 < q * 10 ^ (k + 1) := Nat.mul_pos hq (Nat.pow_pos (by decide))
      rw [digs_pos (by omega)]
      have e : (q * 10 ^ (k + 1) + r) / 10 = q * 10 ^ k + r / 10 := by
        rw [Nat.pow_succ, ← Nat.mul_assoc]; omega
      rw [e, ih q (r / 10) hq (by rw [Nat.pow_succ] at h; omega)]
      omega
  exact key 9 q r hq hr
theorem pow_bound (k : Nat) : (4294967296 : Nat) ^ k ≤ 10 ^ (10 * k) := by
  rw [Nat.pow_mul]; exact Nat.pow_le_pow_left (by decide) k
end Go.AM
