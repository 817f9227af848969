/- Numbers that are read; values that are the same. -/
import Derived.Test.YtjcnlakifipmgaaGreatDoorWalkF
set_option linter.unusedVariables false
set_option linter.unusedSimpArgs false
set_option linter.unnecessarySimpa false
set_option maxRecDepth 100000
/- What instructions are held to. -/
namespace Go.AM.T
section
variable {X : Ctx}
/-- What a code that may be is held to. -/
structure Good (l : List Instr) : Prop where
  pos : 0 < l.length
  top : l.length ≤ 16384
  ops : ∀ i (h : i < l.length), 0 ≤ l[i].op ∧ l[i].op < 46
  go : ∀ i (h : i < l.length), l[i].op ∈ goesL → 0 ≤ l[i].a ∧ l[i].a < l.length
  next : ∀ i (h : i < l.length), l[i].op ∉ endsL → i + 1 < l.length
theorem instrsE_zero {n c : Nat} : ∀ {l : List Instr}, instrsE n c l = 0 → ∀ x ∈ l, (0 ≤ x.op ∧ x.op < 46) ∧ mayS x.op x.a x.b n c = true
  | [], _, x, hx => by simp at hx
  | y :: r, h, x, hx => by
    simp only [instrsE] at h
    split at h
    · cases h
    · rename_i h1
      split at h
      · cases h
      · rename_i h2
        rcases List.mem_cons.1 hx with rfl | hx
        · exact ⟨Decidable.not_not.1 h1, by simpa using h2⟩
        · exact instrsE_zero h x hx
theorem good_of {c : Code} (h : chkC c = 0) : Good c.instrs ∧ chksS c.consts = 0 ∧ c.consts.length ≤ 4096 ∧ instrsE c.instrs.length c.consts.length c.instrs = 0 := by
  unfold chkC at h
  split at h
  · cases h
  · rename_i h1
    split at h
    · cases h
    · rename_i h2
      split at h
      · rename_i h3; exact absurd h h3
      · rename_i h3
        split at h
        · rename_i h4; exact absurd h h4
        · rename_i h4
          split at h
          · rename_i h5
            have h3' := Decidable.not_not.1 h3
            have hall := instrsE_zero h3'
            refine ⟨⟨by omega, by omega, fun i hi => (hall _ (by simp)).1, fun i hi hg => ?_, fun i hi he => ?_⟩, Decidable.not_not.1 h4, by omega, h3'⟩
            · have hm := (hall (c.instrs[i]) (by simp)).2
              unfold mayS at hm
              have h16 : ¬ c.instrs[i].op = 16 := by intro q; rw [q] at hg; simp [goesL] at hg
              rw [if_neg h16] at hm
              simp only [Bool.and_eq_true, decide_eq_true_eq] at hm
              have hl : (limS c.instrs[i].op c.instrs.length c.consts.length).1 = (c.instrs.length : Int) - 1 := by
                unfold limS
                have h1 : ¬ c.instrs[i].op = 1 := by intro q; rw [q] at hg; simp [goesL] at hg
                rw [if_neg h1]
                split
                · rfl
                · rfl
              rw [hl] at hm
              omega
            · rw [lastOp_eq (by omega)] at h5
              by_cases q : i + 1 < c.instrs.length
              · exact q
              · have e : i = c.instrs.length - 1 := by omega
                subst e
                exact absurd h5 he
          · cases h
abbrev boolsD (l : List Bool) : List D := l.map D.bool
abbrev intsD (l : List Int) : List D := l.map (D.int .i64)
theorem append1 {b : Nat} {H : Heap} {id : Nat} {s rest : List Int} {y : Int} (h : H[id]? = some (.row 1 (intsD (s ++ rest)) false)) (hl : (s ++ rest).length ≤ 100000) :
    appendD b H 1 8 (.osl id (s ++ rest).length 0 s.length) [D.int .i64 y] 1 = some (.osl id (s ++ [y] ++ rest.tail).length 0 (s.length + 1), H.set id (.row 1 (intsD (s ++ [y] ++ rest.tail)) false)) := by
  have hl' := hl
  rw [List.length_append] at hl'
  cases rest with
  | nil =>
    have := appendD_full (b := b) (H := H) (id := id) (hw := (s ++ []).length) (es := 1) (bytes := 8) (m := 1) (ys := [D.int .i64 y]) (cs := intsD (s ++ [])) (nil := false) (n := s.length) h (by simp) (by simp) (by simp) (by unfold maxBytes; omega) (by unfold maxBytes; omega) storable_i (by omega)
    rw [this]; simp
  | cons r0 r =>
    simp only [appendD, h]
    rw [if_pos ⟨trivial, by simp, by simp, by simp, by unfold maxBytes; omega, by unfold maxBytes; omega, storable_i⟩, if_neg (by omega), if_neg (by simp), if_pos (by simp)]
    congr 3
    · simp
    · congr 2
      simp [splice, List.drop_append]
theorem copies_bool (n : Nat) : copies [D.bool false] n = boolsD (List.replicate n false) := by
  induction n with
  | zero => rfl
  | succ n ih => simp only [copies, ih, List.replicate_succ]; rfl
theorem set_bool {m : List Bool} {i : Nat} {x : Bool} (h : i < m.length) : List.take i (boolsD m) ++ D.bool x :: List.drop (i + 1) (boolsD m) = boolsD (m.set i x) := by
  have := splice_set (cs := boolsD m) (i := i) (x := .bool x) (by simpa using h)
  simpa using this

theorem Instr.u_a (x : Instr) (r : List D) : loadD false 1 (x.cells ++ r).tail = some (.int .i64 x.a) := by rw [Instr.cells_eq]; simp [loadD]
end
end Go.AM.T
/- Values but for how empty slices are written: what is checked is the same. -/
namespace Go.AM.T
section
variable {X : Ctx}
mutual
def nrm : Val → Val
  | .mk k n t _ l _ ks => .mk k (.mk n.neg .full n.coef n.exp) t .full (nrmL l) .full ks
def nrmL : List Val → List Val
  | [] => []
  | v :: r => (nrm v) :: nrmL r
end
theorem nrmL_eq : ∀ l : List Val, nrmL l = l.map nrm
  | [] => rfl
  | v :: r => by simp [nrmL, nrmL_eq r]
theorem nrm_eq (v : Val) : (nrm v) = .mk v.kind (.mk v.num.neg .full v.num.coef v.num.exp) v.text .full (v.list.map nrm) .full v.keys := by
  cases v; rw [nrm, nrmL_eq]; rfl
theorem nrm_kind (v : Val) : (nrm v).kind = v.kind := by rw [nrm_eq]; rfl
theorem nrm_num (v : Val) : (nrm v).num = .mk v.num.neg .full v.num.coef v.num.exp := by rw [nrm_eq]; rfl
theorem nrm_text (v : Val) : (nrm v).text = v.text := by rw [nrm_eq]; rfl
theorem nrm_list (v : Val) : (nrm v).list = v.list.map nrm := by rw [nrm_eq]; rfl
theorem nrm_keys (v : Val) : (nrm v).keys = v.keys := by rw [nrm_eq]; rfl
theorem deepS_nrm (v : Val) : ∀ left, deepS left (nrm v) = deepS left v := by
  induction v using Val.ind with
  | h v ih =>
    intro left
    rw [deepS_eq, deepS_eq left v, nrm_kind, nrm_list]
    have : ∀ l : List Val, (∀ x ∈ l, ∀ left, deepS left (nrm x) = deepS left x) → deepL (left - 1) (l.map nrm) = deepL (left - 1) l := fun l => by
      induction l with
      | nil => intro _; rfl
      | cons x r ihr => intro h; simp only [List.map_cons, deepL, h x (by simp), ihr fun y hy => h y (by simp [hy])]
    rw [this _ ih]
theorem sizeS_nrm (v : Val) : sizeS (nrm v) = sizeS v := by
  induction v using Val.ind with
  | h v ih =>
    rw [sizeS_eq, sizeS_eq v, nrm_list]
    have : ∀ (l : List Val) (n : Nat), (∀ x ∈ l, sizeS (nrm x) = sizeS x) → sizeL n (l.map nrm) = sizeL n l := fun l => by
      induction l with
      | nil => intro _ _; rfl
      | cons x r ihr => intro n h; simp only [List.map_cons, sizeL, h x (by simp), ihr _ fun y hy => h y (by simp [hy])]
    rw [this _ _ ih]
theorem ownS_nrm (v : Val) : ownS (nrm v) = ownS v := by
  unfold ownS numsS usedS decE
  rw [nrm_kind, nrm_num, nrm_text, nrm_list, nrm_keys]
  have e : decide (v.list.map nrm = []) = decide (v.list = []) := by simp
  rw [e, List.length_map]
  rfl
theorem allS_nrm (v : Val) : allS (nrm v) = allS v := by
  induction v using Val.ind with
  | h v ih =>
    rw [allS_eq, allS_eq v, nrm_list, ownS_nrm]
    have : ∀ (l : List Val), (∀ x ∈ l, allS (nrm x) = allS x) → allL (l.map nrm) = allL l := fun l => by
      induction l with
      | nil => intro _; rfl
      | cons x r ihr => intro h; simp only [List.map_cons, allL, h x (by simp), ihr fun y hy => h y (by simp [hy])]
    rw [this _ ih]
theorem chkS_nrm (v : Val) : chkS (nrm v) = chkS v := by unfold chkS; rw [deepS_nrm, sizeS_nrm, allS_nrm]
theorem chkS_of {v w : Val} (h : (nrm v) = (nrm w)) : chkS v = chkS w := by rw [← chkS_nrm v, h, chkS_nrm]
theorem chksS_zero : ∀ {l : List Val}, chksS l = 0 ↔ ∀ v ∈ l, chkS v = 0
  | [] => by simp [chksS]
  | v :: r => by
    simp only [chksS, List.mem_cons, forall_eq_or_imp, ← chksS_zero (l := r)]
    by_cases h : chkS v = 0 <;> simp [h]
theorem wf_nrm (v : Val) : (nrm v).wf ↔ v.wf := by
  induction v using Val.ind with
  | h v ih =>
    rw [Val.wf_iff, Val.wf_iff (v := v), nrm_num, nrm_text, nrm_list, nrm_keys]
    simp only [Dec.wf, Dec.coef, List.length_map, List.mem_map, forall_exists_index, and_imp, forall_apply_eq_imp_iff₂]
    have : (∀ x ∈ v.list, (nrm x).wf) ↔ ∀ x ∈ v.list, x.wf := ⟨fun h x hx => (ih x hx).1 (h x hx), fun h x hx => (ih x hx).2 (h x hx)⟩
    rw [this]
theorem wf_of {v w : Val} (h : (nrm v) = (nrm w)) (hw : w.wf) : v.wf := by rw [← wf_nrm, h, wf_nrm]; exact hw
open Classical in
noncomputable instance : DecidableEq Val := fun _ _ => Classical.propDecidable _
theorem nrm_iff {v w : Val} : (nrm v) = (nrm w) ↔ v.kind = w.kind ∧ v.num.neg = w.num.neg ∧ v.num.coef = w.num.coef ∧ v.num.exp = w.num.exp ∧ v.text = w.text ∧ v.list.map nrm = w.list.map nrm ∧ v.keys = w.keys := by
  rw [nrm_eq, nrm_eq w]; simp [and_assoc]
theorem mem_nrm {l r : List Val} (h : l.map nrm = r.map nrm) {v : Val} (hv : v ∈ l) : ∃ w ∈ r, (nrm v) = (nrm w) := by
  have : (nrm v) ∈ r.map nrm := by rw [← h]; exact List.mem_map_of_mem hv
  obtain ⟨w, h1, h2⟩ := List.mem_map.1 this
  exact ⟨w, h1, h2.symm⟩
/-! Instructions turned by themselves. -/
theorem instrsE_all {n c : Nat} : ∀ {l : List Instr}, instrsE n c l = 0 ↔ ∀ x ∈ l, (0 ≤ x.op ∧ x.op < 46) ∧ mayS x.op x.a x.b n c = true
  | [] => by simp [instrsE]
  | y :: r => by
    simp only [instrsE, List.mem_cons, forall_eq_or_imp, ← instrsE_all (l := r)]
    split
    · rename_i h; simp [h]
    · rename_i h
      split
      · rename_i h2; simp [h2]
      · rename_i h2; simp [h2, Decidable.not_not.1 h]
theorem mayS_goes {op a b : Int} {n c : Nat} (h : op ∈ goesL) : mayS op a b n c = (decide (0 ≤ a ∧ a ≤ (n : Int) - 1) && decide (0 ≤ b ∧ b ≤ (limS op n c).2)) := by
  unfold mayS
  have h16 : ¬ op = 16 := by intro q; rw [q] at h; simp [goesL] at h
  have h1 : ¬ op = 1 := by intro q; rw [q] at h; simp [goesL] at h
  rw [if_neg h16]
  have hl : (limS op n c).1 = (n : Int) - 1 := by
    unfold limS
    rw [if_neg h1]
    split <;> rfl
  rw [hl]
theorem chkC_zero {c : Code} : chkC c = 0 ↔ c.instrs.length ≤ 16384 ∧ c.consts.length ≤ 4096 ∧ 0 < c.instrs.length ∧ (∀ x ∈ c.instrs, (0 ≤ x.op ∧ x.op < 46) ∧ mayS x.op x.a x.b c.instrs.length c.consts.length = true) ∧ (∀ v ∈ c.consts, chkS v = 0) ∧ lastOp c.instrs ∈ endsL := by
  rw [← instrsE_all, ← chksS_zero]
  unfold chkC
  by_cases h1 : 16384 < c.instrs.length ∨ 4096 < c.consts.length
  · rw [if_pos h1]; constructor
    · intro h; cases h
    · omega
  · rw [if_neg h1]
    by_cases h2 : c.instrs.length = 0
    · rw [if_pos h2]; constructor
      · intro h; cases h
      · omega
    · rw [if_neg h2]
      by_cases h3 : instrsE c.instrs.length c.consts.length c.instrs = 0
      · by_cases h4 : chksS c.consts = 0
        · by_cases h5 : lastOp c.instrs ∈ endsL
          · simp [h3, h4, h5]; omega
          · simp [h3, h4, h5]
        · simp [h3, h4]
      · simp [h3]
end
end Go.AM.T
/- Are two values one: the page's answer. -/
namespace Go.AM.T
section
variable {X : Ctx}
theorem take_next {α : Type} {a b : List α} {k : Nat} (ha : k < a.length) (hb : k < b.length) (h : a.take k = b.take k) (he : a[k] = b[k]) : a.take (k + 1) = b.take (k + 1) := by
  rw [List.take_succ_eq_append_getElem ha, List.take_succ_eq_append_getElem hb, h, he]
theorem take_all {α : Type} {a b : List α} {k : Nat} (ha : a.length = k) (hb : b.length = k) (h : a.take k = b.take k) : a = b := by
  rwa [List.take_of_length_le (by omega), List.take_of_length_le (by omega)] at h
theorem ne_at {α : Type} {a b : List α} {k : Nat} (ha : k < a.length) (hb : k < b.length) (he : a[k] ≠ b[k]) : ¬ a = b := fun q => by subst q; exact he rfl
theorem ref02_Same (hX : CX X) (H : Heap) (x y : Dec) (hx : (x.coef.length : Int) ≤ 9223372036854775807) : callΩ X (.func n_bolterref02_Same [] []) [.agg x.cells, .agg y.cells] H = some (.bool (decide (x.neg = y.neg ∧ x.coef = y.coef ∧ x.exp = y.exp)), H) := by
  refine c_bolterref02_Same hX (by simp) ?_
  by_cases h1 : x.neg = y.neg
  · by_cases h2 : x.exp = y.exp
    · by_cases h3 : x.coef.length = y.coef.length
      · simp [a_bolterref02_Same_B, Env.ofArgs, List.nil_append, List.append_nil, h1, h2, h3]
        refine YS_ind (fun k e H' => H' = H ∧ k ≤ y.coef.length ∧ e.get 2 = .fptr x.cells ∧ e.get 3 = .fptr y.cells ∧ e.get 5 = .int .i64 k ∧ x.coef.take k = y.coef.take k) (fun k => y.coef.length - k) ?_ 0 (by simp)
        rintro k e H' ⟨rfl, hk, g2, g3, g5, hd⟩ L ih
        by_cases h : k < y.coef.length
        · have h' : (k : Int) < y.coef.length := by omega
          have hkx : k < x.coef.length := by omega
          have l1 : loadD false 1 (List.drop k (x.coef.map (D.int .u32))) = some (.int .u32 x.coef[k]) := loadD_map hkx
          have l2 : loadD false 1 (List.drop k (y.coef.map (D.int .u32))) = some (.int .u32 y.coef[k]) := loadD_map h
          have w1 : IntKind.i64.wrap ((k : Int) + 1) = (k : Int) + 1 := wrap_i64 (by omega) (by omega)
          by_cases he : x.coef[k] = y.coef[k]
          · simp [a_bolterref02_Same_L0, g2, g3, g5, h3, h, h', l1, l2, he, w1]
            refine ih (k + 1) _ _ (by omega) ?_
            simp [g2, g3]
            exact ⟨by omega, take_next hkx h hd he⟩
          · have hne := ne_at hkx h he
            simp [a_bolterref02_Same_L0, FinR, FinP, finish, fz_osl, g2, g3, g5, h3, h, h', l1, l2, he, hne]
        · have hk2 : k = y.coef.length := by omega
          have heq := take_all (by omega) hk2.symm hd
          subst hk2
          simp [a_bolterref02_Same_L0, FinR, FinP, finish, fz_osl, g2, g3, g5, h3, heq]
      · have hne : ¬ x.coef = y.coef := fun q => h3 (by rw [q])
        have h3' : ¬ (x.coef.length : Int) = y.coef.length := by omega
        simp [a_bolterref02_Same_B, Env.ofArgs, List.nil_append, List.append_nil, FinR, FinP, finish, fz_osl, h1, h2, h3, h3', hne]
    · simp [a_bolterref02_Same_B, Env.ofArgs, List.nil_append, List.append_nil, FinR, FinP, finish, fz_osl, h1, h2]
  · have hb : (x.neg == y.neg) = false := by simp [h1]
    simp [a_bolterref02_Same_B, Env.ofArgs, List.nil_append, List.append_nil, FinR, FinP, finish, fz_osl, h1, hb]
theorem ref05_Same (hX : CX X) : ∀ (v w : Val) (H : Heap), v.wf → callΩ X (.func n_bolterref05_Same [] []) [.agg v.cells, .agg w.cells] H = some (.bool (decide (nrm v = nrm w)), H) := by
  intro v
  induction v using Val.ind with
  | h v ihv =>
  intro w H hw
  obtain ⟨hw1, hw2, hw3, hw4, hw5, hw6⟩ := Val.wf_iff.1 hw
  refine c_bolterref05_Same hX (by simp) ?_
  have hr : (decide (nrm v = nrm w)) = decide (v.kind = w.kind ∧ (v.num.neg = w.num.neg ∧ v.num.coef = w.num.coef ∧ v.num.exp = w.num.exp) ∧ v.text = w.text ∧ v.list.map nrm = w.list.map nrm ∧ v.keys = w.keys) := by
    rw [decide_eq_decide, nrm_iff]; simp only [and_assoc]
  rw [hr]
  have hdec := fun H => ref02_Same hX H v.num w.num hw1.2
  by_cases h1 : v.kind = w.kind
  · by_cases h2 : v.num.neg = w.num.neg ∧ v.num.coef = w.num.coef ∧ v.num.exp = w.num.exp
    · rw [decide_eq_true h2] at hdec
      by_cases h3 : v.text = w.text
      · by_cases h4 : v.list.length = w.list.length
        · by_cases h5 : v.keys.length = w.keys.length
          · simp [a_bolterref05_Same_B, Env.ofArgs, List.nil_append, List.append_nil, h1, hdec, h3, h4, h5]
            refine YS_ind (fun k e H' => H' = H ∧ k ≤ w.keys.length ∧ e.get 2 = .fptr v.cells ∧ e.get 3 = .fptr w.cells ∧ e.get 5 = .int .i64 k ∧ v.keys.take k = w.keys.take k) (fun k => w.keys.length - k) ?_ 0 (by simp)
            rintro k e H' ⟨rfl, hk, g2, g3, g5, hd⟩ L ih
            by_cases h : k < w.keys.length
            · have h' : (k : Int) < w.keys.length := by omega
              have hkx : k < v.keys.length := by omega
              have l1 : loadD false 1 (List.drop k (v.keys.map D.str)) = some (.str v.keys[k]) := loadD_map hkx
              have l2 : loadD false 1 (List.drop k (w.keys.map D.str)) = some (.str w.keys[k]) := loadD_map h
              have w1 : IntKind.i64.wrap ((k : Int) + 1) = (k : Int) + 1 := wrap_i64 (by omega) (by omega)
              by_cases he : v.keys[k] = w.keys[k]
              · simp [a_bolterref05_Same_L0, g2, g3, g5, h5, h, h', l1, l2, he, w1]
                refine ih (k + 1) _ _ (by omega) ?_
                simp [g2, g3]
                exact ⟨by omega, take_next hkx h hd he⟩
              · have hne := ne_at hkx h he
                simp [a_bolterref05_Same_L0, FinR, FinP, finish, fz_osl, g2, g3, g5, h5, h, h', l1, l2, he, hne]
            · have hk2 : k = w.keys.length := by omega
              have heq := take_all (by omega) hk2.symm hd
              subst hk2
              simp [a_bolterref05_Same_L0, g2, g3, g5, h5]
              clear ih
              refine YS_ind (fun k e H2 => H2 = H' ∧ k ≤ w.list.length ∧ e.get 2 = .fptr v.cells ∧ e.get 3 = .fptr w.cells ∧ e.get 6 = .int .i64 k ∧ (v.list.map nrm).take k = (w.list.map nrm).take k) (fun k => w.list.length - k) ?_ 0 (by simp [g2, g3])
              clear g2 g3 g5 hd hk
              rintro k e H2 ⟨rfl, hk, g2, g3, g6, hd⟩ L ih
              by_cases h : k < w.list.length
              · have h' : (k : Int) < w.list.length := by omega
                have hkx : k < v.list.length := by omega
                have w1 : IntKind.i64.wrap ((k : Int) + 1) = (k : Int) + 1 := wrap_i64 (by omega) (by omega)
                have hc := fun H => ihv v.list[k] (by simp) w.list[k] H (hw6 _ (by simp))
                by_cases he : nrm v.list[k] = nrm w.list[k]
                · simp [a_bolterref05_Same_L1, g2, g3, g6, h4, h, h', hkx, Val.cellsL_drop h, Val.cellsL_drop hkx, hc, he, w1]
                  refine ih (k + 1) _ _ (by omega) ?_
                  simp [g2, g3]
                  exact ⟨by omega, by have := take_next (a := v.list.map nrm) (b := w.list.map nrm) (by simpa using hkx) (by simpa using h) hd (by simpa using he); simpa using this⟩
                · have hne := ne_at (a := v.list.map nrm) (b := w.list.map nrm) (by simpa using hkx) (by simpa using h) (by simpa using he)
                  simp [a_bolterref05_Same_L1, FinR, FinP, finish, fz_osl, g2, g3, g6, h4, h, h', hkx, Val.cellsL_drop h, Val.cellsL_drop hkx, hc, he, hne]
              · have hk2 : k = w.list.length := by omega
                have heq2 := take_all (a := v.list.map nrm) (b := w.list.map nrm) (by simp; omega) (by simp; exact hk2.symm) hd
                subst hk2
                simp [a_bolterref05_Same_L1, FinR, FinP, finish, fz_osl, g2, g3, g6, h1, h2, h3, h4, heq, heq2]
          · have hne : ¬ v.keys = w.keys := fun q => h5 (by rw [q])
            have h5' : ¬ (v.keys.length : Int) = w.keys.length := by omega
            simp [a_bolterref05_Same_B, Env.ofArgs, List.nil_append, List.append_nil, FinR, FinP, finish, fz_osl, h1, hdec, h3, h4, h5, h5', hne]
        · have hne : ¬ v.list.map nrm = w.list.map nrm := fun q => h4 (by simpa using congrArg List.length q)
          have h4' : ¬ (v.list.length : Int) = w.list.length := by omega
          simp [a_bolterref05_Same_B, Env.ofArgs, List.nil_append, List.append_nil, FinR, FinP, finish, fz_osl, h1, hdec, h3, h4, h4', hne]
      · simp [a_bolterref05_Same_B, Env.ofArgs, List.nil_append, List.append_nil, FinR, FinP, finish, fz_osl, h1, hdec, h3]
    · rw [decide_eq_false h2] at hdec
      simp [a_bolterref05_Same_B, Env.ofArgs, List.nil_append, List.append_nil, FinR, FinP, finish, fz_osl, h1, hdec, h2]
  · simp [a_bolterref05_Same_B, Env.ofArgs, List.nil_append, List.append_nil, FinR, FinP, finish, fz_osl, h1]
end
end Go.AM.T
/- Are two values one: the program's answer. -/
namespace Go.AM.T
section
variable {X : Ctx}
theorem slices_Equal_uint32_uint32 (hX : CX X) (H : Heap) (f g : Nl) (l r : List (Int)) (hl : (l.length : Int) ≤ 9223372036854775807) :
    callΩ X (.func n_slices_Equal_uint32_uint32 [] []) [SL f (l.map (D.int .u32)) l.length, SL g (r.map (D.int .u32)) r.length] H = some (.bool (decide (l = r)), H) := by
  refine c_slices_Equal_uint32_uint32 hX (by simp) ?_
  by_cases h4 : l.length = r.length
  · simp [a_slices_Equal_uint32_uint32_B, Env.ofArgs, List.nil_append, List.append_nil, h4]
    refine YS_ind (fun k e H2 => H2 = H ∧ k ≤ r.length ∧ e.get 0 = SL f (l.map (D.int .u32)) r.length ∧ e.get 1 = SL g (r.map (D.int .u32)) r.length ∧ e.get 12 = .int .i64 r.length ∧ e.get 13 = .int .i64 k ∧ l.take k = r.take k) (fun k => r.length - k) ?_ 0 (by simp [h4])
    rintro k e H2 ⟨rfl, hk, g0, g1, g12, g13, hd⟩ L ih
    by_cases h : k < r.length
    · have h' : (k : Int) < r.length := by omega
      have hkx : k < l.length := by omega
      have w1 : IntKind.i64.wrap ((k : Int) + 1) = (k : Int) + 1 := wrap_i64 (by omega) (by omega)
      have l1 : loadD false 1 (List.drop k (l.map (D.int .u32))) = some ((D.int .u32) l[k]) := loadD_map hkx
      have l2 : loadD false 1 (List.drop k (r.map (D.int .u32))) = some ((D.int .u32) r[k]) := loadD_map h
      by_cases he : l[k] = r[k]
      · simp [a_slices_Equal_uint32_uint32_L0, g0, g1, g12, g13, h, h', hkx, l1, l2, he, w1]
        refine ih (k + 1) _ _ (by omega) ?_
        simp [g0, g1, g12]
        exact ⟨by omega, take_next hkx h hd he⟩
      · have hne := ne_at hkx h he
        simp [a_slices_Equal_uint32_uint32_L0, FinR, FinP, finish, fz_osl, g0, g1, g12, g13, h, h', hkx, l1, l2, he, hne]
    · have hk2 : k = r.length := by omega
      have heq2 := take_all (by omega) hk2.symm hd
      subst hk2
      simp [a_slices_Equal_uint32_uint32_L0, FinR, FinP, finish, fz_osl, g0, g1, g12, g13, heq2]
  · have hne : ¬ l = r := fun q => h4 (by rw [q])
    have h4' : ¬ (l.length : Int) = r.length := by omega
    simp [a_slices_Equal_uint32_uint32_B, Env.ofArgs, List.nil_append, List.append_nil, FinR, FinP, finish, fz_osl, h4, h4', hne]

theorem slices_Equal_string_string (hX : CX X) (H : Heap) (f g : Nl) (l r : List (List UInt8)) (hl : (l.length : Int) ≤ 9223372036854775807) :
    callΩ X (.func n_slices_Equal_string_string [] []) [SL f (l.map (D.str)) l.length, SL g (r.map (D.str)) r.length] H = some (.bool (decide (l = r)), H) := by
  refine c_slices_Equal_string_string hX (by simp) ?_
  by_cases h4 : l.length = r.length
  · simp [a_slices_Equal_string_string_B, Env.ofArgs, List.nil_append, List.append_nil, h4]
    refine YS_ind (fun k e H2 => H2 = H ∧ k ≤ r.length ∧ e.get 0 = SL f (l.map (D.str)) r.length ∧ e.get 1 = SL g (r.map (D.str)) r.length ∧ e.get 12 = .int .i64 r.length ∧ e.get 13 = .int .i64 k ∧ l.take k = r.take k) (fun k => r.length - k) ?_ 0 (by simp [h4])
    rintro k e H2 ⟨rfl, hk, g0, g1, g12, g13, hd⟩ L ih
    by_cases h : k < r.length
    · have h' : (k : Int) < r.length := by omega
      have hkx : k < l.length := by omega
      have w1 : IntKind.i64.wrap ((k : Int) + 1) = (k : Int) + 1 := wrap_i64 (by omega) (by omega)
      have l1 : loadD false 1 (List.drop k (l.map (D.str))) = some ((D.str) l[k]) := loadD_map hkx
      have l2 : loadD false 1 (List.drop k (r.map (D.str))) = some ((D.str) r[k]) := loadD_map h
      by_cases he : l[k] = r[k]
      · simp [a_slices_Equal_string_string_L0, g0, g1, g12, g13, h, h', hkx, l1, l2, he, w1]
        refine ih (k + 1) _ _ (by omega) ?_
        simp [g0, g1, g12]
        exact ⟨by omega, take_next hkx h hd he⟩
      · have hne := ne_at hkx h he
        simp [a_slices_Equal_string_string_L0, FinR, FinP, finish, fz_osl, g0, g1, g12, g13, h, h', hkx, l1, l2, he, hne]
    · have hk2 : k = r.length := by omega
      have heq2 := take_all (by omega) hk2.symm hd
      subst hk2
      simp [a_slices_Equal_string_string_L0, FinR, FinP, finish, fz_osl, g0, g1, g12, g13, heq2]
  · have hne : ¬ l = r := fun q => h4 (by rw [q])
    have h4' : ¬ (l.length : Int) = r.length := by omega
    simp [a_slices_Equal_string_string_B, Env.ofArgs, List.nil_append, List.append_nil, FinR, FinP, finish, fz_osl, h4, h4', hne]

theorem value_Same (hX : CX X) : ∀ (v w : Val) (H : Heap), v.wf → callΩ X (.func n_value_Same [] []) [.agg v.cells, .agg w.cells] H = some (.bool (decide (nrm v = nrm w)), H) := by
  intro v
  induction v using Val.ind with
  | h v ihv =>
  intro w H hw
  obtain ⟨hw1, hw2, hw3, hw4, hw5, hw6⟩ := Val.wf_iff.1 hw
  have hr : (decide (nrm v = nrm w)) = decide (v.kind = w.kind ∧ v.text = w.text ∧ v.num.neg = w.num.neg ∧ v.num.exp = w.num.exp ∧ v.num.coef = w.num.coef ∧ v.keys = w.keys ∧ v.list.map nrm = w.list.map nrm) := by
    rw [decide_eq_decide, nrm_iff]
    constructor
    · rintro ⟨a, b, c, d, e, f, g⟩; exact ⟨a, e, b, d, c, g, f⟩
    · rintro ⟨a, b, c, d, e, f, g⟩; exact ⟨a, c, e, d, b, g, f⟩
  rw [hr]
  have e1 := fun H => slices_Equal_uint32_uint32 hX H v.num.coefF w.num.coefF v.num.coef w.num.coef hw1.2
  have e2 := fun H => slices_Equal_string_string hX H v.keysF w.keysF v.keys w.keys hw4
  have e3 : ∀ H, callΩ X (.func n_slices_EqualFunc_api_Value_api_Value_api_Value_api_Value [] []) [SL v.listF (Val.cellsL v.list) v.list.length, SL w.listF (Val.cellsL w.list) w.list.length, .func n_value_Same [] []] H = some (.bool (decide (v.list.map nrm = w.list.map nrm)), H) := by
    intro H
    refine c_slices_EqualFunc_api_Value_api_Value_api_Value_api_Value hX (by simp) ?_
    by_cases h4 : v.list.length = w.list.length
    · simp [a_slices_EqualFunc_api_Value_api_Value_api_Value_api_Value_B, Env.ofArgs, List.nil_append, List.append_nil, h4]
      refine YS_ind (fun k e H2 => H2 = H ∧ k ≤ w.list.length ∧ e.get 1 = SL w.listF (Val.cellsL w.list) w.list.length ∧ e.get 2 = .func n_value_Same [] [] ∧ e.get 15 = SL v.listF (Val.cellsL v.list) w.list.length ∧ e.get 16 = .int .i64 w.list.length ∧ e.get 17 = .int .i64 k ∧ (v.list.map nrm).take k = (w.list.map nrm).take k) (fun k => w.list.length - k) ?_ 0 (by simp)
      rintro k e H2 ⟨rfl, hk, g1, g2, g15, g16, g17, hd⟩ L ih
      by_cases h : k < w.list.length
      · have h' : (k : Int) < w.list.length := by omega
        have hkx : k < v.list.length := by omega
        have w1 : IntKind.i64.wrap ((k : Int) + 1) = (k : Int) + 1 := wrap_i64 (by omega) (by omega)
        have hc := fun H => ihv v.list[k] (by simp) w.list[k] H (hw6 _ (by simp))
        by_cases he : nrm v.list[k] = nrm w.list[k]
        · simp [a_slices_EqualFunc_api_Value_api_Value_api_Value_api_Value_L0, g1, g2, g15, g16, g17, h, h', hkx, Val.cellsL_drop h, Val.cellsL_drop hkx, hc, he, w1]
          refine ih (k + 1) _ _ (by omega) ?_
          simp [g1, g2, g15, g16]
          exact ⟨by omega, by have := take_next (a := v.list.map nrm) (b := w.list.map nrm) (by simpa using hkx) (by simpa using h) hd (by simpa using he); simpa using this⟩
        · have hne := ne_at (a := v.list.map nrm) (b := w.list.map nrm) (by simpa using hkx) (by simpa using h) (by simpa using he)
          simp [a_slices_EqualFunc_api_Value_api_Value_api_Value_api_Value_L0, FinR, FinP, finish, fz_osl, g1, g2, g15, g16, g17, h, h', hkx, Val.cellsL_drop h, Val.cellsL_drop hkx, hc, he, hne]
      · have hk2 : k = w.list.length := by omega
        have heq2 := take_all (a := v.list.map nrm) (b := w.list.map nrm) (by simp; omega) (by simp; exact hk2.symm) hd
        subst hk2
        simp [a_slices_EqualFunc_api_Value_api_Value_api_Value_api_Value_L0, FinR, FinP, finish, fz_osl, g1, g2, g15, g16, g17, heq2]
    · have hne : ¬ v.list.map nrm = w.list.map nrm := fun q => h4 (by simpa using congrArg List.length q)
      have h4' : ¬ (v.list.length : Int) = w.list.length := by omega
      simp [a_slices_EqualFunc_api_Value_api_Value_api_Value_api_Value_B, Env.ofArgs, List.nil_append, List.append_nil, FinR, FinP, finish, fz_osl, h4, h4', hne]
  refine c_value_Same hX (by simp) ?_
  by_cases h1 : v.kind = w.kind
  · by_cases h2 : v.text = w.text
    · by_cases h3 : v.num.neg = w.num.neg
      · by_cases h4 : v.num.exp = w.num.exp
        · by_cases h5 : v.num.coef = w.num.coef
          · rw [decide_eq_true h5, h5] at e1
            by_cases h6 : v.keys = w.keys
            · rw [decide_eq_true h6, h6] at e2
              simp [a_value_Same_B, Env.ofArgs, List.nil_append, List.append_nil, FinR, FinP, finish, fz_osl, h1, h2, h3, h4, h5, h6, e1, e2, e3]
            · rw [decide_eq_false h6] at e2
              simp [a_value_Same_B, Env.ofArgs, List.nil_append, List.append_nil, FinR, FinP, finish, fz_osl, h1, h2, h3, h4, h5, h6, e1, e2]
          · rw [decide_eq_false h5] at e1
            simp [a_value_Same_B, Env.ofArgs, List.nil_append, List.append_nil, FinR, FinP, finish, fz_osl, h1, h2, h3, h4, h5, e1]
        · simp [a_value_Same_B, Env.ofArgs, List.nil_append, List.append_nil, FinR, FinP, finish, fz_osl, h1, h2, h3, h4]
      · have hb : (v.num.neg == w.num.neg) = false := by simp [h3]
        simp [a_value_Same_B, Env.ofArgs, List.nil_append, List.append_nil, FinR, FinP, finish, fz_osl, h1, h2, h3, hb]
    · simp [a_value_Same_B, Env.ofArgs, List.nil_append, List.append_nil, FinR, FinP, finish, fz_osl, h1, h2]
  · simp [a_value_Same_B, Env.ofArgs, List.nil_append, List.append_nil, FinR, FinP, finish, fz_osl, h1]
end
end Go.AM.T
