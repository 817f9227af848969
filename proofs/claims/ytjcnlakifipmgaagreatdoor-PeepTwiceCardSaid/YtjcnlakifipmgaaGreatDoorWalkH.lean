/- Threading, in plain terms. -/
import Derived.Test.YtjcnlakifipmgaaGreatDoorWalkF
import Derived.Test.YtjcnlakifipmgaaGreatDoorWalkG
set_option linter.unusedVariables false
set_option linter.unusedSimpArgs false
set_option linter.unnecessarySimpa false
set_option maxRecDepth 100000
/- Values but for how empty slices are written: what is checked is the same. -/
namespace Go.AM.T
section
variable {X : Ctx}
mutual
def nrm : Val → Val
  | .mk k n t _ l _ ks => .mk k (.mk n.neg .full n.coef n.exp) t .full (nrmL l) .full ks
def nrmL : List Val → List Val
  | [] => []
  | v :: r => (nrm v) :: nrmL r
end
theorem nrmL_eq : ∀ l : List Val, nrmL l = l.map nrm
  | [] => rfl
  | v :: r => by simp [nrmL, nrmL_eq r]
theorem nrm_eq (v : Val) : (nrm v) = .mk v.kind (.mk v.num.neg .full v.num.coef v.num.exp) v.text .full (v.list.map nrm) .full v.keys := by
  cases v; rw [nrm, nrmL_eq]; rfl
theorem nrm_kind (v : Val) : (nrm v).kind = v.kind := by rw [nrm_eq]; rfl
theorem nrm_num (v : Val) : (nrm v).num = .mk v.num.neg .full v.num.coef v.num.exp := by rw [nrm_eq]; rfl
theorem nrm_text (v : Val) : (nrm v).text = v.text := by rw [nrm_eq]; rfl
theorem nrm_list (v : Val) : (nrm v).list = v.list.map nrm := by rw [nrm_eq]; rfl
theorem nrm_keys (v : Val) : (nrm v).keys = v.keys := by rw [nrm_eq]; rfl
theorem deepS_nrm (v : Val) : ∀ left, deepS left (nrm v) = deepS left v := by
  induction v using Val.ind with
  | h v ih =>
    intro left
    rw [deepS_eq, deepS_eq left v, nrm_kind, nrm_list]
    have : ∀ l : List Val, (∀ x ∈ l, ∀ left, deepS left (nrm x) = deepS left x) → deepL (left - 1) (l.map nrm) = deepL (left - 1) l := fun l => by
      induction l with
      | nil => intro _; rfl
      | cons x r ihr => intro h; simp only [List.map_cons, deepL, h x (by simp), ihr fun y hy => h y (by simp [hy])]
    rw [this _ ih]
theorem sizeS_nrm (v : Val) : sizeS (nrm v) = sizeS v := by
  induction v using Val.ind with
  | h v ih =>
    rw [sizeS_eq, sizeS_eq v, nrm_list]
    have : ∀ (l : List Val) (n : Nat), (∀ x ∈ l, sizeS (nrm x) = sizeS x) → sizeL n (l.map nrm) = sizeL n l := fun l => by
      induction l with
      | nil => intro _ _; rfl
      | cons x r ihr => intro n h; simp only [List.map_cons, sizeL, h x (by simp), ihr _ fun y hy => h y (by simp [hy])]
    rw [this _ _ ih]
theorem ownS_nrm (v : Val) : ownS (nrm v) = ownS v := by
  unfold ownS numsS usedS decE
  rw [nrm_kind, nrm_num, nrm_text, nrm_list, nrm_keys]
  have e : decide (v.list.map nrm = []) = decide (v.list = []) := by simp
  rw [e, List.length_map]
  rfl
theorem allS_nrm (v : Val) : allS (nrm v) = allS v := by
  induction v using Val.ind with
  | h v ih =>
    rw [allS_eq, allS_eq v, nrm_list, ownS_nrm]
    have : ∀ (l : List Val), (∀ x ∈ l, allS (nrm x) = allS x) → allL (l.map nrm) = allL l := fun l => by
      induction l with
      | nil => intro _; rfl
      | cons x r ihr => intro h; simp only [List.map_cons, allL, h x (by simp), ihr fun y hy => h y (by simp [hy])]
    rw [this _ ih]
theorem chkS_nrm (v : Val) : chkS (nrm v) = chkS v := by unfold chkS; rw [deepS_nrm, sizeS_nrm, allS_nrm]
theorem chkS_of {v w : Val} (h : (nrm v) = (nrm w)) : chkS v = chkS w := by rw [← chkS_nrm v, h, chkS_nrm]
theorem chksS_zero : ∀ {l : List Val}, chksS l = 0 ↔ ∀ v ∈ l, chkS v = 0
  | [] => by simp [chksS]
  | v :: r => by
    simp only [chksS, List.mem_cons, forall_eq_or_imp, ← chksS_zero (l := r)]
    by_cases h : chkS v = 0 <;> simp [h]
theorem wf_nrm (v : Val) : (nrm v).wf ↔ v.wf := by
  induction v using Val.ind with
  | h v ih =>
    rw [Val.wf_iff, Val.wf_iff (v := v), nrm_num, nrm_text, nrm_list, nrm_keys]
    simp only [Dec.wf, Dec.coef, List.length_map, List.mem_map, forall_exists_index, and_imp, forall_apply_eq_imp_iff₂]
    have : (∀ x ∈ v.list, (nrm x).wf) ↔ ∀ x ∈ v.list, x.wf := ⟨fun h x hx => (ih x hx).1 (h x hx), fun h x hx => (ih x hx).2 (h x hx)⟩
    rw [this]
theorem wf_of {v w : Val} (h : (nrm v) = (nrm w)) (hw : w.wf) : v.wf := by rw [← wf_nrm, h, wf_nrm]; exact hw
open Classical in
noncomputable instance : DecidableEq Val := fun _ _ => Classical.propDecidable _
theorem nrm_iff {v w : Val} : (nrm v) = (nrm w) ↔ v.kind = w.kind ∧ v.num.neg = w.num.neg ∧ v.num.coef = w.num.coef ∧ v.num.exp = w.num.exp ∧ v.text = w.text ∧ v.list.map nrm = w.list.map nrm ∧ v.keys = w.keys := by
  rw [nrm_eq, nrm_eq w]; simp [and_assoc]
theorem mem_nrm {l r : List Val} (h : l.map nrm = r.map nrm) {v : Val} (hv : v ∈ l) : ∃ w ∈ r, (nrm v) = (nrm w) := by
  have : (nrm v) ∈ r.map nrm := by rw [← h]; exact List.mem_map_of_mem hv
  obtain ⟨w, h1, h2⟩ := List.mem_map.1 this
  exact ⟨w, h1, h2.symm⟩
/-! Instructions turned by themselves. -/
theorem instrsE_all {n c : Nat} : ∀ {l : List Instr}, instrsE n c l = 0 ↔ ∀ x ∈ l, (0 ≤ x.op ∧ x.op < 46) ∧ mayS x.op x.a x.b n c = true
  | [] => by simp [instrsE]
  | y :: r => by
    simp only [instrsE, List.mem_cons, forall_eq_or_imp, ← instrsE_all (l := r)]
    split
    · rename_i h; simp [h]
    · rename_i h
      split
      · rename_i h2; simp [h2]
      · rename_i h2; simp [h2, Decidable.not_not.1 h]
theorem mayS_goes {op a b : Int} {n c : Nat} (h : op ∈ goesL) : mayS op a b n c = (decide (0 ≤ a ∧ a ≤ (n : Int) - 1) && decide (0 ≤ b ∧ b ≤ (limS op n c).2)) := by
  unfold mayS
  have h16 : ¬ op = 16 := by intro q; rw [q] at h; simp [goesL] at h
  have h1 : ¬ op = 1 := by intro q; rw [q] at h; simp [goesL] at h
  rw [if_neg h16]
  have hl : (limS op n c).1 = (n : Int) - 1 := by
    unfold limS
    rw [if_neg h1]
    split <;> rfl
  rw [hl]
theorem chkC_zero {c : Code} : chkC c = 0 ↔ c.instrs.length ≤ 16384 ∧ c.consts.length ≤ 4096 ∧ 0 < c.instrs.length ∧ (∀ x ∈ c.instrs, (0 ≤ x.op ∧ x.op < 46) ∧ mayS x.op x.a x.b c.instrs.length c.consts.length = true) ∧ (∀ v ∈ c.consts, chkS v = 0) ∧ lastOp c.instrs ∈ endsL := by
  rw [← instrsE_all, ← chksS_zero]
  unfold chkC
  by_cases h1 : 16384 < c.instrs.length ∨ 4096 < c.consts.length
  · rw [if_pos h1]; constructor
    · intro h; cases h
    · omega
  · rw [if_neg h1]
    by_cases h2 : c.instrs.length = 0
    · rw [if_pos h2]; constructor
      · intro h; cases h
      · omega
    · rw [if_neg h2]
      by_cases h3 : instrsE c.instrs.length c.consts.length c.instrs = 0
      · by_cases h4 : chksS c.consts = 0
        · by_cases h5 : lastOp c.instrs ∈ endsL
          · simp [h3, h4, h5]; omega
          · simp [h3, h4, h5]
        · simp [h3, h4]
      · simp [h3]
end
end Go.AM.T
/- Threading, in plain terms: done twice it is as done once. -/
namespace Go.AM.T
section
variable {X : Ctx}
def noM (l : List Instr) : List Bool := List.replicate l.length false
def thrI (l : List Instr) (x : Instr) : Instr := if x.op ∈ goesL then .mk x.op (landS l (noM l) x.a.toNat) x.b else x
def thr (l : List Instr) : List Instr := l.map (thrI l)
theorem thrI_op (l : List Instr) (x : Instr) : (thrI l x).op = x.op := by unfold thrI; split <;> rfl
theorem thrI_b (l : List Instr) (x : Instr) : (thrI l x).b = x.b := by unfold thrI; split <;> rfl
theorem thrI_go {l : List Instr} {x : Instr} (h : x.op ∈ goesL) : (thrI l x).a = landS l (noM l) x.a.toNat := by unfold thrI; rw [if_pos h]; rfl
theorem thrI_no {l : List Instr} {x : Instr} (h : x.op ∉ goesL) : thrI l x = x := by unfold thrI; rw [if_neg h]
theorem thr_len (l : List Instr) : (thr l).length = l.length := by simp [thr]
theorem thr_get (l : List Instr) {i : Nat} (h : i < (thr l).length) : (thr l)[i] = thrI l (l[i]'(by simpa [thr] using h)) := by simp [thr]
theorem landS_lt {l : List Instr} (hg : Good l) (m : List Bool) (i : Nat) (hi : i < l.length) : landS l m i < l.length := by
  induction m, i using landS.induct l with
  | case1 m i h h2 ih =>
    rw [landS, dif_pos h, if_pos h2]
    have := hg.go i h.1 (by rw [h2.1]; simp [goesL])
    exact ih (by omega)
  | case2 m i h h2 => rw [landS, dif_pos h, if_neg h2]; exact hi
  | case3 m i h => rw [landS, dif_neg h]; exact hi
theorem lastOp_thr (l : List Instr) : lastOp (thr l) = lastOp l := by
  unfold lastOp thr
  rw [List.getLast?_map]
  cases l.getLast? with
  | none => rfl
  | some x => exact thrI_op l x
theorem Good.thr {l : List Instr} (hg : Good l) : Good (thr l) := by
  refine ⟨by rw [thr_len]; exact hg.pos, by rw [thr_len]; exact hg.top, fun i hi => ?_, fun i hi h => ?_, fun i hi h => ?_⟩
  · rw [thr_get, thrI_op]; exact hg.ops _ _
  · rw [thr_get, thrI_op] at h
    have hlen := thr_len l
    rw [thr_get, thrI_go h]
    have h1 := hg.go _ _ h
    have := landS_lt hg (noM l) (l[i]'(by omega)).a.toNat (by omega)
    omega
  · rw [thr_get, thrI_op] at h
    rw [thr_len]; exact hg.next _ _ h
theorem chk_thr {c : Code} {f g : Nl} {ks : List Val} (h : chkC c = 0) (hk : ks.map nrm = c.consts.map nrm) : chkC (.mk f (thr c.instrs) g ks) = 0 := by
  have hg := (good_of h).1
  have hl : ks.length = c.consts.length := by simpa using congrArg List.length hk
  rw [chkC_zero] at h ⊢
  obtain ⟨h1, h2, h3, h4, h5, h6⟩ := h
  refine ⟨by rw [show (Code.mk f (Go.AM.T.thr c.instrs) g ks).instrs = Go.AM.T.thr c.instrs from rfl, thr_len]; exact h1, by show ks.length ≤ _; omega, by rw [show (Code.mk f (Go.AM.T.thr c.instrs) g ks).instrs = Go.AM.T.thr c.instrs from rfl, thr_len]; exact h3, ?_, ?_, ?_⟩
  · show ∀ x ∈ Go.AM.T.thr c.instrs, (0 ≤ x.op ∧ x.op < 46) ∧ mayS x.op x.a x.b (Go.AM.T.thr c.instrs).length ks.length = true
    intro x hx
    obtain ⟨y, hy, rfl⟩ := List.mem_map.1 hx
    rw [thrI_op, thrI_b, thr_len, hl]
    refine ⟨(h4 y hy).1, ?_⟩
    by_cases q : y.op ∈ goesL
    · rw [thrI_go q]
      have := (h4 y hy).2
      rw [mayS_goes q] at this ⊢
      simp only [Bool.and_eq_true, decide_eq_true_eq] at this ⊢
      have := landS_lt hg (noM c.instrs) y.a.toNat (by omega)
      omega
    · rw [thrI_no q]; exact (h4 y hy).2
  · intro v hv
    obtain ⟨w, hw, e⟩ := mem_nrm hk hv
    rw [chkS_of e]; exact h5 w hw
  · show lastOp (Go.AM.T.thr c.instrs) ∈ endsL
    rw [lastOp_thr]; exact h6
/-! Done twice. -/
def nx (l : List Instr) (i : Nat) : Nat := match l[i]? with
  | some x => x.a.toNat
  | none => i
def it (l : List Instr) : Nat → Nat → Nat
  | 0, i => i
  | k + 1, i => it l k (nx l i)
theorem it_add (l : List Instr) : ∀ (j k i : Nat), it l (k + j) i = it l k (it l j i)
  | 0, k, i => rfl
  | j + 1, k, i => by show it l (k + j) (nx l i) = it l k (it l j (nx l i)); rw [it_add l j k]
def opAt (l : List Instr) (i : Nat) : Int := match l[i]? with
  | some x => x.op
  | none => 0
def Stp (l : List Instr) (m : List Bool) (i t : Nat) : Prop := opAt l (it l t i) ≠ 5 ∨ m[it l t i]? ≠ some false ∨ ∃ s, s < t ∧ it l s i = it l t i
theorem land_it {l : List Instr} (hg : Good l) (m : List Bool) (i : Nat) (hi : i < l.length) (hm : m.length = l.length) :
    ∃ t, landS l m i = it l t i ∧ Stp l m i t ∧ ∀ s, s < t → ¬ Stp l m i s := by
  induction m, i using landS.induct l with
  | case1 m i h h2 ih =>
    rw [landS, dif_pos h, if_pos h2]
    have hgo := hg.go i h.1 (by rw [h2.1]; simp [goesL])
    have ho : opAt l i = 5 := by unfold opAt; rw [List.getElem?_eq_getElem h.1]; exact h2.1
    have hn : nx l i = l[i].a.toNat := by unfold nx; rw [List.getElem?_eq_getElem h.1]
    obtain ⟨t, e1, e2, e3⟩ := ih (by omega) (by simpa using hm)
    have hset : ∀ j, (m.set i true)[j]? ≠ some false ↔ (j = i ∨ m[j]? ≠ some false) := fun j => by
      rw [List.getElem?_set]
      by_cases q : i = j
      · subst q; simp [h.2]
      · rw [if_neg q]; constructor
        · exact fun w => .inr w
        · rintro (w | w)
          · exact absurd w.symm q
          · exact w
    have key : ∀ s, Stp l m i (s + 1) ↔ Stp l (m.set i true) l[i].a.toNat s := fun s => by
      unfold Stp
      rw [show it l (s + 1) i = it l s l[i].a.toNat by show it l s (nx l i) = _; rw [hn], hset]
      constructor
      · rintro (w | w | ⟨u, hu, w⟩)
        · exact .inl w
        · exact .inr (.inl (.inr w))
        · cases u with
          | zero => exact .inr (.inl (.inl w.symm))
          | succ u => exact .inr (.inr ⟨u, by omega, by rw [← w]; show _ = it l u (nx l i); rw [hn]⟩)
      · rintro (w | (w | w) | ⟨u, hu, w⟩)
        · exact .inl w
        · exact .inr (.inr ⟨0, by omega, w.symm⟩)
        · exact .inr (.inl w)
        · exact .inr (.inr ⟨u + 1, by omega, by rw [← w]; show it l u (nx l i) = _; rw [hn]⟩)
    refine ⟨t + 1, by rw [e1]; show _ = it l t (nx l i); rw [hn], (key t).2 e2, fun s hs => ?_⟩
    cases s with
    | zero =>
      rintro (w | w | ⟨u, hu, _⟩)
      · exact w ho
      · exact w h2.2
      · omega
    | succ s => rw [key]; exact e3 s (by omega)
  | case2 m i h h2 =>
    rw [landS, dif_pos h, if_neg h2]
    refine ⟨0, rfl, ?_, by omega⟩
    by_cases q : l[i].op = 5
    · exact .inr (.inl fun w => h2 ⟨q, w⟩)
    · left; show opAt l i ≠ 5; unfold opAt; rw [List.getElem?_eq_getElem h.1]; exact q
  | case3 m i h => omega
theorem noM_ne {l : List Instr} {i : Nat} (hi : i < l.length) : ¬ (noM l)[i]? ≠ some false := by
  simp [noM, List.getElem?_replicate, hi]
theorem it_lt {l : List Instr} (hg : Good l) {i : Nat} (hi : i < l.length) : ∀ t, (∀ s, s < t → opAt l (it l s i) = 5) → it l t i < l.length
  | 0, _ => hi
  | t + 1, h => by
    have h1 := it_lt hg hi t fun s hs => h s (by omega)
    have h2 := h t (by omega)
    rw [Nat.add_comm, it_add]
    show nx l (it l t i) < l.length
    unfold nx opAt at *
    rw [List.getElem?_eq_getElem h1] at h2 ⊢
    simp only at h2
    have := hg.go _ h1 (by rw [h2]; simp [goesL])
    show l[it l t i].a.toNat < _
    omega
/-- A place from which jumps lead to itself. -/
def Stb (l : List Instr) (i : Nat) : Prop := i < l.length ∧ landS l (noM l) i = i
theorem land_uniq {l : List Instr} (hg : Good l) {m : List Bool} {i t : Nat} (hi : i < l.length) (hm : m.length = l.length) (h1 : Stp l m i t) (h2 : ∀ s, s < t → ¬ Stp l m i s) : landS l m i = it l t i := by
  obtain ⟨u, e1, e2, e3⟩ := land_it hg m i hi hm
  have : u = t := by
    rcases Nat.lt_trichotomy u t with q | q | q
    · exact absurd e2 (h2 u q)
    · exact q
    · exact absurd h1 (e3 t q)
  rw [e1, this]
theorem land_stb {l : List Instr} (hg : Good l) {i : Nat} (hi : i < l.length) : Stb l (landS l (noM l) i) := by
  obtain ⟨t, e1, e2, e3⟩ := land_it hg (noM l) i hi (by simp [noM])
  have hlt := landS_lt hg (noM l) i hi
  refine ⟨hlt, ?_⟩
  rw [e1] at hlt ⊢
  have hno : ∀ s, s < t → opAt l (it l s i) = 5 := fun s hs => Decidable.not_not.1 fun w => e3 s hs (.inl w)
  rcases e2 with w | w | ⟨s, hs, w⟩
  · exact land_uniq hg (t := 0) hlt (by simp [noM]) (.inl w) (by omega)
  · exact absurd w (noM_ne hlt)
  · have hp : ∀ u, it l u (it l t i) = it l (u + s) i := fun u => by rw [← w, ← it_add]
    have e : it l t i = it l (t - s) (it l t i) := by rw [hp, Nat.sub_add_cancel (by omega)]
    conv => rhs; rw [e]
    refine land_uniq hg hlt (by simp [noM]) (.inr (.inr ⟨0, by omega, e⟩)) fun u hu => ?_
    rintro (q | q | ⟨v, hv, q⟩)
    · rw [hp] at q; exact q (hno _ (by omega))
    · rw [hp] at q
      exact noM_ne (it_lt hg hi (u + s) fun s' hs' => hno s' (by omega)) q
    · rw [hp, hp] at q
      exact e3 (u + s) (by omega) (.inr (.inr ⟨v + s, by omega, q⟩))
theorem Stb.next {l : List Instr} (hg : Good l) {r : Nat} (h : Stb l r) (h5 : opAt l r = 5) : Stb l (nx l r) := by
  obtain ⟨hr, he⟩ := h
  obtain ⟨u, e1, e2, e3⟩ := land_it hg (noM l) r hr (by simp [noM])
  rw [he] at e1
  have hno : ∀ s, s < u → opAt l (it l s r) = 5 := fun s hs => Decidable.not_not.1 fun w => e3 s hs (.inl w)
  have hu : 0 < u := by
    rcases Nat.eq_zero_or_pos u with rfl | q
    · rcases e2 with w | w | ⟨s, hs, _⟩
      · exact absurd h5 w
      · exact absurd w (noM_ne hr)
      · omega
    · exact q
  have hs : ∀ v, it l v (nx l r) = it l (v + 1) r := fun v => rfl
  have ha : nx l r < l.length := it_lt hg hr 1 fun s q => hno s (by omega)
  have hno' : ∀ s, s ≤ u → opAt l (it l s r) = 5 := fun s q => by
    rcases Nat.lt_or_eq_of_le q with q | rfl
    · exact hno s q
    · rw [← e1]; exact h5
  refine ⟨ha, ?_⟩
  have hu2 : it l u (nx l r) = nx l r := by
    rw [hs, Nat.add_comm, it_add, ← e1]; rfl
  conv => rhs; rw [← hu2]
  refine land_uniq hg ha (by simp [noM]) (.inr (.inr ⟨0, hu, hu2.symm⟩)) fun v hv => ?_
  rintro (q | q | ⟨w, hw, q⟩)
  · rw [hs] at q; exact q (hno' _ (by omega))
  · rw [hs] at q
    exact noM_ne (it_lt hg hr (v + 1) fun s q => hno' s (by omega)) q
  · rw [hs, hs] at q
    by_cases hvu : v + 1 < u
    · exact e3 (v + 1) hvu (.inr (.inr ⟨w + 1, by omega, q⟩))
    · have : v + 1 = u := by omega
      rw [this, ← e1] at q
      exact e3 (w + 1) (by omega) (.inr (.inr ⟨0, by omega, q.symm⟩))
theorem land_thr {l : List Instr} (hg : Good l) (m : List Bool) (i : Nat) (h : Stb l i) : landS (thr l) m i = landS l m i := by
  induction m, i using landS.induct l with
  | case1 m i h1 h2 ih =>
    have h5 : opAt l i = 5 := by unfold opAt; rw [List.getElem?_eq_getElem h1.1]; exact h2.1
    have hn : nx l i = l[i].a.toNat := by unfold nx; rw [List.getElem?_eq_getElem h1.1]
    have hs := h.next hg h5
    rw [hn] at hs
    have h1' : i < (thr l).length ∧ i < m.length := by rw [thr_len]; exact h1
    have hop : (thr l)[i].op = 5 := by rw [thr_get, thrI_op]; exact h2.1
    rw [landS, landS, dif_pos h1, dif_pos h1', if_pos h2, if_pos ⟨hop, h2.2⟩, thr_get, thrI_go (by rw [h2.1]; simp [goesL]), hs.2]
    exact ih hs
  | case2 m i h1 h2 =>
    have h1' : i < (thr l).length ∧ i < m.length := by rw [thr_len]; exact h1
    rw [landS, landS, dif_pos h1, dif_pos h1', if_neg h2, if_neg]
    rw [thr_get, thrI_op]; exact h2
  | case3 m i h1 =>
    rw [landS, landS, dif_neg h1, dif_neg]
    rw [thr_len]; exact h1
theorem thr_thr {l : List Instr} (hg : Good l) : thr (thr l) = thr l := by
  refine List.ext_getElem (by simp [thr_len]) fun i h1 h2 => ?_
  rw [thr_get (thr l)]
  have hi : i < l.length := by simpa [thr_len] using h2
  rw [thr_get l h2]
  by_cases q : l[i].op ∈ goesL
  · have h3 := hg.go i hi q
    have hs := land_stb hg (i := l[i].a.toNat) (by omega)
    refine Instr.ext_all ⟨thrI_op _ _, ?_, thrI_b _ _⟩
    rw [thrI_go (by rw [thrI_op]; exact q), thrI_go q, Int.toNat_natCast, show noM (thr l) = noM l by simp [noM, thr_len], land_thr hg _ _ hs, hs.2]
  · rw [thrI_no q, thrI_no q]
end
end Go.AM.T
