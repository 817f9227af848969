/- Constants, each once. -/
import Derived.Test.YtjcnlakifipmgaaGreatDoorWalkH
import Derived.Test.YtjcnlakifipmgaaGreatDoorWalkI
set_option linter.unusedVariables false
set_option linter.unusedSimpArgs false
set_option linter.unnecessarySimpa false
set_option maxRecDepth 100000
/- Some of the instructions turned. -/
namespace Go.AM.T
section
variable {X : Ctx}
/-- The first k are turned. -/
def mixI (l : List Instr) (k : Nat) : List Instr := List.take k (thr l) ++ List.drop k l
theorem mixI_len (l : List Instr) (k : Nat) : (mixI l k).length = l.length := by
  unfold mixI; rw [List.length_append, List.length_take, thr_len, List.length_drop]; omega
theorem mixI_get {l : List Instr} {k : Nat} (h : k < l.length) : (mixI l k)[k]'(by rw [mixI_len]; exact h) = l[k] := by
  have h1 : k < (mixI l k).length := by rw [mixI_len]; exact h
  have e : (List.take k (thr l)).length = k := by rw [List.length_take, thr_len]; omega
  have h2 : (mixI l k)[k]? = some l[k] := by
    unfold mixI
    rw [List.getElem?_append_right (by omega), e, Nat.sub_self, List.drop_eq_getElem_cons h]; rfl
  rw [List.getElem?_eq_getElem h1] at h2
  exact Option.some.inj h2
theorem mixI_set {l : List Instr} {k : Nat} (h : k < l.length) : (mixI l k).set k (thrI l l[k]) = mixI l (k + 1) := by
  have e : (List.take k (thr l)).length = k := by rw [List.length_take, thr_len]; omega
  unfold mixI
  rw [List.set_append_right _ _ (by omega), e, Nat.sub_self, List.drop_eq_getElem_cons h, List.set_cons_zero, List.take_succ_eq_append_getElem (by rw [thr_len]; exact h), thr_get]
  simp
theorem mixI_skip {l : List Instr} {k : Nat} (h : k < l.length) (hs : l[k].op ∉ goesL) : mixI l (k + 1) = mixI l k := by
  rw [← mixI_set h, thrI_no hs]
  have h1 : k < (mixI l k).length := by rw [mixI_len]; exact h
  conv => lhs; rw [← mixI_get h]
  exact List.set_getElem_self h1
theorem mixI_all (l : List Instr) : mixI l l.length = thr l := by
  unfold mixI; rw [List.take_of_length_le (by rw [thr_len]; omega)]; simp
theorem insL_set {l : List Instr} {k : Nat} (hk : k < l.length) (a : Int) : List.take (k * 3 + 1) (Instr.cellsL l) ++ (D.int .i64 a :: List.drop (k * 3 + 1 + 1) (Instr.cellsL l)) = Instr.cellsL (l.set k (.mk l[k].op a l[k].b)) := by
  have e : l.set k (.mk l[k].op a l[k].b) = l.take k ++ (.mk l[k].op a l[k].b :: l.drop (k + 1)) := by rw [List.set_eq_take_append_cons_drop, if_pos hk]
  have e2 : l = l.take k ++ (l[k] :: l.drop (k + 1)) := by rw [← List.drop_eq_getElem_cons hk, List.take_append_drop]
  have h1 : (Instr.cellsL (l.take k)).length = k * 3 := by rw [Instr.cellsL_length, List.length_take]; omega
  have hc := Instr.cells_eq l[k]
  have e3 : Instr.cellsL l = Instr.cellsL (l.take k) ++ (D.int .i64 l[k].op :: D.int .i64 l[k].a :: D.int .i64 l[k].b :: Instr.cellsL (l.drop (k + 1))) := by
    conv => lhs; rw [e2, Instr.cellsL_append]
    simp only [Instr.cellsL, hc]; rfl
  rw [e, Instr.cellsL_append, e3]
  have t1 : List.take (k * 3 + 1) (Instr.cellsL (l.take k) ++ (D.int .i64 l[k].op :: D.int .i64 l[k].a :: D.int .i64 l[k].b :: Instr.cellsL (l.drop (k + 1)))) = Instr.cellsL (l.take k) ++ [D.int .i64 l[k].op] := by
    rw [← h1, List.take_length_add_append]; rfl
  have t2 : List.drop (k * 3 + 1 + 1) (Instr.cellsL (l.take k) ++ (D.int .i64 l[k].op :: D.int .i64 l[k].a :: D.int .i64 l[k].b :: Instr.cellsL (l.drop (k + 1)))) = D.int .i64 l[k].b :: Instr.cellsL (l.drop (k + 1)) := by
    rw [← h1, Nat.add_assoc, List.drop_length_add_append]; rfl
  rw [t1, t2]
  simp only [Instr.cellsL, Instr.cells]
  simp
theorem code_cells (f : Nl) (a : List Instr) (g : Nl) (b : List Val) : (Code.mk f a g b).cells = [SL f (Instr.cellsL a) a.length, SL g (Val.cellsL b) b.length] := by simp only [Code.cells]; rfl
end
end Go.AM.T
/- Are two values one: the program's answer. -/
namespace Go.AM.T
section
variable {X : Ctx}
theorem slices_Equal_uint32_uint32 (hX : CX X) (H : Heap) (f g : Nl) (l r : List (Int)) (hl : (l.length : Int) ≤ 9223372036854775807) :
    callΩ X (.func n_slices_Equal_uint32_uint32 [] []) [SL f (l.map (D.int .u32)) l.length, SL g (r.map (D.int .u32)) r.length] H = some (.bool (decide (l = r)), H) := by
  refine c_slices_Equal_uint32_uint32 hX (by simp) ?_
  by_cases h4 : l.length = r.length
  · simp [a_slices_Equal_uint32_uint32_B, Env.ofArgs, List.nil_append, List.append_nil, h4]
    refine YS_ind (fun k e H2 => H2 = H ∧ k ≤ r.length ∧ e.get 0 = SL f (l.map (D.int .u32)) r.length ∧ e.get 1 = SL g (r.map (D.int .u32)) r.length ∧ e.get 12 = .int .i64 r.length ∧ e.get 13 = .int .i64 k ∧ l.take k = r.take k) (fun k => r.length - k) ?_ 0 (by simp [h4])
    rintro k e H2 ⟨rfl, hk, g0, g1, g12, g13, hd⟩ L ih
    by_cases h : k < r.length
    · have h' : (k : Int) < r.length := by omega
      have hkx : k < l.length := by omega
      have w1 : IntKind.i64.wrap ((k : Int) + 1) = (k : Int) + 1 := wrap_i64 (by omega) (by omega)
      have l1 : loadD false 1 (List.drop k (l.map (D.int .u32))) = some ((D.int .u32) l[k]) := loadD_map hkx
      have l2 : loadD false 1 (List.drop k (r.map (D.int .u32))) = some ((D.int .u32) r[k]) := loadD_map h
      by_cases he : l[k] = r[k]
      · simp [a_slices_Equal_uint32_uint32_L0, g0, g1, g12, g13, h, h', hkx, l1, l2, he, w1]
        refine ih (k + 1) _ _ (by omega) ?_
        simp [g0, g1, g12]
        exact ⟨by omega, take_next hkx h hd he⟩
      · have hne := ne_at hkx h he
        simp [a_slices_Equal_uint32_uint32_L0, FinR, FinP, finish, fz_osl, g0, g1, g12, g13, h, h', hkx, l1, l2, he, hne]
    · have hk2 : k = r.length := by omega
      have heq2 := take_all (by omega) hk2.symm hd
      subst hk2
      simp [a_slices_Equal_uint32_uint32_L0, FinR, FinP, finish, fz_osl, g0, g1, g12, g13, heq2]
  · have hne : ¬ l = r := fun q => h4 (by rw [q])
    have h4' : ¬ (l.length : Int) = r.length := by omega
    simp [a_slices_Equal_uint32_uint32_B, Env.ofArgs, List.nil_append, List.append_nil, FinR, FinP, finish, fz_osl, h4, h4', hne]

theorem slices_Equal_string_string (hX : CX X) (H : Heap) (f g : Nl) (l r : List (List UInt8)) (hl : (l.length : Int) ≤ 9223372036854775807) :
    callΩ X (.func n_slices_Equal_string_string [] []) [SL f (l.map (D.str)) l.length, SL g (r.map (D.str)) r.length] H = some (.bool (decide (l = r)), H) := by
  refine c_slices_Equal_string_string hX (by simp) ?_
  by_cases h4 : l.length = r.length
  · simp [a_slices_Equal_string_string_B, Env.ofArgs, List.nil_append, List.append_nil, h4]
    refine YS_ind (fun k e H2 => H2 = H ∧ k ≤ r.length ∧ e.get 0 = SL f (l.map (D.str)) r.length ∧ e.get 1 = SL g (r.map (D.str)) r.length ∧ e.get 12 = .int .i64 r.length ∧ e.get 13 = .int .i64 k ∧ l.take k = r.take k) (fun k => r.length - k) ?_ 0 (by simp [h4])
    rintro k e H2 ⟨rfl, hk, g0, g1, g12, g13, hd⟩ L ih
    by_cases h : k < r.length
    · have h' : (k : Int) < r.length := by omega
      have hkx : k < l.length := by omega
      have w1 : IntKind.i64.wrap ((k : Int) + 1) = (k : Int) + 1 := wrap_i64 (by omega) (by omega)
      have l1 : loadD false 1 (List.drop k (l.map (D.str))) = some ((D.str) l[k]) := loadD_map hkx
      have l2 : loadD false 1 (List.drop k (r.map (D.str))) = some ((D.str) r[k]) := loadD_map h
      by_cases he : l[k] = r[k]
      · simp [a_slices_Equal_string_string_L0, g0, g1, g12, g13, h, h', hkx, l1, l2, he, w1]
        refine ih (k + 1) _ _ (by omega) ?_
        simp [g0, g1, g12]
        exact ⟨by omega, take_next hkx h hd he⟩
      · have hne := ne_at hkx h he
        simp [a_slices_Equal_string_string_L0, FinR, FinP, finish, fz_osl, g0, g1, g12, g13, h, h', hkx, l1, l2, he, hne]
    · have hk2 : k = r.length := by omega
      have heq2 := take_all (by omega) hk2.symm hd
      subst hk2
      simp [a_slices_Equal_string_string_L0, FinR, FinP, finish, fz_osl, g0, g1, g12, g13, heq2]
  · have hne : ¬ l = r := fun q => h4 (by rw [q])
    have h4' : ¬ (l.length : Int) = r.length := by omega
    simp [a_slices_Equal_string_string_B, Env.ofArgs, List.nil_append, List.append_nil, FinR, FinP, finish, fz_osl, h4, h4', hne]

theorem value_Same (hX : CX X) : ∀ (v w : Val) (H : Heap), v.wf → callΩ X (.func n_value_Same [] []) [.agg v.cells, .agg w.cells] H = some (.bool (decide (nrm v = nrm w)), H) := by
  intro v
  induction v using Val.ind with
  | h v ihv =>
  intro w H hw
  obtain ⟨hw1, hw2, hw3, hw4, hw5, hw6⟩ := Val.wf_iff.1 hw
  have hr : (decide (nrm v = nrm w)) = decide (v.kind = w.kind ∧ v.text = w.text ∧ v.num.neg = w.num.neg ∧ v.num.exp = w.num.exp ∧ v.num.coef = w.num.coef ∧ v.keys = w.keys ∧ v.list.map nrm = w.list.map nrm) := by
    rw [decide_eq_decide, nrm_iff]
    constructor
    · rintro ⟨a, b, c, d, e, f, g⟩; exact ⟨a, e, b, d, c, g, f⟩
    · rintro ⟨a, b, c, d, e, f, g⟩; exact ⟨a, c, e, d, b, g, f⟩
  rw [hr]
  have e1 := fun H => slices_Equal_uint32_uint32 hX H v.num.coefF w.num.coefF v.num.coef w.num.coef hw1.2
  have e2 := fun H => slices_Equal_string_string hX H v.keysF w.keysF v.keys w.keys hw4
  have e3 : ∀ H, callΩ X (.func n_slices_EqualFunc_api_Value_api_Value_api_Value_api_Value [] []) [SL v.listF (Val.cellsL v.list) v.list.length, SL w.listF (Val.cellsL w.list) w.list.length, .func n_value_Same [] []] H = some (.bool (decide (v.list.map nrm = w.list.map nrm)), H) := by
    intro H
    refine c_slices_EqualFunc_api_Value_api_Value_api_Value_api_Value hX (by simp) ?_
    by_cases h4 : v.list.length = w.list.length
    · simp [a_slices_EqualFunc_api_Value_api_Value_api_Value_api_Value_B, Env.ofArgs, List.nil_append, List.append_nil, h4]
      refine YS_ind (fun k e H2 => H2 = H ∧ k ≤ w.list.length ∧ e.get 1 = SL w.listF (Val.cellsL w.list) w.list.length ∧ e.get 2 = .func n_value_Same [] [] ∧ e.get 15 = SL v.listF (Val.cellsL v.list) w.list.length ∧ e.get 16 = .int .i64 w.list.length ∧ e.get 17 = .int .i64 k ∧ (v.list.map nrm).take k = (w.list.map nrm).take k) (fun k => w.list.length - k) ?_ 0 (by simp)
      rintro k e H2 ⟨rfl, hk, g1, g2, g15, g16, g17, hd⟩ L ih
      by_cases h : k < w.list.length
      · have h' : (k : Int) < w.list.length := by omega
        have hkx : k < v.list.length := by omega
        have w1 : IntKind.i64.wrap ((k : Int) + 1) = (k : Int) + 1 := wrap_i64 (by omega) (by omega)
        have hc := fun H => ihv v.list[k] (by simp) w.list[k] H (hw6 _ (by simp))
        by_cases he : nrm v.list[k] = nrm w.list[k]
        · simp [a_slices_EqualFunc_api_Value_api_Value_api_Value_api_Value_L0, g1, g2, g15, g16, g17, h, h', hkx, Val.cellsL_drop h, Val.cellsL_drop hkx, hc, he, w1]
          refine ih (k + 1) _ _ (by omega) ?_
          simp [g1, g2, g15, g16]
          exact ⟨by omega, by have := take_next (a := v.list.map nrm) (b := w.list.map nrm) (by simpa using hkx) (by simpa using h) hd (by simpa using he); simpa using this⟩
        · have hne := ne_at (a := v.list.map nrm) (b := w.list.map nrm) (by simpa using hkx) (by simpa using h) (by simpa using he)
          simp [a_slices_EqualFunc_api_Value_api_Value_api_Value_api_Value_L0, FinR, FinP, finish, fz_osl, g1, g2, g15, g16, g17, h, h', hkx, Val.cellsL_drop h, Val.cellsL_drop hkx, hc, he, hne]
      · have hk2 : k = w.list.length := by omega
        have heq2 := take_all (a := v.list.map nrm) (b := w.list.map nrm) (by simp; omega) (by simp; exact hk2.symm) hd
        subst hk2
        simp [a_slices_EqualFunc_api_Value_api_Value_api_Value_api_Value_L0, FinR, FinP, finish, fz_osl, g1, g2, g15, g16, g17, heq2]
    · have hne : ¬ v.list.map nrm = w.list.map nrm := fun q => h4 (by simpa using congrArg List.length q)
      have h4' : ¬ (v.list.length : Int) = w.list.length := by omega
      simp [a_slices_EqualFunc_api_Value_api_Value_api_Value_api_Value_B, Env.ofArgs, List.nil_append, List.append_nil, FinR, FinP, finish, fz_osl, h4, h4', hne]
  refine c_value_Same hX (by simp) ?_
  by_cases h1 : v.kind = w.kind
  · by_cases h2 : v.text = w.text
    · by_cases h3 : v.num.neg = w.num.neg
      · by_cases h4 : v.num.exp = w.num.exp
        · by_cases h5 : v.num.coef = w.num.coef
          · rw [decide_eq_true h5, h5] at e1
            by_cases h6 : v.keys = w.keys
            · rw [decide_eq_true h6, h6] at e2
              simp [a_value_Same_B, Env.ofArgs, List.nil_append, List.append_nil, FinR, FinP, finish, fz_osl, h1, h2, h3, h4, h5, h6, e1, e2, e3]
            · rw [decide_eq_false h6] at e2
              simp [a_value_Same_B, Env.ofArgs, List.nil_append, List.append_nil, FinR, FinP, finish, fz_osl, h1, h2, h3, h4, h5, h6, e1, e2]
          · rw [decide_eq_false h5] at e1
            simp [a_value_Same_B, Env.ofArgs, List.nil_append, List.append_nil, FinR, FinP, finish, fz_osl, h1, h2, h3, h4, h5, e1]
        · simp [a_value_Same_B, Env.ofArgs, List.nil_append, List.append_nil, FinR, FinP, finish, fz_osl, h1, h2, h3, h4]
      · have hb : (v.num.neg == w.num.neg) = false := by simp [h3]
        simp [a_value_Same_B, Env.ofArgs, List.nil_append, List.append_nil, FinR, FinP, finish, fz_osl, h1, h2, h3, hb]
    · simp [a_value_Same_B, Env.ofArgs, List.nil_append, List.append_nil, FinR, FinP, finish, fz_osl, h1, h2]
  · simp [a_value_Same_B, Env.ofArgs, List.nil_append, List.append_nil, FinR, FinP, finish, fz_osl, h1]
end
end Go.AM.T
/- Constants that are named, each once: in plain terms. -/
namespace Go.AM.T
section
variable {X : Ctx}
/-- Where a value stands among others. -/
noncomputable def ix (v : Val) (ws : List Val) : Nat := ws.findIdx fun w => decide (nrm v = nrm w)
theorem ix_lt {v : Val} {ws : List Val} (h : ix v ws < ws.length) : nrm v = nrm ws[ix v ws] := by
  have := List.findIdx_getElem (w := h)
  exact of_decide_eq_true this
theorem ix_not {v : Val} {ws : List Val} {j : Nat} (h : j < ix v ws) : ∃ hj : j < ws.length, nrm v ≠ nrm ws[j] := by
  have h1 : j < ws.length := Nat.lt_of_lt_of_le h List.findIdx_le_length
  refine ⟨h1, ?_⟩
  have := List.not_of_lt_findIdx h
  simpa using this
theorem ix_le (v : Val) (ws : List Val) : ix v ws ≤ ws.length := List.findIdx_le_length
theorem ix_eq {v : Val} {ws : List Val} {k : Nat} (hk : k < ws.length) (h1 : nrm v = nrm ws[k]) (h2 : ∀ j (hj : j < k), nrm v ≠ nrm (ws[j]'(by omega))) : ix v ws = k := by
  rcases Nat.lt_trichotomy (ix v ws) k with q | q | q
  · exact absurd (ix_lt (by omega)) (h2 _ q)
  · exact q
  · obtain ⟨_, q2⟩ := ix_not q
    exact absurd h1 q2
theorem ix_none {v : Val} {ws : List Val} (h : ∀ j (hj : j < ws.length), nrm v ≠ nrm ws[j]) : ix v ws = ws.length := by
  rcases Nat.lt_or_ge (ix v ws) ws.length with q | q
  · exact absurd (ix_lt q) (h _ q)
  · exact Nat.le_antisymm (ix_le _ _) q
def cAt (cs : List Val) (a : Int) : Val := (cs[a.toNat]?).getD (.mk 0 (.mk false .nil [] 0) [] .nil [] .nil [])
noncomputable def addW (v : Val) (ws : List Val) : List Val := if ix v ws < ws.length then ws else ws ++ [cl v]
noncomputable def poolG (cs : List Val) : List Instr → List Val → List Instr × List Val
  | [], ws => ([], ws)
  | x :: r, ws => if x.op = 1 then (.mk x.op (ix (cAt cs x.a) ws) x.b :: (poolG cs r (addW (cAt cs x.a) ws)).1, (poolG cs r (addW (cAt cs x.a) ws)).2) else (x :: (poolG cs r ws).1, (poolG cs r ws).2)
theorem poolG_len (cs : List Val) : ∀ (l : List Instr) (ws : List Val), (poolG cs l ws).1.length = l.length
  | [], _ => rfl
  | x :: r, ws => by
    simp only [poolG]
    split <;> simp [poolG_len cs r]
theorem addW_len (v : Val) (ws : List Val) : (addW v ws).length ≤ ws.length + 1 := by
  unfold addW; split <;> simp
/-- No two are one. -/
def Dst (ws : List Val) : Prop := ∀ (i j : Nat) (h : i < j) (hj : j < ws.length), nrm ws[j] ≠ nrm (ws[i]'(by omega))
theorem Dst.add {ws : List Val} (h : Dst ws) (v : Val) : Dst (addW v ws) := by
  unfold addW
  split
  · exact h
  · rename_i hx
    have hxl : ix v ws = ws.length := Nat.le_antisymm (ix_le _ _) (by omega)
    intro i j hij hj
    have hj' : j < ws.length + 1 := by simpa using hj
    have hi : i < ws.length := by omega
    have ei : (ws ++ [cl v])[i]'(by simp; omega) = ws[i] := by rw [List.getElem_append_left hi]
    rw [ei]
    by_cases q : j < ws.length
    · have ej : (ws ++ [cl v])[j] = ws[j] := by rw [List.getElem_append_left q]
      rw [ej]; exact h i j hij q
    · have e : j = ws.length := by omega
      subst e
      have ej : (ws ++ [cl v])[ws.length] = cl v := by simp
      rw [ej, nrm_cl]
      exact (ix_not (v := v) (ws := ws) (j := i) (by omega)).2
theorem addW_ix (v : Val) (ws : List Val) : ∃ h : ix v ws < (addW v ws).length, nrm v = nrm (addW v ws)[ix v ws] := by
  unfold addW
  split
  · rename_i h; exact ⟨h, ix_lt h⟩
  · rename_i hx
    have hxl : ix v ws = ws.length := Nat.le_antisymm (ix_le _ _) (by omega)
    refine ⟨by simp; omega, ?_⟩
    simp only [hxl]
    simp [nrm_cl]
theorem addW_max (v : Val) (ws : List Val) : max ws.length (ix v ws + 1) = (addW v ws).length := by
  have := ix_le v ws
  unfold addW
  split
  · omega
  · rw [List.length_append, List.length_singleton]; omega
theorem poolG_pre (cs : List Val) : ∀ (l : List Instr) (ws : List Val), ∃ t, (poolG cs l ws).2 = ws ++ t
  | [], ws => ⟨[], by simp [poolG]⟩
  | x :: r, ws => by
    simp only [poolG]
    split
    · obtain ⟨t, e⟩ := poolG_pre cs r (addW (cAt cs x.a) ws)
      unfold addW at e ⊢
      split at e
      · rename_i q; rw [if_pos q]; exact ⟨t, e⟩
      · rename_i q; rw [if_neg q]; exact ⟨[cl (cAt cs x.a)] ++ t, by simpa using e⟩
    · exact poolG_pre cs r ws
theorem poolG_dst (cs : List Val) : ∀ (l : List Instr) (ws : List Val), Dst ws → Dst (poolG cs l ws).2
  | [], ws, h => h
  | x :: r, ws, h => by
    simp only [poolG]
    split
    · exact poolG_dst cs r _ (h.add _)
    · exact poolG_dst cs r ws h
theorem poolG_mem (cs : List Val) : ∀ (l : List Instr) (ws : List Val) (w : Val), w ∈ (poolG cs l ws).2 → w ∈ ws ∨ ∃ x ∈ l, x.op = 1 ∧ w = cl (cAt cs x.a)
  | [], ws, w, h => .inl h
  | x :: r, ws, w, h => by
    simp only [poolG] at h
    split at h
    · rename_i h1
      rcases poolG_mem cs r _ w h with q | ⟨y, hy, q⟩
      · unfold addW at q
        split at q
        · exact .inl q
        · rcases List.mem_append.1 q with q | q
          · exact .inl q
          · exact .inr ⟨x, by simp, h1, by simpa using q⟩
      · exact .inr ⟨y, by simp [hy], q⟩
    · rcases poolG_mem cs r ws w h with q | ⟨y, hy, q⟩
      · exact .inl q
      · exact .inr ⟨y, by simp [hy], q⟩
/-- A code whose empty slices are told apart. -/
def okN (c : Code) : Prop := Code.ok c ∧ c.instrsF ≠ .emp ∧ c.constsF ≠ .emp ∧ ∀ v ∈ c.consts, nE v
end
end Go.AM.T
/- Constants that are named, each once: the program's way. -/
namespace Go.AM.T
section
variable {X : Ctx}
theorem pool_1 (hX : CX X) (H : Heap) (v w : Val) (hv : v.wf) : callΩ X (.func n_peep_pool_1 [] [.fptr v.cells]) [.agg w.cells] H = some (.bool (decide (nrm v = nrm w)), H) := by
  refine c_peep_pool_1 hX (by simp) ?_
  have h := fun H => value_Same hX v w H hv
  simp [a_peep_pool_1_B, Env.ofArgs, List.nil_append, List.append_nil, FinR, FinP, finish, fz_osl, h]
theorem index_same (hX : CX X) (H : Heap) (id : Nat) (ws : List Val) (nil : Bool) (v : Val) (hv : v.wf) (hlen : ws.length ≤ 100000) (hr : H[id]? = some (.row 7 (Val.cellsL ws) nil)) (hn : nil = true → ws = []) :
    callΩ X (.func n_slices_IndexFunc_api_Value_api_Value [] []) [.osl id (ws.length * 7) 0 ws.length, .func n_peep_pool_1 [] [.fptr v.cells]] H = some (.int .i64 (if ix v ws < ws.length then (ix v ws : Int) else -1), H) := by
  refine c_slices_IndexFunc_api_Value_api_Value hX (by simp) ?_
  simp [a_slices_IndexFunc_api_Value_api_Value_B, Env.ofArgs, List.nil_append, List.append_nil]
  refine YS_ind (fun k e H2 => H2 = H ∧ k ≤ ws.length ∧ e.get 0 = .osl id (ws.length * 7) 0 ws.length ∧ e.get 1 = .func n_peep_pool_1 [] [.fptr v.cells] ∧ e.get 7 = .int .i64 ws.length ∧ e.get 8 = .int .i64 k ∧ ∀ j (hj : j < k) (hw : j < ws.length), nrm v ≠ nrm ws[j]) (fun k => ws.length - k) ?_ 0 (by simp)
  rintro k e H2 ⟨rfl, hk, g0, g1, g7, g8, hd⟩ L ih
  have hcl := Val.cellsL_length ws
  by_cases h : k < ws.length
  · have hnil : nil = false := by
      cases nil with
      | false => rfl
      | true => have := hn rfl; subst this; simp at h
    subst hnil
    have h' : (k : Int) < ws.length := by omega
    have w1 : IntKind.i64.wrap ((k : Int) + 1) = (k : Int) + 1 := wrap_i64 (by omega) (by omega)
    have hc := fun H => pool_1 hX H v ws[k] hv
    by_cases he : nrm v = nrm ws[k]
    · have hix := ix_eq h he (fun j hj => hd j hj (by omega))
      simp [a_slices_IndexFunc_api_Value_api_Value_L0, FinR, FinP, finish, fz_osl, g0, g1, g7, g8, h, h', hr, hcl, Val.cellsL_drop h, hc, he, hix]
    · simp [a_slices_IndexFunc_api_Value_api_Value_L0, g0, g1, g7, g8, h, h', hr, hcl, Val.cellsL_drop h, hc, he, w1]
      refine ih (k + 1) _ _ (by omega) ?_
      simp [g0, g1, g7]
      refine ⟨by omega, fun j hj hw => ?_⟩
      rcases Nat.lt_succ_iff_lt_or_eq.1 hj with q | rfl
      · exact hd j q hw
      · exact he
  · obtain rfl : k = ws.length := by omega
    have hix := ix_none (v := v) (ws := ws) (fun j hj => hd j hj hj)
    simp [a_slices_IndexFunc_api_Value_api_Value_L0, FinR, FinP, finish, fz_osl, g0, g1, g7, g8, hix]
end
end Go.AM.T
