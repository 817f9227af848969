/- Copies; are two one. -/
import Derived.Test.YtjcnlakifipmgaaGreatDoorAmK
import Derived.Test.YtjcnlakifipmgaaGreatDoorWalkH
set_option linter.unusedVariables false
set_option linter.unusedSimpArgs false
set_option linter.unnecessarySimpa false
set_option maxRecDepth 100000
/- Slices and values in memory of their own. -/
namespace Go.AM.T
section
variable {X : Ctx}
/-- What a copy of nothing is. -/
def clF : Nl → Nl
  | .nil => .nil
  | _ => .full
def clN (f : Nl) (n : Nat) : Bool := match f, n with
  | .nil, 0 => true
  | _, _ => false
theorem clN_SL {H : Heap} {m g id : Nat} {f : Nl} {n es : Nat} {cs : List D} (hid : m ≤ id) (h : H[id]? = some (.row es cs (clN f n))) (hl : cs.length = n * es) (hf : mapO (fz H m g) cs = some cs) (hu : D.unders 0 cs = true) (ho : D.ones cs = true) :
    fz H m (g + 1) (.osl id (n * es) 0 n) = some (SL (clF f) cs n) := by
  rw [fz_osl, if_neg (by omega), h]
  simp only
  cases n with
  | zero =>
    cases cs with
    | nil => cases f <;> simp [clN, clF, SL, mapO, D.unders, D.ones]
    | cons x r => simp at hl
  | succ n =>
    have : clN f (n + 1) = false := by cases f <;> rfl
    have ht : List.take ((n + 1) * es) cs = cs := List.take_of_length_le (by omega)
    simp [this, SL, hl, ht, hf, hu, ho]
theorem slices_Clone_api_Instr_api_Instr (hX : CX X) (H : Heap) {f : Nl} (hf : f ≠ .emp) (n : Nat) (cs : List D) (hl : cs.length = n * 3) (hn : n ≤ 100000) (hu : ∀ m, D.unders m cs = true) (ho : D.ones cs = true) :
    callΩ X (.func n_slices_Clone_api_Instr_api_Instr [] []) [SL f cs n] H = some (.osl H.length (n * 3) 0 n, H ++ [.row 3 cs (clN f n)]) := by
  refine c_slices_Clone_api_Instr_api_Instr hX (by simp) ?_
  have hb1 : n * 24 ≤ maxBytes := by unfold maxBytes; omega
  have hb2 : n ≤ maxBytes := by unfold maxBytes; omega
  have hst : ∀ b H i, storable b H i cs = true := fun b H i => storable_U hu ho
  have hs0 : ∀ b H i, storable b H i [] = true := fun _ _ _ => rfl
  cases n with
  | zero =>
    cases cs with
    | nil => cases f <;> first | exact absurd rfl hf | simp [a_slices_Clone_api_Instr_api_Instr_B, Env.ofArgs, List.nil_append, List.append_nil, FinR, FinP, finish, fz_osl, SL, eqSl, slNil, elems, appendD, clN, D.unders, hst, hs0, maxBytes]
    | cons x r => simp at hl
  | succ n =>
    have hc : clN f (n + 1) = false := by cases f <;> rfl
    rw [hc]
    clear hf
    simp [a_slices_Clone_api_Instr_api_Instr_B, Env.ofArgs, List.nil_append, List.append_nil, FinR, FinP, finish, fz_osl, SL, eqSl, slNil, elems, appendD, hst, hs0, hl, hb1, hb2, hu]

theorem slices_Clone_uint32_uint32 (hX : CX X) (H : Heap) {f : Nl} (hf : f ≠ .emp) (n : Nat) (cs : List D) (hl : cs.length = n * 1) (hn : n ≤ 100000) (hu : ∀ m, D.unders m cs = true) (ho : D.ones cs = true) (hz : ∀ H m g, mapO (fz H m (g + 1)) cs = some cs) :
    callΩ X (.func n_slices_Clone_uint32_uint32 [] []) [SL f cs n] H = some (SL (clF f) cs n, H) := by
  refine c_slices_Clone_uint32_uint32 hX (by simp) ?_
  have hb1 : n * 4 ≤ maxBytes := by unfold maxBytes; omega
  have hb2 : n ≤ maxBytes := by unfold maxBytes; omega
  have hst : ∀ b H i, storable b H i cs = true := fun b H i => storable_U hu ho
  have hs0 : ∀ b H i, storable b H i [] = true := fun _ _ _ => rfl
  cases n with
  | zero =>
    cases cs with
    | nil => cases f <;> first | exact absurd rfl hf | simp [a_slices_Clone_uint32_uint32_B, Env.ofArgs, List.nil_append, List.append_nil, FinR, FinP, finish, fz_osl, SL, eqSl, slNil, elems, appendD, clF, D.unders, D.ones, hst, hs0, maxBytes]
    | cons x r => simp at hl
  | succ n =>
    clear hf
    simp at hl
    have ht : List.take (n + 1) cs = cs := List.take_of_length_le (by omega)
    simp [a_slices_Clone_uint32_uint32_B, Env.ofArgs, List.nil_append, List.append_nil, FinR, FinP, finish, fz_osl, SL, eqSl, slNil, elems, appendD, hst, hs0, hl, hb1, hb2, hu, hz, ho, ht]

theorem slices_Clone_string_string (hX : CX X) (H : Heap) {f : Nl} (hf : f ≠ .emp) (n : Nat) (cs : List D) (hl : cs.length = n * 1) (hn : n ≤ 100000) (hu : ∀ m, D.unders m cs = true) (ho : D.ones cs = true) (hz : ∀ H m g, mapO (fz H m (g + 1)) cs = some cs) :
    callΩ X (.func n_slices_Clone_string_string [] []) [SL f cs n] H = some (SL (clF f) cs n, H) := by
  refine c_slices_Clone_string_string hX (by simp) ?_
  have hb1 : n * 16 ≤ maxBytes := by unfold maxBytes; omega
  have hb2 : n ≤ maxBytes := by unfold maxBytes; omega
  have hst : ∀ b H i, storable b H i cs = true := fun b H i => storable_U hu ho
  have hs0 : ∀ b H i, storable b H i [] = true := fun _ _ _ => rfl
  cases n with
  | zero =>
    cases cs with
    | nil => cases f <;> first | exact absurd rfl hf | simp [a_slices_Clone_string_string_B, Env.ofArgs, List.nil_append, List.append_nil, FinR, FinP, finish, fz_osl, SL, eqSl, slNil, elems, appendD, clF, D.unders, D.ones, hst, hs0, maxBytes]
    | cons x r => simp at hl
  | succ n =>
    clear hf
    simp at hl
    have ht : List.take (n + 1) cs = cs := List.take_of_length_le (by omega)
    simp [a_slices_Clone_string_string_B, Env.ofArgs, List.nil_append, List.append_nil, FinR, FinP, finish, fz_osl, SL, eqSl, slNil, elems, appendD, hst, hs0, hl, hb1, hb2, hu, hz, ho, ht]

theorem slices_Clone_api_Value_api_Value (hX : CX X) (H : Heap) {f : Nl} (hf : f ≠ .emp) (n : Nat) (cs : List D) (hl : cs.length = n * 7) (hn : n ≤ 100000) (hu : ∀ m, D.unders m cs = true) (ho : D.ones cs = true) :
    callΩ X (.func n_slices_Clone_api_Value_api_Value [] []) [SL f cs n] H = some (.osl H.length (n * 7) 0 n, H ++ [.row 7 cs (clN f n)]) := by
  refine c_slices_Clone_api_Value_api_Value hX (by simp) ?_
  have hb1 : n * 112 ≤ maxBytes := by unfold maxBytes; omega
  have hb2 : n ≤ maxBytes := by unfold maxBytes; omega
  have hst : ∀ b H i, storable b H i cs = true := fun b H i => storable_U hu ho
  have hs0 : ∀ b H i, storable b H i [] = true := fun _ _ _ => rfl
  cases n with
  | zero =>
    cases cs with
    | nil => cases f <;> first | exact absurd rfl hf | simp [a_slices_Clone_api_Value_api_Value_B, Env.ofArgs, List.nil_append, List.append_nil, FinR, FinP, finish, fz_osl, SL, eqSl, slNil, elems, appendD, clN, D.unders, hst, hs0, maxBytes]
    | cons x r => simp at hl
  | succ n =>
    have hc : clN f (n + 1) = false := by cases f <;> rfl
    rw [hc]
    clear hf
    simp [a_slices_Clone_api_Value_api_Value_B, Env.ofArgs, List.nil_append, List.append_nil, FinR, FinP, finish, fz_osl, SL, eqSl, slNil, elems, appendD, hst, hs0, hl, hb1, hb2, hu]

end
end Go.AM.T
/- Values in memory of their own. -/
namespace Go.AM.T
section
variable {X : Ctx}
mutual
def cl : Val → Val
  | .mk k n t lf l kf ks => .mk k (.mk n.neg (clF n.coefF) n.coef n.exp) t (clF lf) (clL l) (clF kf) ks
def clL : List Val → List Val
  | [] => []
  | v :: r => cl v :: clL r
end
theorem clL_eq : ∀ l : List Val, clL l = l.map cl
  | [] => rfl
  | v :: r => by simp [clL, clL_eq r]
theorem cl_eq (v : Val) : cl v = .mk v.kind (.mk v.num.neg (clF v.num.coefF) v.num.coef v.num.exp) v.text (clF v.listF) (v.list.map cl) (clF v.keysF) v.keys := by
  cases v; rw [cl, clL_eq]; rfl
theorem nrm_cl (v : Val) : nrm (cl v) = nrm v := by
  induction v using Val.ind with
  | h v ih =>
    rw [cl_eq, nrm_eq, nrm_eq v]
    have : List.map nrm (List.map cl v.list) = List.map nrm v.list := by
      rw [List.map_map]; exact List.map_congr_left fun x hx => ih x hx
    show Val.mk v.kind (.mk v.num.neg .full v.num.coef v.num.exp) v.text .full (List.map nrm (List.map cl v.list)) .full v.keys = _
    rw [this]
theorem nE_cl (v : Val) : nE (cl v) := by
  have key : ∀ f, clF f ≠ .emp := fun f => by cases f <;> simp [clF]
  induction v using Val.ind with
  | h v ih =>
    rw [cl_eq, nE_iff]
    refine ⟨key _, key _, key _, fun x hx => ?_⟩
    obtain ⟨y, hy, rfl⟩ := List.mem_map.1 hx
    exact ih y hy
/-- What a copy is made of. -/
def Sm (v : Val) : Prop := v.list.length ≤ 4096 ∧ v.keys.length ≤ 4096 ∧ v.num.coef.length ≤ 4096 ∧ ∀ x ∈ v.list, allS x = 0
theorem allL_zero : ∀ {l : List Val}, allL l = 0 → ∀ x ∈ l, allS x = 0
  | [], _, x, hx => by simp at hx
  | v :: r, h, x, hx => by
    simp only [allL] at h
    split at h
    · rename_i q; exact absurd h q
    · rename_i q
      rcases List.mem_cons.1 hx with rfl | hx
      · exact Decidable.not_not.1 q
      · exact allL_zero h x hx
theorem Sm_of {v : Val} (h : allS v = 0) : Sm v := by
  rw [allS_eq] at h
  split at h
  · rename_i q; exact absurd h q
  · rename_i q
    have q := Decidable.not_not.1 q
    unfold ownS at q
    split at q
    · cases q
    · split at q
      · rename_i w; exact absurd q w
      · split at q
        · cases q
        · rename_i w
          split at q
          · rename_i z
            refine ⟨by omega, by omega, ?_, allL_zero h⟩
            simp only [Bool.and_eq_true] at z
            have z1 := z.1
            unfold numsS at z1
            split at z1
            · have z2 : decE v.num = 0 := by simpa using z1
              unfold decE at z2
              split at z2
              · cases z2
              · rename_i z3; simp only [not_or] at z3; omega
            · simp only [Bool.and_eq_true, decide_eq_true_eq] at z1
              rw [z1.1.2]; simp
          · cases q
theorem Sm_chk {v : Val} (h : chkS v = 0) : Sm v := by
  unfold chkS at h
  split at h
  · cases h
  · split at h
    · cases h
    · exact Sm_of h
theorem all_chk {v : Val} (h : chkS v = 0) : allS v = 0 := by
  unfold chkS at h
  split at h
  · cases h
  · split at h
    · cases h
    · exact h
theorem cellsL_get {l : List Val} {k : Nat} (hk : k < l.length) : List.drop (k * 7) (Val.cellsL l) = l[k].cells ++ Val.rest l k := Val.cellsL_drop hk
theorem cellsL_set {l : List Val} {k : Nat} {x : Val} (hk : k < l.length) : List.take (k * 7) (Val.cellsL l) ++ (x.cells ++ List.drop (k * 7 + 7) (Val.cellsL l)) = Val.cellsL (l.set k x) := by
  have e : l.set k x = l.take k ++ (x :: l.drop (k + 1)) := by rw [List.set_eq_take_append_cons_drop, if_pos hk]
  have e2 : l = l.take k ++ (l[k] :: l.drop (k + 1)) := by rw [← List.drop_eq_getElem_cons hk, List.take_append_drop]
  have h1 : (Val.cellsL (l.take k)).length = k * 7 := by rw [Val.cellsL_length, List.length_take]; omega
  rw [e, Val.cellsL_append]
  conv => lhs; rw [e2, Val.cellsL_append]
  rw [List.take_left' h1, ← h1, ← List.drop_drop, List.drop_left' rfl]
  simp only [Val.cellsL]
  rw [List.drop_left' (Val.cells_length _)]
/-- The first k are copied. -/
def mixL (l : List Val) (k : Nat) : List Val := List.take k (l.map cl) ++ List.drop k l
theorem mixL_len (l : List Val) (k : Nat) : (mixL l k).length = l.length := by
  unfold mixL; rw [List.length_append, List.length_take, List.length_map, List.length_drop]; omega
theorem mixL_get {l : List Val} {k : Nat} (h : k < l.length) : (mixL l k)[k]'(by rw [mixL_len]; exact h) = l[k] := by
  have h1 : k < (mixL l k).length := by rw [mixL_len]; exact h
  have e : (List.take k (l.map cl)).length = k := by rw [List.length_take, List.length_map]; omega
  have h2 : (mixL l k)[k]? = some l[k] := by
    unfold mixL
    rw [List.getElem?_append_right (by omega), e, Nat.sub_self, List.drop_eq_getElem_cons h]; rfl
  rw [List.getElem?_eq_getElem h1] at h2
  exact Option.some.inj h2
theorem mixL_set {l : List Val} {k : Nat} (h : k < l.length) : (mixL l k).set k (cl l[k]) = mixL l (k + 1) := by
  unfold mixL
  have e : (List.take k (l.map cl)).length = k := by rw [List.length_take, List.length_map]; omega
  rw [List.set_append_right _ _ (by omega), e, Nat.sub_self, List.drop_eq_getElem_cons h, List.set_cons_zero, List.take_succ_eq_append_getElem (by simpa using h)]
  simp
theorem mixL_all (l : List Val) : mixL l l.length = l.map cl := by
  unfold mixL; rw [List.take_of_length_le (by simp)]; simp
set_option maxHeartbeats 1000000 in
theorem value_Clone (hX : CX X) : ∀ (v : Val) (H : Heap), nE v → Sm v → callΩ X (.func n_value_Clone [] []) [.agg v.cells] H = some (.agg (cl v).cells, H) := by
  intro v
  induction v using Val.ind with
  | h v ih =>
  intro H hn hs
  obtain ⟨n1, n2, n3, n4⟩ := nE_iff.1 hn
  obtain ⟨s1, s2, s3, s4⟩ := hs
  refine c_value_Clone hX (by simp) ?_
  have e1 := fun H => slices_Clone_uint32_uint32 hX H n1 v.num.coef.length (v.num.coef.map (D.int .u32)) (by simp) (by omega) (fun m => unders_ints _) (ones_ints _) (fun H m g => mapO_ints _)
  have e2 := fun H => slices_Clone_string_string hX H n3 v.keys.length (v.keys.map D.str) (by simp) (by omega) (fun m => unders_strs _) (ones_strs _) (fun H m g => mapO_strs _)
  have e3 := fun H => slices_Clone_api_Value_api_Value hX H n2 v.list.length (Val.cellsL v.list) (Val.cellsL_length _) (by omega) (fun m => Val.unders_L _ _) (Val.ones_L _)
  have hst : ∀ b H i, storable b H i v.cells = true := fun b H i => storable_U (Val.unders v) (Val.ones v)
  rw [Val.cells_eq, Dec.cells_eq] at hst ⊢
  simp at hst
  simp [a_value_Clone_B, Env.ofArgs, List.nil_append, List.append_nil, e1, e2, e3, hst, storable]
  refine YS_ind (fun (k : Nat) e H' => H' = H ++ [.box [D.int IntKind.i64 v.kind, D.bool v.num.neg, SL (clF v.num.coefF) (List.map (D.int IntKind.u32) v.num.coef) v.num.coef.length, D.int IntKind.i64 v.num.exp, D.str v.text, D.osl (List.length H + 2) (v.list.length * 7) 0 v.list.length, SL (clF v.keysF) (List.map D.str v.keys) v.keys.length], .box z2, .row 7 (Val.cellsL (mixL v.list k)) (clN v.listF v.list.length)] ∧ k ≤ v.list.length ∧
    e.get 1 = .ptr H.length 0 ∧ e.get 2 = .ptr (H.length + 1) 0 ∧ e.get 20 = .osl (H.length + 2) (v.list.length * 7) 0 v.list.length ∧ e.get 21 = .int .i64 v.list.length ∧ e.get 22 = .int .i64 k) (fun k => v.list.length - k) ?_ 0 (by simp [mixL])
  rintro k e H' ⟨rfl, hk, g1, g2, g20, g21, g22⟩ L ih'
  have hml := mixL_len v.list k
  have hcl : (Val.cellsL (mixL v.list k)).length = v.list.length * 7 := by rw [Val.cellsL_length, hml]
  by_cases h : k < v.list.length
  · have hcn : clN v.listF v.list.length = false := by
      cases hq : v.list.length with
      | zero => omega
      | succ n => cases v.listF <;> rfl
    have h' : (k : Int) < v.list.length := by omega
    have hc := fun H => ih v.list[k] (by simp) H (n4 _ (by simp)) (Sm_of (s4 _ (by simp)))
    have hget : List.drop (k * 7) (Val.cellsL (mixL v.list k)) = v.list[k].cells ++ Val.rest (mixL v.list k) k := by
      rw [cellsL_get (l := mixL v.list k) (by omega), mixL_get h]
    have hset := cellsL_set (l := mixL v.list k) (k := k) (x := cl v.list[k]) (by omega)
    rw [mixL_set h] at hset
    have hst2 : ∀ b H i, storable b H i (cl v.list[k]).cells = true := fun b H i => storable_U (Val.unders _) (Val.ones _)
    have w1 : IntKind.i64.wrap ((k : Int) + 1) = (k : Int) + 1 := wrap_i64 (by omega) (by omega)
    have hk7 : k * 7 + 7 ≤ v.list.length * 7 := by omega
    rw [hcn]
    simp [a_value_Clone_L0, g1, g2, g20, g21, g22, h, h', hc, hcl, hget, hset, hst2, w1, hk7]
    refine ih' (k + 1) _ _ (by omega) ?_
    simp [g1, g2, g20, g21, hcn]
    omega
  · obtain rfl : k = v.list.length := by omega
    have e := mixL_all v.list
    rw [e] at hcl
    have hfz : ∀ (g : Nat) (x y : Chunk), fz (H ++ [x, y, .row 7 (Val.cellsL (v.list.map cl)) (clN v.listF v.list.length)]) H.length (g + 2) (.osl (H.length + 2) (v.list.length * 7) 0 v.list.length) = some (SL (clF v.listF) (Val.cellsL (v.list.map cl)) v.list.length) := fun g x y =>
      clN_SL (by omega) (by rw [getH]; rfl) hcl (Val.fz_L _) (Val.unders_L _ _) (Val.ones_L _)
    have hcv : (cl v).cells = [.int .i64 v.kind, .bool v.num.neg, SL (clF v.num.coefF) (v.num.coef.map (D.int .u32)) v.num.coef.length, .int .i64 v.num.exp, .str v.text, SL (clF v.listF) (Val.cellsL (v.list.map cl)) v.list.length, SL (clF v.keysF) (v.keys.map D.str) v.keys.length] := by
      rw [cl_eq, Val.cells_eq, Dec.cells_eq]; simp [Val.kind, Val.num, Val.text, Val.listF, Val.list, Val.keysF, Val.keys, Dec.neg, Dec.coefF, Dec.coef, Dec.exp]
    rw [hcv]
    simp [a_value_Clone_L0, FinR, FinP, finish, g1, g2, g20, g21, g22, e, z2, hfz, storable, loadD]
end
end Go.AM.T
/- Are two values one: the page's answer. -/
namespace Go.AM.T
section
variable {X : Ctx}
theorem take_next {α : Type} {a b : List α} {k : Nat} (ha : k < a.length) (hb : k < b.length) (h : a.take k = b.take k) (he : a[k] = b[k]) : a.take (k + 1) = b.take (k + 1) := by
  rw [List.take_succ_eq_append_getElem ha, List.take_succ_eq_append_getElem hb, h, he]
theorem take_all {α : Type} {a b : List α} {k : Nat} (ha : a.length = k) (hb : b.length = k) (h : a.take k = b.take k) : a = b := by
  rwa [List.take_of_length_le (by omega), List.take_of_length_le (by omega)] at h
theorem ne_at {α : Type} {a b : List α} {k : Nat} (ha : k < a.length) (hb : k < b.length) (he : a[k] ≠ b[k]) : ¬ a = b := fun q => by subst q; exact he rfl
theorem ref02_Same (hX : CX X) (H : Heap) (x y : Dec) (hx : (x.coef.length : Int) ≤ 9223372036854775807) : callΩ X (.func n_bolterref02_Same [] []) [.agg x.cells, .agg y.cells] H = some (.bool (decide (x.neg = y.neg ∧ x.coef = y.coef ∧ x.exp = y.exp)), H) := by
  refine c_bolterref02_Same hX (by simp) ?_
  by_cases h1 : x.neg = y.neg
  · by_cases h2 : x.exp = y.exp
    · by_cases h3 : x.coef.length = y.coef.length
      · simp [a_bolterref02_Same_B, Env.ofArgs, List.nil_append, List.append_nil, h1, h2, h3]
        refine YS_ind (fun k e H' => H' = H ∧ k ≤ y.coef.length ∧ e.get 2 = .fptr x.cells ∧ e.get 3 = .fptr y.cells ∧ e.get 5 = .int .i64 k ∧ x.coef.take k = y.coef.take k) (fun k => y.coef.length - k) ?_ 0 (by simp)
        rintro k e H' ⟨rfl, hk, g2, g3, g5, hd⟩ L ih
        by_cases h : k < y.coef.length
        · have h' : (k : Int) < y.coef.length := by omega
          have hkx : k < x.coef.length := by omega
          have l1 : loadD false 1 (List.drop k (x.coef.map (D.int .u32))) = some (.int .u32 x.coef[k]) := loadD_map hkx
          have l2 : loadD false 1 (List.drop k (y.coef.map (D.int .u32))) = some (.int .u32 y.coef[k]) := loadD_map h
          have w1 : IntKind.i64.wrap ((k : Int) + 1) = (k : Int) + 1 := wrap_i64 (by omega) (by omega)
          by_cases he : x.coef[k] = y.coef[k]
          · simp [a_bolterref02_Same_L0, g2, g3, g5, h3, h, h', l1, l2, he, w1]
            refine ih (k + 1) _ _ (by omega) ?_
            simp [g2, g3]
            exact ⟨by omega, take_next hkx h hd he⟩
          · have hne := ne_at hkx h he
            simp [a_bolterref02_Same_L0, FinR, FinP, finish, fz_osl, g2, g3, g5, h3, h, h', l1, l2, he, hne]
        · have hk2 : k = y.coef.length := by omega
          have heq := take_all (by omega) hk2.symm hd
          subst hk2
          simp [a_bolterref02_Same_L0, FinR, FinP, finish, fz_osl, g2, g3, g5, h3, heq]
      · have hne : ¬ x.coef = y.coef := fun q => h3 (by rw [q])
        have h3' : ¬ (x.coef.length : Int) = y.coef.length := by omega
        simp [a_bolterref02_Same_B, Env.ofArgs, List.nil_append, List.append_nil, FinR, FinP, finish, fz_osl, h1, h2, h3, h3', hne]
    · simp [a_bolterref02_Same_B, Env.ofArgs, List.nil_append, List.append_nil, FinR, FinP, finish, fz_osl, h1, h2]
  · have hb : (x.neg == y.neg) = false := by simp [h1]
    simp [a_bolterref02_Same_B, Env.ofArgs, List.nil_append, List.append_nil, FinR, FinP, finish, fz_osl, h1, hb]
theorem ref05_Same (hX : CX X) : ∀ (v w : Val) (H : Heap), v.wf → callΩ X (.func n_bolterref05_Same [] []) [.agg v.cells, .agg w.cells] H = some (.bool (decide (nrm v = nrm w)), H) := by
  intro v
  induction v using Val.ind with
  | h v ihv =>
  intro w H hw
  obtain ⟨hw1, hw2, hw3, hw4, hw5, hw6⟩ := Val.wf_iff.1 hw
  refine c_bolterref05_Same hX (by simp) ?_
  have hr : (decide (nrm v = nrm w)) = decide (v.kind = w.kind ∧ (v.num.neg = w.num.neg ∧ v.num.coef = w.num.coef ∧ v.num.exp = w.num.exp) ∧ v.text = w.text ∧ v.list.map nrm = w.list.map nrm ∧ v.keys = w.keys) := by
    rw [decide_eq_decide, nrm_iff]; simp only [and_assoc]
  rw [hr]
  have hdec := fun H => ref02_Same hX H v.num w.num hw1.2
  by_cases h1 : v.kind = w.kind
  · by_cases h2 : v.num.neg = w.num.neg ∧ v.num.coef = w.num.coef ∧ v.num.exp = w.num.exp
    · rw [decide_eq_true h2] at hdec
      by_cases h3 : v.text = w.text
      · by_cases h4 : v.list.length = w.list.length
        · by_cases h5 : v.keys.length = w.keys.length
          · simp [a_bolterref05_Same_B, Env.ofArgs, List.nil_append, List.append_nil, h1, hdec, h3, h4, h5]
            refine YS_ind (fun k e H' => H' = H ∧ k ≤ w.keys.length ∧ e.get 2 = .fptr v.cells ∧ e.get 3 = .fptr w.cells ∧ e.get 5 = .int .i64 k ∧ v.keys.take k = w.keys.take k) (fun k => w.keys.length - k) ?_ 0 (by simp)
            rintro k e H' ⟨rfl, hk, g2, g3, g5, hd⟩ L ih
            by_cases h : k < w.keys.length
            · have h' : (k : Int) < w.keys.length := by omega
              have hkx : k < v.keys.length := by omega
              have l1 : loadD false 1 (List.drop k (v.keys.map D.str)) = some (.str v.keys[k]) := loadD_map hkx
              have l2 : loadD false 1 (List.drop k (w.keys.map D.str)) = some (.str w.keys[k]) := loadD_map h
              have w1 : IntKind.i64.wrap ((k : Int) + 1) = (k : Int) + 1 := wrap_i64 (by omega) (by omega)
              by_cases he : v.keys[k] = w.keys[k]
              · simp [a_bolterref05_Same_L0, g2, g3, g5, h5, h, h', l1, l2, he, w1]
                refine ih (k + 1) _ _ (by omega) ?_
                simp [g2, g3]
                exact ⟨by omega, take_next hkx h hd he⟩
              · have hne := ne_at hkx h he
                simp [a_bolterref05_Same_L0, FinR, FinP, finish, fz_osl, g2, g3, g5, h5, h, h', l1, l2, he, hne]
            · have hk2 : k = w.keys.length := by omega
              have heq := take_all (by omega) hk2.symm hd
              subst hk2
              simp [a_bolterref05_Same_L0, g2, g3, g5, h5]
              clear ih
              refine YS_ind (fun k e H2 => H2 = H' ∧ k ≤ w.list.length ∧ e.get 2 = .fptr v.cells ∧ e.get 3 = .fptr w.cells ∧ e.get 6 = .int .i64 k ∧ (v.list.map nrm).take k = (w.list.map nrm).take k) (fun k => w.list.length - k) ?_ 0 (by simp [g2, g3])
              clear g2 g3 g5 hd hk
              rintro k e H2 ⟨rfl, hk, g2, g3, g6, hd⟩ L ih
              by_cases h : k < w.list.length
              · have h' : (k : Int) < w.list.length := by omega
                have hkx : k < v.list.length := by omega
                have w1 : IntKind.i64.wrap ((k : Int) + 1) = (k : Int) + 1 := wrap_i64 (by omega) (by omega)
                have hc := fun H => ihv v.list[k] (by simp) w.list[k] H (hw6 _ (by simp))
                by_cases he : nrm v.list[k] = nrm w.list[k]
                · simp [a_bolterref05_Same_L1, g2, g3, g6, h4, h, h', hkx, Val.cellsL_drop h, Val.cellsL_drop hkx, hc, he, w1]
                  refine ih (k + 1) _ _ (by omega) ?_
                  simp [g2, g3]
                  exact ⟨by omega, by have := take_next (a := v.list.map nrm) (b := w.list.map nrm) (by simpa using hkx) (by simpa using h) hd (by simpa using he); simpa using this⟩
                · have hne := ne_at (a := v.list.map nrm) (b := w.list.map nrm) (by simpa using hkx) (by simpa using h) (by simpa using he)
                  simp [a_bolterref05_Same_L1, FinR, FinP, finish, fz_osl, g2, g3, g6, h4, h, h', hkx, Val.cellsL_drop h, Val.cellsL_drop hkx, hc, he, hne]
              · have hk2 : k = w.list.length := by omega
                have heq2 := take_all (a := v.list.map nrm) (b := w.list.map nrm) (by simp; omega) (by simp; exact hk2.symm) hd
                subst hk2
                simp [a_bolterref05_Same_L1, FinR, FinP, finish, fz_osl, g2, g3, g6, h1, h2, h3, h4, heq, heq2]
          · have hne : ¬ v.keys = w.keys := fun q => h5 (by rw [q])
            have h5' : ¬ (v.keys.length : Int) = w.keys.length := by omega
            simp [a_bolterref05_Same_B, Env.ofArgs, List.nil_append, List.append_nil, FinR, FinP, finish, fz_osl, h1, hdec, h3, h4, h5, h5', hne]
        · have hne : ¬ v.list.map nrm = w.list.map nrm := fun q => h4 (by simpa using congrArg List.length q)
          have h4' : ¬ (v.list.length : Int) = w.list.length := by omega
          simp [a_bolterref05_Same_B, Env.ofArgs, List.nil_append, List.append_nil, FinR, FinP, finish, fz_osl, h1, hdec, h3, h4, h4', hne]
      · simp [a_bolterref05_Same_B, Env.ofArgs, List.nil_append, List.append_nil, FinR, FinP, finish, fz_osl, h1, hdec, h3]
    · rw [decide_eq_false h2] at hdec
      simp [a_bolterref05_Same_B, Env.ofArgs, List.nil_append, List.append_nil, FinR, FinP, finish, fz_osl, h1, hdec, h2]
  · simp [a_bolterref05_Same_B, Env.ofArgs, List.nil_append, List.append_nil, FinR, FinP, finish, fz_osl, h1]
theorem ref05_SameAll (hX : CX X) (H : Heap) (f g : Nl) (l r : List Val) (hl : (l.length : Int) ≤ 9223372036854775807) (hw : ∀ v ∈ l, v.wf) :
    callΩ X (.func n_bolterref05_SameAll [] []) [SL f (Val.cellsL l) l.length, SL g (Val.cellsL r) r.length] H = some (.bool (decide (l.map nrm = r.map nrm)), H) := by
  refine c_bolterref05_SameAll hX (by simp) ?_
  have h := fun H => ref05_Same hX (.mk 5 (.mk false .nil [] 0) [] f l .nil []) (.mk 5 (.mk false .nil [] 0) [] g r .nil []) H (by
    rw [Val.wf_iff]
    refine ⟨⟨?_, ?_⟩, ?_, hl, ?_, ?_, hw⟩
    · intro x hx; simp [Val.num, Dec.coef] at hx
    · simp [Val.num, Dec.coef]
    · simp [Val.text]
    · simp [Val.keys]
    · intro x hx; simp [Val.keys] at hx)
  have hd : decide (nrm (.mk 5 (.mk false .nil [] 0) [] f l .nil []) = nrm (.mk 5 (.mk false .nil [] 0) [] g r .nil [])) = decide (l.map nrm = r.map nrm) := by
    rw [decide_eq_decide, nrm_iff]; simp [Val.kind, Val.num, Val.text, Val.list, Val.keys, Dec.neg, Dec.coef, Dec.exp]
  rw [hd] at h
  simp [Val.cells_eq, Dec.cells_eq, Val.kind, Val.num, Val.text, Val.list, Val.listF, Val.keysF, Val.keys, Dec.neg, Dec.coef, Dec.coefF, Dec.exp] at h
  have hs : SL .nil [] 0 = .nilsl := rfl
  simp only [hs] at h
  simp [a_bolterref05_SameAll_B, Env.ofArgs, List.nil_append, List.append_nil, FinR, FinP, finish, fz_osl, z2, h]
end
end Go.AM.T
