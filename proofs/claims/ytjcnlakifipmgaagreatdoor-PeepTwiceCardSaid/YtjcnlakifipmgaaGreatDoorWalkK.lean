/- Instructions that are read; pooling. -/
import Derived.Test.YtjcnlakifipmgaaGreatDoorWalkJ
set_option linter.unusedVariables false
set_option linter.unusedSimpArgs false
set_option linter.unnecessarySimpa false
set_option maxRecDepth 100000
/- Instructions that are read, of a value or of memory; threading of them. -/
namespace Go.AM.T
section
variable {X : Ctx}
instance : DecidableEq Instr := fun x y => decidable_of_iff (x.op = y.op ∧ x.a = y.a ∧ x.b = y.b) ⟨Instr.ext_all, fun h => by subst h; simp⟩
theorem eqA3 (x y : Instr) : eqKs [.i, .i, .i] x.cells y.cells = some (decide (x = y)) := by
  have : x = y ↔ x.op = y.op ∧ x.a = y.a ∧ x.b = y.b := ⟨fun h => by subst h; simp, fun h => Instr.ext_all h⟩
  rw [Instr.cells_eq, Instr.cells_eq y]
  simp only [List.cons_append, List.nil_append]
  rw [eqKs_i, eqKs_i, eqKs_i]
  by_cases h1 : x.op = y.op
  · by_cases h2 : x.a = y.a
    · by_cases h3 : x.b = y.b
      · rw [decide_eq_true (this.2 ⟨h1, h2, h3⟩), if_pos h1, if_pos h2, if_pos h3]; rfl
      · rw [decide_eq_false (fun q => h3 (this.1 q).2.2), if_pos h1, if_pos h2, if_neg h3]
    · rw [decide_eq_false (fun q => h2 (this.1 q).2.1), if_pos h1, if_neg h2]
  · rw [decide_eq_false (fun q => h1 (this.1 q).1), if_neg h1]
structure RdI (H : Heap) (l : List Instr) (d : D) (p : Nat → Nat → D) : Prop where
  ok : ∀ H', okD d H' = some (d, H')
  len : ∀ H', lenK false d H' = some (.int .i64 l.length, H')
  ia : ∀ H' k (j : Int), iaddrK 3 d (.int k j) H' = if 0 ≤ j ∧ j < l.length then some (p j.toNat 0, H') else none
  fa : ∀ j o o' H', faddrK o (p j o') H' = some (p j (o' + o), H')
  ld : ∀ x j (h : j < l.length) o, cellsAt (H ++ x) (p j o) = some ((l[j].cells ++ Instr.rest l j).drop o)
  el : ∀ x, elems (H ++ x) 3 d = some (Instr.cellsL l, l.length)
  nn : eqSl d .nilsl = some false
  cel : d.cells = [d]
  one : d.one = true
  und : ∀ m, H.length ≤ m → d.under m = true
theorem RdI.frz (H : Heap) {l : List Instr} (hp : 0 < l.length) : RdI H l (.fsl (Instr.cellsL l) l.length) (fun j o => .fptr (((Instr.cellsL l).drop (j * 3)).drop o)) where
  ok _ := rfl
  len _ := rfl
  ia _ _ _ := rfl
  fa j o o' H' := by rw [faddrK_fptr, List.drop_drop]
  ld x j h o := by rw [cellsAt_fptr, Instr.cellsL_drop h]
  el x := by simp [elems, Instr.cellsL_length]
  nn := rfl
  cel := rfl
  one := rfl
  und _ _ := rfl
theorem RdI.own {H : Heap} {l : List Instr} {id : Nat} (h : H[id]? = some (.row 3 (Instr.cellsL l) false)) (hp : 0 < l.length) : RdI H l (.osl id (l.length * 3) 0 l.length) (fun j o => .rptr id (l.length * 3) (j * 3 + o)) := by
  have hid : id < H.length := (List.getElem?_eq_some_iff.1 h).1
  have hx : ∀ x : Heap, (H ++ x)[id]? = some (.row 3 (Instr.cellsL l) false) := fun x => by rw [List.getElem?_append_left hid]; exact h
  refine ⟨fun _ => rfl, fun _ => rfl, fun _ _ j => ?_, fun j o o' H' => ?_, fun x j h o => ?_, fun x => ?_, ?_, rfl, rfl, fun m hm => ?_⟩
  · simp [iaddrK_osl]
  · simp [Nat.add_assoc]
  · rw [cellsAt_rptr, hx, rowO_row, bindO_some, if_pos (Instr.cellsL_length _), ← List.drop_drop, Instr.cellsL_drop h]
  · simp [elems, hx, Instr.cellsL_length, List.take_of_length_le]
  · obtain ⟨n, hn⟩ : ∃ n, l.length = n + 1 := ⟨l.length - 1, by omega⟩
    rw [hn]; rfl
  · rw [under_osl, Nat.blt_eq]; omega
theorem RdI.grow {H : Heap} {l : List Instr} {d : D} {p : Nat → Nat → D} (h : RdI H l d p) (y : Heap) : RdI (H ++ y) l d p where
  ok := h.ok
  len := h.len
  ia := h.ia
  fa := h.fa
  ld x j hj o := by rw [List.append_assoc]; exact h.ld _ j hj o
  el x := by rw [List.append_assoc]; exact h.el _
  nn := h.nn
  cel := h.cel
  one := h.one
  und m hm := h.und m (by rw [List.length_append] at hm; omega)
variable {H : Heap} {l : List Instr} {d : D} {p : Nat → Nat → D}
theorem RdI.ld0 (h : RdI H l d p) (j : Nat) (hj : j < l.length) (o : Nat) : cellsAt H (p j o) = some ((l[j].cells ++ Instr.rest l j).drop o) := by
  have := h.ld [] j hj o
  simpa using this
theorem RdI.el0 (h : RdI H l d p) : elems H 3 d = some (Instr.cellsL l, l.length) := by
  have := h.el []
  simpa using this
theorem clone_I (hX : CX X) (hr : RdI H l d p) (hl : l.length ≤ 16384) :
    callΩ X (.func n_slices_Clone_api_Instr_api_Instr [] []) [d] H = some (.osl H.length (l.length * 3) 0 l.length, H ++ [.row 3 (Instr.cellsL l) false]) := by
  refine c_slices_Clone_api_Instr_api_Instr hX (by simp) ?_
  have hb1 : l.length * 24 ≤ maxBytes := by unfold maxBytes; omega
  have hb2 : l.length ≤ maxBytes := by unfold maxBytes; omega
  have hst : ∀ b H i, storable b H i (Instr.cellsL l) = true := fun b H i => storable_U (fun m => Instr.unders_L _ _) (Instr.ones_L _)
  have hs0 : ∀ b H i, storable b H i [] = true := fun _ _ _ => rfl
  have hcl := Instr.cellsL_length l
  by_cases hp : l.length = 0
  · have : l = [] := List.length_eq_zero_iff.1 hp
    subst this
    simp [a_slices_Clone_api_Instr_api_Instr_B, Env.ofArgs, List.nil_append, List.append_nil, FinR, FinP, finish, fz_osl, appendD, hr.ok, hr.nn, hr.el, hst, hs0, hb1, hb2, Instr.cellsL, maxBytes]
  · have hu : ∀ m, D.unders m (Instr.cellsL l) = true := fun m => Instr.unders_L _ _
    simp [a_slices_Clone_api_Instr_api_Instr_B, Env.ofArgs, List.nil_append, List.append_nil, FinR, FinP, finish, fz_osl, appendD, hr.ok, hr.nn, hr.el, hst, hs0, hcl, hb1, hb2, hu, hp]
set_option maxHeartbeats 1000000 in
theorem land_I (hX : CX X) (hr : RdI H l d p) (hg : Good l) (i : Nat) (hi : i < l.length) :
    callΩ X (.func n_peep_land [] []) [d, .int .i64 i] H = some (.int .i64 (landS l (List.replicate l.length false) i), H) := by
  refine c_peep_land hX (by simp) ?_
  simp [a_peep_land_B, Env.ofArgs, List.nil_append, List.append_nil]
  refine YS_ind (fun (q : List (Int × Bool) × List Bool × Nat) e H' => H' = H ++ [.map q.1] ∧ q.2.1.length = l.length ∧ q.2.2 < l.length ∧ (∀ (j : Nat) (h : j < q.2.1.length), mapGet j q.1 = q.2.1[j]) ∧ e.get 0 = d ∧ e.get 1 = .int .i64 q.2.2 ∧ e.get 5 = .mp H.length ∧
    landS l (List.replicate l.length false) i = landS l q.2.1 q.2.2) (fun q => q.2.1.count false) ?_ ([], List.replicate l.length false, i) (by simp [hi, mapGet])
  rintro ⟨es, m, k⟩ e H' ⟨rfl, hml, hk, hes, g0, g1, g5, hd⟩ L ih
  simp only at hml hk hes g0 g1 g5 hd ih
  have hk' : (k : Int) < l.length := by omega
  have hkl : ¬ l.length ≤ k := by omega
  have hk1 : k + 1 ≤ l.length := by omega
  have hkm : k < m.length := by omega
  have hek := hes k hkm
  have hld := fun x o => hr.ld x k hk o
  rw [landS.eq_def l m k, dif_pos ⟨hk, hkm⟩, List.getElem?_eq_getElem hkm] at hd
  by_cases h5 : l[k].op = 5
  · cases hmk : m[k] with
    | false =>
      rw [hmk] at hek hd
      simp [h5] at hd
      have hgo := hg.go k hk (by rw [h5]; simp [goesL])
      obtain ⟨a, ha⟩ : ∃ a : Nat, l[k].a = a := ⟨l[k].a.toNat, by omega⟩
      rw [ha] at hd hgo
      simp at hd
      simp [a_peep_land_L0, g0, g1, g5, hk, hk', hkl, hk1, hek, hld, hr.ok, hr.ia, hr.fa, Instr.u_a, h5, ha]
      refine ih (mapSet k true es, m.set k true, a) _ _ ?_ ?_
      · have h3 : (m.set k true).count false = m.count false - 1 := by rw [List.count_set hkm]; simp [hmk]
        have : 0 < m.count false := by rw [List.count_pos_iff, ← hmk]; exact List.getElem_mem hkm
        simp only; omega
      · simp [g0, g5, hml, hd]
        refine ⟨by omega, fun j hj => ?_⟩
        rw [mapGet_set, List.getElem_set]
        by_cases q : k = j
        · subst q; simp
        · rw [if_neg (by omega), if_neg q]; exact hes j (by omega)
    | true =>
      rw [hmk] at hek hd
      simp [h5] at hd
      simp [a_peep_land_L0, FinR, FinP, finish, fz_osl, g0, g1, g5, hk, hk', hkl, hk1, hek, hld, hr.ok, hr.ia, hr.fa, h5, hd]
  · simp [h5] at hd
    simp [a_peep_land_L0, FinR, FinP, finish, fz_osl, g0, g1, g5, hk, hk', hkl, hk1, hek, hld, hr.ok, hr.ia, hr.fa, h5, hd]
set_option maxHeartbeats 1000000 in
theorem thread_I (hX : CX X) (hr : RdI H l d p) (hg : Good l) :
    callΩ X (.func n_peep_thread [] []) [d] H = some (.fsl (Instr.cellsL (thr l)) l.length, H) := by
  refine c_peep_thread hX (by simp) ?_
  have htop := hg.top
  have e1 := clone_I hX hr htop
  simp [a_peep_thread_B, Env.ofArgs, List.nil_append, List.append_nil, hr.ok, e1]
  refine YS_ind (fun (k : Nat) e H' => H' = H ++ [.row 3 (Instr.cellsL (mixI l k)) false] ∧ k ≤ l.length ∧ e.get 0 = d ∧ e.get 3 = .osl H.length (l.length * 3) 0 l.length ∧ e.get 8 = .osl H.length (l.length * 3) 0 l.length ∧ e.get 9 = .int .i64 l.length ∧ e.get 10 = .int .i64 k) (fun k => l.length - k) ?_ 0 (by simp [mixI])
  rintro k e H' ⟨rfl, hk, g0, g3, g8, g9, g10⟩ L ih
  have hml := mixI_len l k
  have hcl : (Instr.cellsL (mixI l k)).length = l.length * 3 := by rw [Instr.cellsL_length, hml]
  by_cases h : k < l.length
  · have h' : (k : Int) < l.length := by omega
    have hget : List.drop (k * 3) (Instr.cellsL (mixI l k)) = l[k].cells ++ Instr.rest (mixI l k) k := by
      rw [Instr.cellsL_drop (l := mixI l k) (by omega), mixI_get h]
    have w1 : IntKind.i64.wrap ((k : Int) + 1) = (k : Int) + 1 := wrap_i64 (by omega) (by omega)
    have hk3 : k * 3 + 1 + 1 ≤ l.length * 3 := by omega
    have hgo := fun H => code_Goes hX l[k].op H
    by_cases c1 : l[k].op ∈ goesL
    · rw [decide_eq_true c1] at hgo
      obtain ⟨a0, a1⟩ := hg.go k h c1
      obtain ⟨a, ha⟩ : ∃ a : Nat, l[k].a = a := ⟨l[k].a.toNat, by omega⟩
      have hl := fun x => land_I hX (hr.grow x) hg a (by omega)
      have hset := insL_set (l := mixI l k) (k := k) (by omega) (landS l (noM l) a)
      rw [mixI_get h] at hset
      have hti : thrI l l[k] = .mk l[k].op (landS l (noM l) a) l[k].b := by unfold thrI; rw [if_pos c1, ha]; rfl
      rw [← hti, mixI_set h] at hset
      unfold noM at hset
      simp [a_peep_thread_L0, g0, g3, g8, g9, g10, h, h', hgo, ha, hl, hcl, hget, hset, w1, hk3, Instr.u_a, hr.ok]
      refine ih (k + 1) _ _ (by omega) ?_
      simp [g0, g3, g8, g9]
      omega
    · rw [decide_eq_false c1] at hgo
      have hsk := mixI_skip h c1
      simp [a_peep_thread_L0, g0, g3, g8, g9, g10, h, h', hgo, hcl, hget, w1]
      refine ih (k + 1) _ _ (by omega) ?_
      simp [g0, g3, g8, g9, hsk]
      omega
  · obtain rfl : k = l.length := by omega
    have e := mixI_all l
    rw [e] at hcl
    have ht : List.take (l.length * 3) (Instr.cellsL (thr l)) = Instr.cellsL (thr l) := List.take_of_length_le (by omega)
    have hu : ∀ n, D.unders n (Instr.cellsL (thr l)) = true := fun n => Instr.unders_L _ _
    have hz : ∀ H n f, mapO (fz H n (f + 1)) (Instr.cellsL (thr l)) = some (Instr.cellsL (thr l)) := fun H n f => Instr.fz_L _
    simp [a_peep_thread_L0, FinR, FinP, finish, fz_osl, g0, g3, g8, g9, g10, e, hcl, ht, hu, hz, Instr.ones_L]
theorem equal_I (hX : CX X) (hr : RdI H l d p) (hl : l.length ≤ 16384) (r : List Instr) :
    callΩ X (.func n_slices_Equal_api_Instr_api_Instr [] []) [.fsl (Instr.cellsL r) r.length, d] H = some (.bool (decide (r = l)), H) := by
  refine c_slices_Equal_api_Instr_api_Instr hX (by simp) ?_
  by_cases h4 : r.length = l.length
  · simp [a_slices_Equal_api_Instr_api_Instr_B, Env.ofArgs, List.nil_append, List.append_nil, h4, hr.ok, hr.len]
    refine YS_ind (fun k e H2 => H2 = H ∧ k ≤ l.length ∧ e.get 0 = .fsl (Instr.cellsL r) l.length ∧ e.get 1 = d ∧ e.get 12 = .int .i64 l.length ∧ e.get 13 = .int .i64 k ∧ r.take k = l.take k) (fun k => l.length - k) ?_ 0 (by simp [h4])
    rintro k e H2 ⟨rfl, hk, g0, g1, g12, g13, hd⟩ L ih
    by_cases h : k < l.length
    · have h' : (k : Int) < l.length := by omega
      have hkx : k < r.length := by omega
      have w1 : IntKind.i64.wrap ((k : Int) + 1) = (k : Int) + 1 := wrap_i64 (by omega) (by omega)
      have hld := fun o => hr.ld0 k h o
      have hq := eqA3 r[k] l[k]
      by_cases he : r[k] = l[k]
      · rw [decide_eq_true he] at hq
        simp [a_slices_Equal_api_Instr_api_Instr_L0, g0, g1, g12, g13, h, h', hkx, Instr.cellsL_drop hkx, hld, hr.ok, hr.ia, hq, w1]
        refine ih (k + 1) _ _ (by omega) ?_
        simp [g0, g1, g12]
        exact ⟨by omega, take_next hkx h hd he⟩
      · rw [decide_eq_false he] at hq
        have hne := ne_at hkx h he
        simp [a_slices_Equal_api_Instr_api_Instr_L0, FinR, FinP, finish, fz_osl, g0, g1, g12, g13, h, h', hkx, Instr.cellsL_drop hkx, hld, hr.ok, hr.ia, hq, hne]
    · have hk2 : k = l.length := by omega
      have heq2 := take_all (by omega) hk2.symm hd
      subst hk2
      simp [a_slices_Equal_api_Instr_api_Instr_L0, FinR, FinP, finish, fz_osl, g0, g1, g12, g13, heq2]
  · have hne : ¬ r = l := fun q => h4 (by rw [q])
    have h4' : ¬ (r.length : Int) = l.length := by omega
    simp [a_slices_Equal_api_Instr_api_Instr_B, Env.ofArgs, List.nil_append, List.append_nil, FinR, FinP, finish, fz_osl, h4, h4', hne, hr.ok, hr.len]
end
end Go.AM.T
/- Constants that are named, each once: the walk. -/
namespace Go.AM.T
section
variable {X : Ctx}
set_option maxHeartbeats 2000000 in
theorem pool_I (hX : CX X) {H : Heap} {l : List Instr} {d : D} {p : Nat → Nat → D} (hr : RdI H l d p) (hl : l.length ≤ 16384) (g : Nl) (cs : List Val) (hc : ∀ x ∈ l, x.op = 1 → 0 ≤ x.a ∧ x.a < cs.length) (hv : ∀ v ∈ cs, v.wf ∧ nE v ∧ allS v = 0) :
    callΩ X (.func n_peep_pool [] []) [.agg [d, SL g (Val.cellsL cs) cs.length]] H = some (.agg (Code.mk .full (poolG cs l []).1 .nil (poolG cs l []).2).cells, H) := by
  refine c_peep_pool hX (by simp) ?_
  have e1 := fun x => clone_I hX (hr.grow x) hl
  have hund := fun m h => hr.und m h
  simp [a_peep_pool_B, Env.ofArgs, List.nil_append, List.append_nil, e1, z1, reserve, storable, hr.one, hund, hr.ok, hr.cel]
  refine YS_ind (fun (q : Nat × List Instr × List Val) e H' => H' = H ++ [.box [d, SL g (Val.cellsL cs) cs.length], .box [.nilsl, .nilsl], .row 3 (Instr.cellsL (q.2.1 ++ l.drop q.1)) false, .row 7 (Val.cellsL q.2.2) (clN .nil q.2.2.length), .box [.osl (H.length + 2) (l.length * 3) 0 l.length, .osl (H.length + 3) (q.2.2.length * 7) 0 q.2.2.length]] ∧
    q.1 ≤ l.length ∧ q.2.1.length = q.1 ∧ q.2.2.length ≤ q.1 ∧ poolG cs l [] = (q.2.1 ++ (poolG cs (l.drop q.1) q.2.2).1, (poolG cs (l.drop q.1) q.2.2).2) ∧
    e.get 1 = .ptr H.length 0 ∧ e.get 2 = .ptr (H.length + 1) 0 ∧ e.get 3 = .ptr (H.length + 4) 0 ∧ e.get 13 = .osl (H.length + 2) (l.length * 3) 0 l.length ∧ e.get 14 = .int .i64 l.length ∧ e.get 15 = .int .i64 q.1) (fun q => l.length - q.1) ?_ (0, [], []) (by simp [Val.cellsL, clN])
  rintro ⟨k, done, ws⟩ e H' ⟨rfl, hk, hdl, hwl, hpg, g1, g2, g3, g13, g14, g15⟩ L ih
  simp only at hk hdl hwl hpg g1 g2 g3 g13 g14 g15 ih
  have hLl : (done ++ l.drop k).length = l.length := by rw [List.length_append, List.length_drop]; omega
  have hcl : (Instr.cellsL (done ++ l.drop k)).length = l.length * 3 := by rw [Instr.cellsL_length, hLl]
  have hcw := Val.cellsL_length ws
  by_cases h : k < l.length
  · have h' : (k : Int) < l.length := by omega
    have w1 : IntKind.i64.wrap ((k : Int) + 1) = (k : Int) + 1 := wrap_i64 (by omega) (by omega)
    have hgk : (done ++ l.drop k)[k]? = some l[k] := by
      rw [List.getElem?_append_right (by omega), hdl, Nat.sub_self, List.drop_eq_getElem_cons h]; rfl
    have hkL : k < (done ++ l.drop k).length := by omega
    have hgk' : (done ++ l.drop k)[k] = l[k] := by
      rw [List.getElem?_eq_getElem hkL] at hgk; exact Option.some.inj hgk
    have hget : List.drop (k * 3) (Instr.cellsL (done ++ l.drop k)) = l[k].cells ++ Instr.rest (done ++ l.drop k) k := by
      rw [Instr.cellsL_drop hkL, hgk']
    have hset := fun a => insL_set hkL a
    have hsl : ∀ y : Instr, (done ++ l.drop k).set k y = done ++ [y] ++ l.drop (k + 1) := fun y => by
      rw [List.set_append_right _ _ (by omega), hdl, Nat.sub_self, List.drop_eq_getElem_cons h, List.set_cons_zero, List.append_assoc]; rfl
    have hk3 : k * 3 + 1 + 1 ≤ l.length * 3 := by omega
    rw [List.drop_eq_getElem_cons h, poolG] at hpg
    by_cases c1 : l[k].op = 1
    · obtain ⟨a0, a1⟩ := hc l[k] (by simp) c1
      obtain ⟨a, ha⟩ : ∃ a : Nat, l[k].a = a := ⟨l[k].a.toNat, by omega⟩
      have ha1 : a < cs.length := by omega
      have ha1' : (a : Int) < cs.length := by omega
      have hca : cAt cs l[k].a = cs[a] := by unfold cAt; rw [ha, Int.toNat_natCast, List.getElem?_eq_getElem ha1]; rfl
      obtain ⟨v1, v2, v3⟩ := hv cs[a] (by simp)
      rw [if_pos c1, hca] at hpg
      have hidx := fun H' hr => index_same hX H' (H.length + 3) ws (clN .nil ws.length) cs[a] v1 (by omega) hr (by cases ws <;> simp [clN])
      have hclo := fun H => value_Clone hX cs[a] H v2 (Sm_of v3)
      have hlL := Val.cellsL_drop ha1
      generalize cs[a] = v at *
      by_cases hx : ix v ws < ws.length
      · have haw : addW v ws = ws := by unfold addW; rw [if_pos hx]
        rw [haw] at hpg
        have hxi : ¬ ((ix v ws : Nat) : Int) < 0 := by omega
        simp [hx] at hidx
        have hst := hset (ix v ws)
        rw [hgk', hsl] at hst
        simp [a_peep_pool_L0, g1, g2, g3, g13, g14, g15, h, h', hcl, hget, c1, ha, ha1, ha1', hlL, hidx, Instr.u_a, hst, w1, hk3, hxi, D.defd]
        refine ih (k + 1, done ++ [.mk 1 (ix v ws) l[k].b], ws) _ _ (by simp; omega) ?_
        rw [c1] at hpg
        simp [g1, g2, g3, g13, g14, hpg, hdl]
        omega
      · have haw : addW v ws = ws ++ [cl v] := by unfold addW; rw [if_neg hx]
        have hxl : ix v ws = ws.length := Nat.le_antisymm (ix_le _ _) (by omega)
        rw [haw, hxl] at hpg
        simp [hx] at hidx
        have hst := hset ws.length
        rw [hgk', hsl] at hst
        have hap : ∀ b H', H'[H.length + 3]? = some (Chunk.row 7 (Val.cellsL ws) (clN .nil ws.length)) → appendD b H' 7 112 (.osl (H.length + 3) (ws.length * 7) 0 ws.length) (cl v).cells 1 = some (.osl (H.length + 3) ((ws.length + 1) * 7) 0 (ws.length + 1), H'.set (H.length + 3) (.row 7 (Val.cellsL (ws ++ [cl v])) false)) := fun b H' hr => by
          rw [appendD_full hr hcw rfl (by cases ws <;> simp [clN]) (by unfold maxBytes; omega) (by unfold maxBytes; omega) (storable_U (Val.unders _) (Val.ones _)) (by omega), Val.cellsL_append, Nat.add_mul]
          simp [Val.cellsL]
        have hcn2 : clN .nil (ws.length + 1) = false := rfl
        simp [a_peep_pool_L0, g1, g2, g3, g13, g14, g15, h, h', hcl, hget, c1, ha, ha1, ha1', hlL, hidx, Instr.u_a, hst, w1, hk3, D.defd, hclo, hap, z2, elems, storable]
        refine ih (k + 1, done ++ [.mk 1 ws.length l[k].b], ws ++ [cl v]) _ _ (by simp; omega) ?_
        rw [c1] at hpg
        simp [g1, g2, g3, g13, g14, hcn2, hpg, hdl]
        omega
    · rw [if_neg c1] at hpg
      simp [a_peep_pool_L0, g1, g2, g3, g13, g14, g15, h, h', hcl, hget, c1, w1]
      refine ih (k + 1, done ++ [l[k]], ws) _ _ (by simp; omega) ?_
      simp [g1, g2, g3, g13, g14, hpg, hdl]
      omega
  · obtain rfl : k = l.length := by omega
    simp [poolG] at hpg
    have hd : done ++ l.drop l.length = done := by simp
    rw [hd] at hcl ⊢
    have hfz1 : ∀ (g : Nat) (x y z u : Chunk), fz (H ++ [x, y, .row 3 (Instr.cellsL done) false, z, u]) H.length (g + 2) (.osl (H.length + 2) (l.length * 3) 0 l.length) = some (.fsl (Instr.cellsL done) l.length) := fun g x y z u => by
      rw [← SL_full]
      exact clN_SL (f := .full) (by omega) (by rw [getH]; simp [clN]) hcl (Instr.fz_L _) (Instr.unders_L _ _) (Instr.ones_L _)
    have hfz2 : ∀ (g : Nat) (x y z u : Chunk), fz (H ++ [x, y, z, .row 7 (Val.cellsL ws) (clN .nil ws.length), u]) H.length (g + 2) (.osl (H.length + 3) (ws.length * 7) 0 ws.length) = some (SL .nil (Val.cellsL ws) ws.length) := fun g x y z u =>
      clN_SL (f := .nil) (by omega) (by rw [getH]; rfl) hcw (Val.fz_L _) (Val.unders_L _ _) (Val.ones_L _)
    have hcv := code_cells .full done .nil ws
    rw [SL_full] at hcv
    rw [hpg, hcv]
    simp [a_peep_pool_L0, FinR, FinP, finish, g1, g2, g3, g13, g14, g15, hfz1, hfz2, loadD_t2, storable, hdl]
end
end Go.AM.T
