/- The abstract machine: regions in any order. -/
import Derived.Test.YtjcnlakifipmgaaGreatDoorAmD
set_option linter.unusedVariables false
set_option linter.unusedSimpArgs false
set_option linter.unnecessarySimpa false
set_option maxRecDepth 100000
/- What an operation reads; what it does not look at. -/
namespace Go.AM

mutual
theorem D.beq_eq : ∀ (x y : D), x.beq y = true → x = y
  | .undef, y, h => by cases y <;> simp [D.beq] at h ⊢
  | .bool a, y, h => by cases y <;> simp [D.beq] at h ⊢; exact h
  | .int k a, y, h => by cases y <;> simp [D.beq] at h ⊢; exact h
  | .str a, y, h => by cases y <;> simp [D.beq] at h ⊢; exact h
  | .nilp, y, h => by cases y <;> simp [D.beq] at h ⊢
  | .nilsl, y, h => by cases y <;> simp [D.beq] at h ⊢
  | .nilf, y, h => by cases y <;> simp [D.beq] at h ⊢
  | .esl, y, h => by cases y <;> simp [D.beq] at h ⊢
  | .fptr a, y, h => by cases y <;> simp [D.beq] at h ⊢; exact D.beqs_eq _ _ h
  | .fsl a n, y, h => by cases y <;> simp [D.beq] at h ⊢; exact ⟨D.beqs_eq _ _ h.2, h.1⟩
  | .ptr a o, y, h => by cases y <;> simp [D.beq] at h ⊢; exact h
  | .rptr a g o, y, h => by cases y <;> simp [D.beq] at h ⊢; exact ⟨h.1.1, h.1.2, h.2⟩
  | .osl a g o n, y, h => by cases y <;> simp [D.beq] at h ⊢; exact ⟨h.1.1.1, h.1.1.2, h.1.2, h.2⟩
  | .func f a c, y, h => by cases y <;> simp [D.beq] at h ⊢; exact ⟨h.1.1, D.beqs_eq _ _ h.1.2, D.beqs_eq _ _ h.2⟩
  | .yield a, y, h => by cases y <;> simp [D.beq] at h ⊢; exact h
  | .mp a, y, h => by cases y <;> simp [D.beq] at h ⊢; exact h
  | .agg a, y, h => by cases y <;> simp [D.beq] at h ⊢; exact D.beqs_eq _ _ h
  | .tup a, y, h => by cases y <;> simp [D.beq] at h ⊢; exact D.beqs_eq _ _ h
  | .sym _ _, y, h => by cases y <;> simp [D.beq] at h ⊢; exact h
theorem D.beqs_eq : ∀ (x y : List D), D.beqs x y = true → x = y
  | [], y, h => by cases y <;> simp [D.beqs] at h ⊢
  | a :: as, y, h => by
    cases y with
    | nil => simp [D.beqs] at h
    | cons b bs =>
      simp only [D.beqs, Bool.and_eq_true] at h
      rw [D.beq_eq a b h.1, D.beqs_eq as bs h.2]
end

/-- Alike at the temporaries of a list. -/
def Like (l : List Nat) (e e' : Env) : Prop := ∀ t ∈ l, e.get t = e'.get t

section
variable {G : Nat → Option (List D)} {b : Nat} {call : D → List D → Heap → Option (D × Heap)} {e e' : Env} {H : Heap}

theorem reads_arg {x : Arg} {l : List Nat} (h : Like (x.reads l) e e') : evalA G e x = evalA G e' x ∧ Like l e e' := by
  cases x with
  | t i => exact ⟨h i (by simp [Arg.reads]), fun t ht => h t (by simp [Arg.reads, ht])⟩
  | c d => exact ⟨rfl, h⟩
  | g n => exact ⟨rfl, h⟩

theorem reads_as {l : List Nat} : ∀ {xs : List Arg}, Like (readsAs l xs) e e' → evalAs G e xs = evalAs G e' xs ∧ Like l e e'
  | [], h => ⟨rfl, h⟩
  | x :: r, h => by
    obtain ⟨h1, h2⟩ := reads_arg (G := G) h
    obtain ⟨h3, h4⟩ := reads_as h2
    exact ⟨by simp only [evalAs, h1, h3], h4⟩

theorem reads_ps {l : List Nat} : ∀ {xs : List (Nat × Nat × Arg)}, Like (readsPs l xs) e e' → evalPs G e xs = evalPs G e' xs ∧ Like l e e'
  | [], h => ⟨rfl, h⟩
  | (_, _, x) :: r, h => by
    obtain ⟨h1, h2⟩ := reads_arg (G := G) h
    obtain ⟨h3, h4⟩ := reads_ps h2
    exact ⟨by simp only [evalPs, h1, h3], h4⟩

theorem reads_o {l : List Nat} {x : Option Arg} (h : Like (readsO l x) e e') : evalO G e x = evalO G e' x ∧ Like l e e' := by
  cases x with
  | none => exact ⟨rfl, h⟩
  | some x =>
    obtain ⟨h1, h2⟩ := reads_arg (G := G) h
    exact ⟨by simp only [evalO, h1], h2⟩

theorem step_like {ao : AOp} {l : List Nat} (h : Like (ao.reads l) e e') : step G b call e H ao = step G b call e' H ao ∧ Like l e e' := by
  cases ao
  case resv => exact ⟨rfl, h⟩
  case allocB => exact ⟨rfl, h⟩
  case hole => exact ⟨rfl, h⟩
  case bad => exact ⟨rfl, h⟩
  case mkmap => exact ⟨rfl, h⟩
  case mget x y =>
    obtain ⟨h1, h⟩ := reads_arg (G := G) h
    obtain ⟨h2, h⟩ := reads_arg (G := G) h
    exact ⟨by simp only [step, h1, h2], h⟩
  case copy =>
    obtain ⟨h1, h⟩ := reads_arg (G := G) h
    obtain ⟨h2, h⟩ := reads_arg (G := G) h
    exact ⟨by simp only [step, h1, h2], h⟩
  case mset x y z =>
    obtain ⟨h1, h⟩ := reads_arg (G := G) h
    obtain ⟨h2, h⟩ := reads_arg (G := G) h
    obtain ⟨h3, h⟩ := reads_arg (G := G) h
    exact ⟨by simp only [step, h1, h2, h3], h⟩
  case pick c x y =>
    obtain ⟨h1, h⟩ := reads_arg (G := G) h
    obtain ⟨h2, h⟩ := reads_arg (G := G) h
    obtain ⟨h3, h⟩ := reads_arg (G := G) h
    exact ⟨by simp only [step, h1, h2, h3], h⟩
  case build zs ps => obtain ⟨h1, h⟩ := reads_ps (G := G) h; exact ⟨by simp only [step, h1], h⟩
  case bslF zs n ps => obtain ⟨h1, h⟩ := reads_ps (G := G) h; exact ⟨by simp only [step, h1], h⟩
  case bslR es zs n ps => obtain ⟨h1, h⟩ := reads_ps (G := G) h; exact ⟨by simp only [step, h1], h⟩
  case mkf f xs ys =>
    obtain ⟨h1, h⟩ := reads_as (G := G) h
    obtain ⟨h2, h⟩ := reads_as (G := G) h
    exact ⟨by simp only [step, h1, h2], h⟩
  case maxs x xs =>
    obtain ⟨h1, h⟩ := reads_arg (G := G) h
    obtain ⟨h2, h⟩ := reads_as (G := G) h
    exact ⟨by simp only [step, h1, h2], h⟩
  case mins x xs =>
    obtain ⟨h1, h⟩ := reads_arg (G := G) h
    obtain ⟨h2, h⟩ := reads_as (G := G) h
    exact ⟨by simp only [step, h1, h2], h⟩
  case call x xs =>
    obtain ⟨h1, h⟩ := reads_arg (G := G) h
    obtain ⟨h2, h⟩ := reads_as (G := G) h
    exact ⟨by simp only [step, h1, h2], h⟩
  case sliceS x lo hi =>
    obtain ⟨h1, h⟩ := reads_arg (G := G) h
    obtain ⟨h2, h⟩ := reads_o (G := G) h
    obtain ⟨h3, h⟩ := reads_o (G := G) h
    exact ⟨by simp only [step, h1, h2, h3], h⟩
  case sliceL es x lo hi mx =>
    obtain ⟨h1, h⟩ := reads_arg (G := G) h
    obtain ⟨h2, h⟩ := reads_o (G := G) h
    obtain ⟨h3, h⟩ := reads_o (G := G) h
    obtain ⟨h4, h⟩ := reads_o (G := G) h
    exact ⟨by simp only [step, h1, h2, h3, h4], h⟩
  case store =>
    obtain ⟨h1, h⟩ := reads_arg (G := G) h
    obtain ⟨h2, h⟩ := reads_arg (G := G) h
    exact ⟨by simp only [step, h1, h2], h⟩
  case bin =>
    obtain ⟨h1, h⟩ := reads_arg (G := G) h
    obtain ⟨h2, h⟩ := reads_arg (G := G) h
    exact ⟨by simp only [step, h1, h2], h⟩
  case eqB =>
    obtain ⟨h1, h⟩ := reads_arg (G := G) h
    obtain ⟨h2, h⟩ := reads_arg (G := G) h
    exact ⟨by simp only [step, h1, h2], h⟩
  case eqP =>
    obtain ⟨h1, h⟩ := reads_arg (G := G) h
    obtain ⟨h2, h⟩ := reads_arg (G := G) h
    exact ⟨by simp only [step, h1, h2], h⟩
  case eqS =>
    obtain ⟨h1, h⟩ := reads_arg (G := G) h
    obtain ⟨h2, h⟩ := reads_arg (G := G) h
    exact ⟨by simp only [step, h1, h2], h⟩
  case eqA =>
    obtain ⟨h1, h⟩ := reads_arg (G := G) h
    obtain ⟨h2, h⟩ := reads_arg (G := G) h
    exact ⟨by simp only [step, h1, h2], h⟩
  case msl =>
    obtain ⟨h1, h⟩ := reads_arg (G := G) h
    obtain ⟨h2, h⟩ := reads_arg (G := G) h
    exact ⟨by simp only [step, h1, h2], h⟩
  case iaddr =>
    obtain ⟨h1, h⟩ := reads_arg (G := G) h
    obtain ⟨h2, h⟩ := reads_arg (G := G) h
    exact ⟨by simp only [step, h1, h2], h⟩
  case iaddrA =>
    obtain ⟨h1, h⟩ := reads_arg (G := G) h
    obtain ⟨h2, h⟩ := reads_arg (G := G) h
    exact ⟨by simp only [step, h1, h2], h⟩
  case indexS =>
    obtain ⟨h1, h⟩ := reads_arg (G := G) h
    obtain ⟨h2, h⟩ := reads_arg (G := G) h
    exact ⟨by simp only [step, h1, h2], h⟩
  case append =>
    obtain ⟨h1, h⟩ := reads_arg (G := G) h
    obtain ⟨h2, h⟩ := reads_arg (G := G) h
    exact ⟨by simp only [step, h1, h2], h⟩
  case appendS =>
    obtain ⟨h1, h⟩ := reads_arg (G := G) h
    obtain ⟨h2, h⟩ := reads_arg (G := G) h
    exact ⟨by simp only [step, h1, h2], h⟩
  case appendZ =>
    obtain ⟨h1, h⟩ := reads_arg (G := G) h
    obtain ⟨h2, h⟩ := reads_arg (G := G) h
    exact ⟨by simp only [step, h1, h2], h⟩
  case capn =>
    obtain ⟨h1, h⟩ := reads_arg (G := G) h
    exact ⟨by simp only [step, h1], h⟩
  case mov =>
    obtain ⟨h1, h⟩ := reads_arg (G := G) h
    exact ⟨by simp only [step, h1], h⟩
  case boxF =>
    obtain ⟨h1, h⟩ := reads_arg (G := G) h
    exact ⟨by simp only [step, h1], h⟩
  case boxB =>
    obtain ⟨h1, h⟩ := reads_arg (G := G) h
    exact ⟨by simp only [step, h1], h⟩
  case load =>
    obtain ⟨h1, h⟩ := reads_arg (G := G) h
    exact ⟨by simp only [step, h1], h⟩
  case nilchk =>
    obtain ⟨h1, h⟩ := reads_arg (G := G) h
    exact ⟨by simp only [step, h1], h⟩
  case un =>
    obtain ⟨h1, h⟩ := reads_arg (G := G) h
    exact ⟨by simp only [step, h1], h⟩
  case convI =>
    obtain ⟨h1, h⟩ := reads_arg (G := G) h
    exact ⟨by simp only [step, h1], h⟩
  case convSB =>
    obtain ⟨h1, h⟩ := reads_arg (G := G) h
    exact ⟨by simp only [step, h1], h⟩
  case convBS =>
    obtain ⟨h1, h⟩ := reads_arg (G := G) h
    exact ⟨by simp only [step, h1], h⟩
  case faddr =>
    obtain ⟨h1, h⟩ := reads_arg (G := G) h
    exact ⟨by simp only [step, h1], h⟩
  case field =>
    obtain ⟨h1, h⟩ := reads_arg (G := G) h
    exact ⟨by simp only [step, h1], h⟩
  case extract =>
    obtain ⟨h1, h⟩ := reads_arg (G := G) h
    exact ⟨by simp only [step, h1], h⟩
  case len =>
    obtain ⟨h1, h⟩ := reads_arg (G := G) h
    exact ⟨by simp only [step, h1], h⟩
  case dfrop =>
    obtain ⟨h1, h⟩ := reads_arg (G := G) h
    exact ⟨by simp only [step, h1], h⟩
  case convIS =>
    obtain ⟨h1, h⟩ := reads_arg (G := G) h
    exact ⟨by simp only [step, h1], h⟩
  case fill =>
    obtain ⟨h1, h⟩ := reads_arg (G := G) h
    exact ⟨by simp only [step, h1], h⟩

theorem runOp_like {o : AOper} (h : Like o.reads e e') : runOp G b call e H o = runOp G b call e' H o := by
  unfold AOper.reads at h
  obtain ⟨h1, h2⟩ := step_like (G := G) (b := b) (call := call) (H := H) h
  have hw : wantedA e o.guard = wantedA e' o.guard := by
    cases hg : o.guard with
    | none => rfl
    | some x =>
      obtain ⟨t, q⟩ := x
      rw [hg] at h2
      simp only [wantedA, h2 t (by simp)]
  unfold runOp
  rw [hw, h1]

/-- What turns no heap leaves it as it is. -/
theorem step_keep {ao : AOp} (hE : ao.isE = false) {d : D} {H' : Heap} (h : step G b call e H ao = some (d, H')) : H' = H := by
  cases ao <;> first | (cases hE; done) | skip
  case fill n v =>
    have hb : v.box = none := by simpa [AOp.isE] using hE
    simp only [step, hb] at h
    split at h
    · cases h; rfl
    · cases h
  all_goals simp only [step] at h
  all_goals (repeat' split at h)
  all_goals first | (cases h; rfl) | cases h

/-- What looks at no heap answers alike at each. -/
theorem step_blind {ao : AOp} (hE : ao.isE = false) (hL : ao.isL = false) {d : D} {H' : Heap} (h : step G b call e H ao = some (d, H')) (H2 : Heap) : step G b call e H2 ao = some (d, H2) := by
  cases ao <;> first | (cases hE; done) | (cases hL; done) | skip
  case fill n v =>
    have hb : v.box = none := by simpa [AOp.isE] using hE
    simp only [step, hb] at h ⊢
    split at h
    · rename_i hh; cases h; rw [if_pos hh]
    · cases h
  all_goals simp only [step] at h ⊢
  all_goals (repeat' split at h)
  all_goals first | (cases h; done) | (cases h; simp_all; done)

theorem runOp_keep {o : AOper} (hE : o.op.isE = false) {d : D} {H' : Heap} (h : runOp G b call e H o = some (d, H')) : H' = H := by
  unfold runOp at h
  split at h
  · exact step_keep hE h
  · cases h; rfl
  · cases h

theorem runOp_blind {o : AOper} (hE : o.op.isE = false) (hL : o.op.isL = false) {d : D} {H' : Heap} (h : runOp G b call e H o = some (d, H')) (H2 : Heap) : runOp G b call e H2 o = some (d, H2) := by
  unfold runOp at h ⊢
  split at h
  · exact step_blind hE hL h H2
  · cases h; rfl
  · cases h

theorem runOp_sameAt {o : AOper} (hE : o.op.isE = false) {d : D} (h : sameAt G b call e o d H = true) : runOp G b call e H o = some (d, H) := by
  unfold sameAt at h
  split at h
  · rename_i d' H' hr
    rw [D.beq_eq _ _ h] at hr
    rw [runOp_keep hE hr] at hr
    exact hr
  · cases h

end
end Go.AM
/- A region whose order is open: what the run of the abstract machine has checked; who is ahead of whom. -/
namespace Go.AM

section
variable {G : Nat → Option (List D)} {b : Nat} {call : D → List D → Heap → Option (D × Heap)}

theorem samePast_ok {e : Env} {o : AOper} {d : D} {lo : Nat} : ∀ {l : List (Nat × Heap)}, samePast G b call e o d lo l = true → ∀ j K, (j, K) ∈ l → lo ≤ j → sameAt G b call e o d K = true
  | [], _, j, K, h, _ => by cases h
  | (j', K') :: r, h, j, K, hm, hl => by
    simp only [samePast, Bool.and_eq_true, Bool.or_eq_true, Nat.blt_eq] at h
    rcases List.mem_cons.1 hm with e | hm
    · cases e; exact h.1.resolve_left (by omega)
    · exact samePast_ok h.2 j K hm hl

theorem sameFut_ok {e : Env} {o : AOper} {d : D} {hi : Nat} : ∀ {l : List (Nat × Heap)}, sameFut G b call e o d hi l = true → ∀ j K, (j, K) ∈ l → j < hi → sameAt G b call e o d K = true
  | [], _, j, K, h, _ => by cases h
  | (j', K') :: r, h, j, K, hm, hl => by
    simp only [sameFut, Bool.and_eq_true, Bool.or_eq_true, Nat.ble_eq] at h
    rcases List.mem_cons.1 hm with e | hm
    · cases e; exact h.1.resolve_left (by omega)
    · exact sameFut_ok h.2 j K hm hl

/-- What a run of the region in the text's order has shown. -/
structure Trace (G : Nat → Option (List D)) (b : Nat) (call : D → List D → Heap → Option (D × Heap)) (i : Nat) (l : List (AOper × Nat × Nat)) (past : List (Nat × Heap)) (env : Env) (H : Heap) (envF : Env) (HF : Heap) (fut : List (Nat × Heap)) (E : Nat → Env) (Hs : Nat → Heap) (dd : Nat → D) : Prop where
  e0 : E i = env
  h0 : Hs i = H
  eF : E (i + l.length) = envF
  hF : Hs (i + l.length) = HF
  run : ∀ k x, l[k]? = some x → runOp G b call (E (i + k)) (Hs (i + k)) x.1 = some (dd (i + k), Hs (i + k + 1)) ∧ E (i + k + 1) = putO (E (i + k)) x.1.dst (dd (i + k))
  fut : ∀ k x, l[k]? = some x → x.1.op.isE = true → (i + k, Hs (i + k + 1)) ∈ fut
  pastL : ∀ k x, l[k]? = some x → x.1.op.isE = false → x.1.op.isL = true → ∀ j K, (j, K) ∈ past → x.2.1 ≤ j → sameAt G b call (E (i + k)) x.1 (dd (i + k)) K = true
  slipL : ∀ k x k' x', l[k]? = some x → x.1.op.isE = false → x.1.op.isL = true → l[k']? = some x' → x'.1.op.isE = true → k' < k → x.2.1 ≤ i + k' → sameAt G b call (E (i + k)) x.1 (dd (i + k)) (Hs (i + k')) = true
  futL : ∀ k x k' x', l[k]? = some x → x.1.op.isE = false → x.1.op.isL = true → l[k']? = some x' → x'.1.op.isE = true → k < k' → i + k' < x.2.2 → sameAt G b call (E (i + k)) x.1 (dd (i + k)) (Hs (i + k' + 1)) = true

theorem runD_trace : ∀ (l : List (AOper × Nat × Nat)) (i : Nat) (past : List (Nat × Heap)) (env : Env) (H : Heap) (envF : Env) (HF : Heap) (fut : List (Nat × Heap)), runD G b call i l past env H = some (envF, HF, fut) →
    ∃ E Hs dd, Trace G b call i l past env H envF HF fut E Hs dd := by
  intro l
  induction l with
  | nil =>
    intro i past env H envF HF fut h
    simp [runD] at h
    obtain ⟨rfl, rfl, rfl⟩ := h
    exact ⟨fun _ => env, fun _ => H, fun _ => .undef, ⟨rfl, rfl, rfl, rfl, by simp, by simp, by simp, by simp, by simp⟩⟩
  | cons x r ih =>
    intro i past env H envF HF fut h
    obtain ⟨o, lo, hi⟩ := x
    simp only [runD] at h
    split at h
    · rename_i d H1 hr
      have glue : ∀ (past' : List (Nat × Heap)) (fut' : List (Nat × Heap)) (E' : Nat → Env) (Hs' : Nat → Heap) (dd' : Nat → D), Trace G b call (i + 1) r past' (putO env o.dst d) H1 envF HF fut' E' Hs' dd' →
          (∀ y, y ∈ past → y ∈ past') → (o.op.isE = true → (i, H) ∈ past') → (∀ y, y ∈ fut' → y ∈ fut) → (o.op.isE = true → (i, H1) ∈ fut) →
          (o.op.isE = false → o.op.isL = true → (∀ j K, (j, K) ∈ past → lo ≤ j → sameAt G b call env o d K = true) ∧ (∀ j K, (j, K) ∈ fut' → j < hi → sameAt G b call env o d K = true)) →
          ∃ E Hs dd, Trace G b call i ((o, lo, hi) :: r) past env H envF HF fut E Hs dd := by
        intro past' fut' E' Hs' dd' T hp1 hp2 hf1 hf2 hs
        have ne : ∀ k, i + 1 + k ≠ i := fun k => by omega
        have eq : ∀ k, i + (k + 1) = i + 1 + k := fun k => by omega
        refine ⟨fun m => if m = i then env else E' m, fun m => if m = i then H else Hs' m, fun m => if m = i then d else dd' m, ⟨by simp, by simp, ?_, ?_, ?_, ?_, ?_, ?_, ?_⟩⟩
        · simp only [List.length_cons, ne r.length, if_false, eq r.length]; exact T.eF
        · simp only [List.length_cons, ne r.length, if_false, eq r.length]; exact T.hF
        · intro k x hk
          cases k with
          | zero =>
            simp at hk; subst hk
            have h1 : i + 0 + 1 ≠ i := by omega
            simp only [Nat.add_zero, if_true, h1, if_false]
            have h2 := T.h0
            have h3 := T.e0
            simp only [show i + 1 ≠ i by omega, if_false, h2, h3]
            exact ⟨hr, trivial⟩
          | succ k =>
            simp at hk
            have := T.run k x hk
            simp only [ne k, if_false, eq k, show i + 1 + k + 1 ≠ i by omega]
            exact this
        · intro k x hk hE
          cases k with
          | zero =>
            simp at hk; subst hk
            simp only [Nat.add_zero, show i + 1 ≠ i by omega, if_false, T.h0]
            exact hf2 hE
          | succ k =>
            simp at hk
            simp only [eq k, show i + 1 + k + 1 ≠ i by omega, if_false]
            exact hf1 _ (T.fut k x hk hE)
        · intro k x hk hE hL j K hm hl
          cases k with
          | zero =>
            simp at hk; subst hk
            simp only [Nat.add_zero, if_true]
            exact (hs hE hL).1 j K hm hl
          | succ k =>
            simp at hk
            simp only [ne k, if_false, eq k]
            exact T.pastL k x hk hE hL j K (hp1 _ hm) hl
        · intro k x k' x' hk hE hL hk' hE' hlt hl
          cases k with
          | zero => omega
          | succ k =>
            simp at hk
            cases k' with
            | zero =>
              simp at hk'; subst hk'
              simp only [ne k, if_false, eq k, Nat.add_zero, if_true]
              exact T.pastL k x hk hE hL i H (hp2 hE') (by simpa using hl)
            | succ k' =>
              simp at hk'
              simp only [ne k, ne k', if_false, eq k, eq k']
              exact T.slipL k x k' x' hk hE hL hk' hE' (by omega) (by rw [← eq k']; exact hl)
        · intro k x k' x' hk hE hL hk' hE' hlt hl
          cases k' with
          | zero => omega
          | succ k' =>
            simp at hk'
            cases k with
            | zero =>
              simp at hk; subst hk
              simp only [Nat.add_zero, if_true, eq k', show i + 1 + k' + 1 ≠ i by omega, if_false]
              exact (hs hE hL).2 (i + 1 + k') _ (T.fut k' x' hk' hE') (by rw [← eq k']; exact hl)
            | succ k =>
              simp at hk
              simp only [ne k, if_false, eq k, eq k', show i + 1 + k' + 1 ≠ i by omega]
              exact T.futL k x k' x' hk hE hL hk' hE' (by omega) (by rw [← eq k']; exact hl)
      split at h
      · rename_i hE
        split at h
        · rename_i e h' fut' hr2
          cases h
          obtain ⟨E', Hs', dd', T⟩ := ih _ _ _ _ _ _ _ hr2
          exact glue _ _ E' Hs' dd' T (fun y hy => by simp [hy]) (fun _ => by simp) (fun y hy => by simp [hy]) (fun _ => by simp) (fun hE' => by rw [hE] at hE'; cases hE')
        · cases h
      · rename_i hE
        split at h
        · rename_i e h' fut' hr2
          obtain ⟨E', Hs', dd', T⟩ := ih _ _ _ _ _ _ _ hr2
          split at h
          · rename_i hL
            split at h
            · rename_i hs
              cases h
              simp only [Bool.and_eq_true] at hs
              exact glue _ _ E' Hs' dd' T (fun y hy => hy) (fun hE' => absurd hE' hE) (fun y hy => hy) (fun hE' => absurd hE' hE) (fun _ _ => ⟨samePast_ok hs.1, sameFut_ok hs.2⟩)
            · cases h
          · rename_i hL
            cases h
            exact glue _ _ E' Hs' dd' T (fun y hy => hy) (fun hE' => absurd hE' hE) (fun y hy => hy) (fun hE' => absurd hE' hE) (fun _ hL' => absurd hL' hL)
        · cases h
    · cases h

end

/-! ### Ancestors -/
theorem ancOf_bit {ancs : List Nat} : ∀ {ps : List Nat} {j : Nat}, (ancOf ancs ps).testBit j = true → ∃ p ∈ ps, j = p ∨ (ancs.getD p 0).testBit j = true
  | [], j, h => by simp [ancOf] at h
  | p :: r, j, h => by
    simp only [ancOf, Nat.testBit_or, Bool.or_eq_true] at h
    rcases h with (h | h) | h
    · refine ⟨p, by simp, .inl ?_⟩
      rw [Nat.one_shiftLeft, Nat.testBit_two_pow] at h
      exact (by simpa using h : p = j).symm
    · exact ⟨p, by simp, .inr h⟩
    · obtain ⟨q, hq, hh⟩ := ancOf_bit h
      exact ⟨q, by simp [hq], hh⟩

theorem ancsFrom_spec : ∀ (os : List Oper) (ancs : List Nat), ∃ L, ancsFrom ancs os = ancs ++ L ∧ L.length = os.length ∧ ∀ k o, os[k]? = some o → L[k]? = some (ancOf (ancs ++ L.take k) (predsOf o))
  | [], ancs => ⟨[], by simp [ancsFrom], rfl, by simp⟩
  | o :: r, ancs => by
    obtain ⟨L, h1, h2, h3⟩ := ancsFrom_spec r (ancs ++ [ancOf ancs (predsOf o)])
    refine ⟨ancOf ancs (predsOf o) :: L, by rw [ancsFrom, h1]; simp, by simp [h2], fun k o' hk => ?_⟩
    cases k with
    | zero => simp at hk; subst hk; simp
    | succ k =>
      simp at hk
      have := h3 k o' hk
      simpa using this

/-- Who is an ancestor of what may be carried out has been carried out. -/
theorem anc_down {ops : Array Oper} {S : Nat → Prop} (hS : ∀ i o, ops[i]? = some o → S i → ∀ p ∈ predsOf o, S p) : ∀ (i : Nat) (o : Oper) (j : Nat), ops[i]? = some o → (∀ p ∈ predsOf o, S p) → ((ancsFrom [] ops.toList).getD i 0).testBit j = true → S j := by
  obtain ⟨L, h1, h2, h3⟩ := ancsFrom_spec ops.toList []
  simp only [List.nil_append] at h1 h3
  rw [h1]
  intro i
  induction i using Nat.strongRecOn with
  | _ i ih =>
    intro o j hi hp hb
    have hL := h3 i o (by simpa using hi)
    rw [List.getD_eq_getElem?_getD, hL] at hb
    simp only [Option.getD_some] at hb
    obtain ⟨p, hpm, hh⟩ := ancOf_bit hb
    rcases hh with rfl | hh
    · exact hp _ hpm
    · by_cases hlt : p < i
      · rw [List.getD_eq_getElem?_getD, List.getElem?_take, if_pos hlt, ← List.getD_eq_getElem?_getD] at hh
        have hpn : p < L.length := by
          rcases Nat.lt_or_ge p L.length with h | h
          · exact h
          · rw [List.getD_eq_getElem?_getD, List.getElem?_eq_none h] at hh; simp at hh
        have hpo : ∃ o', ops[p]? = some o' := ⟨ops[p]'(by rw [h2] at hpn; simpa using hpn), by simp⟩
        obtain ⟨o', ho'⟩ := hpo
        exact ih p hlt o' j ho' (hS p o' ho' (hp p hpm)) hh
      · rw [List.getD_eq_getElem?_getD, List.getElem?_take, if_neg hlt] at hh
        simp at hh

/-! ### The static check -/
theorem drawIn_spec {i : Nat} {a : AOper} {rs : List Nat} {ai lo hi : Nat} : ∀ {l : List (AOper × Nat × Nat)} {j : Nat} {ancs : List Nat}, drawIn i a rs ai lo hi j l ancs = true →
    ∀ k x, l[k]? = some x → j + k = i ∨ ordered i ai (j + k) (ancs.getD k 0) = true ∨ apartOK i a rs lo hi (j + k) x.1 = true
  | [], _, _, _, k, x, hk => by simp at hk
  | (o, p, q) :: r, j, [], h, k, x, hk => by simp [drawIn] at h
  | (o, p, q) :: r, j, aj :: ra, h, k, x, hk => by
    simp only [drawIn, Bool.and_eq_true, Bool.or_eq_true, Nat.beq_eq] at h
    cases k with
    | zero =>
      simp at hk; subst hk
      simp only [Nat.add_zero, List.getD_cons_zero]
      rcases h.1 with (h | h) | h
      · exact .inl h.symm
      · exact .inr (.inl h)
      · exact .inr (.inr h)
    | succ k =>
      simp at hk
      have := drawIn_spec h.2 k x hk
      simpa [Nat.add_assoc, Nat.add_comm 1 k] using this

theorem drawAll_spec {l0 : List (AOper × Nat × Nat)} {ancs0 : List Nat} : ∀ {l : List (AOper × Nat × Nat)} {i : Nat} {ancs : List Nat}, drawAll l0 ancs0 i l ancs = true →
    ∀ k x, l[k]? = some x → ∀ k' x', l0[k']? = some x' → k' = i + k ∨ ordered (i + k) (ancs.getD k 0) k' (ancs0.getD k' 0) = true ∨ apartOK (i + k) x.1 x.1.reads x.2.1 x.2.2 k' x'.1 = true
  | [], _, _, _, k, x, hk, _, _, _ => by simp at hk
  | (o, p, q) :: r, j, [], h, k, x, hk, _, _, _ => by simp [drawAll] at h
  | (o, p, q) :: r, j, aj :: ra, h, k, x, hk, k', x', hk' => by
    simp only [drawAll, Bool.and_eq_true] at h
    cases k with
    | zero =>
      simp at hk; subst hk
      have := drawIn_spec h.1 k' x' hk'
      simp only [Nat.zero_add, Nat.add_zero, List.getD_cons_zero] at this ⊢
      exact this
    | succ k =>
      simp at hk
      have := drawAll_spec h.2 k x hk k' x' hk'
      simpa [Nat.add_assoc, Nat.add_comm 1 k] using this

/-! ### What lies in a place, by who has written it -/
/-- g: what lies in each place when the operations of S are done, the last one's word for each. -/
def At {X : Type} (adst : Nat → Option Nat) (val : Nat → X) (init : Nat → X) (S : Nat → Prop) (g : Nat → X) : Prop :=
  ∀ t, (∃ j, S j ∧ adst j = some t ∧ (∀ j', S j' → adst j' = some t → j' ≤ j) ∧ g t = val j) ∨ ((∀ j, S j → adst j ≠ some t) ∧ g t = init t)

theorem At.eq {X : Type} {adst : Nat → Option Nat} {val init : Nat → X} {S S' : Nat → Prop} {g g' : Nat → X} (h : At adst val init S g) (h' : At adst val init S' g') {t : Nat} (hs : ∀ j, adst j = some t → (S j ↔ S' j)) : g t = g' t := by
  rcases h t with ⟨j, h1, h2, h3, h4⟩ | ⟨h1, h2⟩
  · rcases h' t with ⟨j', k1, k2, k3, k4⟩ | ⟨k1, k2⟩
    · have e1 := h3 j' ((hs j' k2).2 k1) k2
      have e2 := k3 j ((hs j h2).1 h1) h2
      have : j = j' := by omega
      subst this
      rw [h4, k4]
    · exact absurd h2 (k1 j ((hs j h2).1 h1))
  · rcases h' t with ⟨j', k1, k2, k3, k4⟩ | ⟨k1, k2⟩
    · exact absurd k2 (h1 j' ((hs j' k2).2 k1))
    · rw [h2, k2]

theorem At.step {X : Type} {adst : Nat → Option Nat} {val init : Nat → X} {S S' : Nat → Prop} {g g' : Nat → X} {i : Nat} (h : At adst val init S g) (hS : ∀ j, S' j ↔ (S j ∨ j = i)) (hord : ∀ t j, adst i = some t → S j → adst j = some t → j ≤ i)
    (hg : ∀ t, adst i = some t → g' t = val i) (hg' : ∀ t, adst i ≠ some t → g' t = g t) : At adst val init S' g' := by
  intro t
  by_cases ht : adst i = some t
  · refine .inl ⟨i, (hS i).2 (.inr rfl), ht, fun j' hj' hd => ?_, hg t ht⟩
    rcases (hS j').1 hj' with h' | rfl
    · exact hord t j' ht h' hd
    · exact Nat.le_refl _
  · rcases h t with ⟨j, h1, h2, h3, h4⟩ | ⟨h1, h2⟩
    · refine .inl ⟨j, (hS j).2 (.inl h1), h2, fun j' hj' hd => ?_, by rw [hg' t ht, h4]⟩
      rcases (hS j').1 hj' with h' | rfl
      · exact h3 j' h' hd
      · exact absurd hd ht
    · refine .inr ⟨fun j hj => ?_, by rw [hg' t ht, h2]⟩
      rcases (hS j).1 hj with h' | rfl
      · exact h1 j h'
      · exact ht

theorem At.nil {X : Type} {adst : Nat → Option Nat} {val init : Nat → X} {S : Nat → Prop} (h : ∀ j, ¬ S j) : At adst val init S init :=
  fun t => .inr ⟨fun j hj => absurd hj (h j), rfl⟩

end Go.AM
/- A region whose order is open. -/
namespace Go.AM

theorem edgesOK_ok {md : Region.Mode} {n k : Nat} {ρ : List Nat} : ∀ {l : List Edge}, edgesOK md n ρ k l = true → ∀ e ∈ l, Region.binds md e = true → e.on < n ∧ ρ.getD e.on n < k
  | [], _, e, h, _ => by cases h
  | d :: r, h, e, he, hb => by
    simp only [edgesOK, Bool.and_eq_true, Bool.or_eq_true, Nat.blt_eq, Bool.not_eq_true'] at h
    rcases List.mem_cons.1 he with rfl | he
    · rcases h.1 with h1 | h1
      · rw [hb] at h1; cases h1
      · exact h1
    · exact edgesOK_ok h.2 e he hb

theorem rankOK_ok {md : Region.Mode} {n : Nat} {ρ : List Nat} : ∀ {os : List Oper} {i : Nat}, rankOK md n ρ i os = true → ∀ (k : Nat) (o : Oper), os[k]? = some o → ∀ e ∈ o.after, Region.binds md e = true → e.on < n ∧ ρ.getD e.on n < ρ.getD (i + k) n
  | [], _, _, k, o, hk, _, _, _ => by simp at hk
  | o' :: r, i, h, k, o, hk, e, he, hb => by
    simp only [rankOK, Bool.and_eq_true] at h
    cases k with
    | zero => simp at hk; subst hk; exact edgesOK_ok h.1 e (by simpa using he) hb
    | succ k =>
      simp at hk
      have := rankOK_ok h.2 k o hk e he hb
      rw [show i + (k + 1) = i + 1 + k by omega]; exact this

theorem slips_map {as0 : List AOper} {ancs0 : List Nat} : ∀ {as : List AOper} {ancs : List Nat} {i : Nat}, ancs.length = as.length → (slipsFrom as0 ancs0 i as ancs).map (·.1) = as
  | [], ancs, i, _ => by simp [slipsFrom]
  | a :: r, [], i, h => by simp at h
  | a :: r, x :: xs, i, h => by
    simp only [slipsFrom, List.map_cons]
    rw [slips_map (by simpa using h)]

theorem compOpers_len {P : Program} {rr : Option Nat} {pol : Nat → Option Pol} (hq : ∀ i f, pol i = some (.quiet f) → rr = none ∧ Quiet P f) {ops : Array Oper} : ∀ {os : List Oper} {i : Nat} {l : List AOper}, compOpers P pol ops i os = some l → l.length = os.length
  | [], i, l, h => by simp [compOpers] at h; subst h; rfl
  | o :: r, i, l, h => by
    obtain ⟨x, xs, rfl, _, hxs⟩ := compOpers_cons hq h
    simp [compOpers_len hq hxs]

theorem compOpers_get {P : Program} {rr : Option Nat} {pol : Nat → Option Pol} (hq : ∀ i f, pol i = some (.quiet f) → rr = none ∧ Quiet P f) {ops : Array Oper} : ∀ {os : List Oper} {i : Nat} {l : List AOper}, compOpers P pol ops i os = some l → ∀ (k : Nat) (o : Oper), os[k]? = some o → ∃ x : AOper, l[k]? = some x ∧ Comped P rr ops o x
  | [], i, l, h, k, o, hk => by simp at hk
  | o' :: r, i, l, h, k, o, hk => by
    obtain ⟨x, xs, rfl, hx, hxs⟩ := compOpers_cons hq h
    cases k with
    | zero => simp at hk; subst hk; exact ⟨x, rfl, hx⟩
    | succ k => simp at hk; simpa using compOpers_get hq hxs k o hk

/-! ### The holes in the text's order -/
def PStep (p : List (Nat × Nat)) (o : AOper) (p' : List (Nat × Nat)) : Prop :=
  (∀ s, o.op = .hole s → o.guard = none ∧ ∃ t, o.dst = some t ∧ pget p t = none ∧ p' = (t, s) :: p) ∧
  (∀ s x, o.op = .fill s x → o.guard = none ∧ ∃ t, o.dst = some t ∧ pget p t = some s ∧ p' = pdel p t) ∧
  ((∀ s, o.op ≠ .hole s) → (∀ s x, o.op ≠ .fill s x) → (∀ t, o.dst = some t → pget p t = none) ∧ p' = p)

theorem pend_trace : ∀ (as : List AOper) (p0 : List (Nat × Nat)), pendOK p0 as = true → ∃ p : Nat → List (Nat × Nat), p 0 = p0 ∧ ∀ (k : Nat) (o : AOper), as[k]? = some o → PStep (p k) o (p (k + 1))
  | [], p0, _ => ⟨fun _ => p0, rfl, by simp⟩
  | o :: r, p0, h => by
    have glue : ∀ p1, PStep p0 o p1 → pendOK p1 r = true → ∃ p : Nat → List (Nat × Nat), p 0 = p0 ∧ ∀ (k : Nat) (o' : AOper), (o :: r)[k]? = some o' → PStep (p k) o' (p (k + 1)) := by
      intro p1 h1 h2
      obtain ⟨p, hp0, hp⟩ := pend_trace r p1 h2
      refine ⟨fun k => match k with | 0 => p0 | k + 1 => p k, rfl, fun k o' hk => ?_⟩
      cases k with
      | zero => simp at hk; subst hk; simp only [hp0]; exact h1
      | succ k => simp at hk; exact hp k o' hk
    simp only [pendOK] at h
    split at h
    · rename_i s hop
      split at h
      · rename_i t ht
        simp only [Bool.and_eq_true, Option.isNone_iff_eq_none] at h
        refine glue _ ⟨fun s' e => ?_, fun s' x' e => (by rw [hop] at e; cases e), fun hn => absurd hop (hn s)⟩ h.2
        rw [hop] at e; cases e; exact ⟨h.1.1, t, ht, h.1.2, rfl⟩
      · cases h
    · rename_i s x hop
      split at h
      · rename_i t ht
        simp only [Bool.and_eq_true, Option.isNone_iff_eq_none] at h
        refine glue _ ⟨fun s' e => (by rw [hop] at e; cases e), fun s' x' e => ?_, fun _ hn => absurd hop (hn s x)⟩ h.2
        rw [hop] at e; cases e
        have h2 := h.1.2
        split at h2
        · rename_i s' hs'
          have : s' = s := by simpa [Nat.beq_eq] using h2
          subst this
          exact ⟨h.1.1, t, ht, hs', rfl⟩
        · cases h2
      · cases h
    · rename_i hn1 hn2
      simp only [Bool.and_eq_true] at h
      refine glue _ ⟨fun s e => absurd e (hn1 s), fun s x e => absurd e (hn2 s x), fun _ _ => ⟨fun t ht => ?_, rfl⟩⟩ h.2
      rw [ht] at h; simpa using h.1

theorem PStep.other {p p' : List (Nat × Nat)} {o : AOper} (h : PStep p o p') {t : Nat} (ht : o.dst ≠ some t) : pget p' t = pget p t := by
  obtain ⟨h1, h2, h3⟩ := h
  cases hop : o.op
  case hole s =>
    obtain ⟨_, u, hu, _, rfl⟩ := h1 s hop
    rw [pget_cons, if_neg (by rintro rfl; exact ht hu)]
  case fill s x =>
    obtain ⟨_, u, hu, _, rfl⟩ := h2 s x hop
    rw [pget_del, if_neg (by rintro rfl; exact ht hu)]
  all_goals
    have := h3 (fun s e => by rw [hop] at e; cases e) (fun s x e => by rw [hop] at e; cases e)
    rw [this.2]

/-! ### How many are left -/
def unl : List Bool → Nat
  | [] => 0
  | b :: r => (if b then 0 else 1) + unl r

theorem unl_set : ∀ (l : List Bool) (i : Nat), l[i]? = some false → unl (l.set i true) + 1 = unl l
  | [], i, h => by simp at h
  | b :: r, 0, h => by simp at h; subst h; simp [unl]; omega
  | b :: r, i + 1, h => by
    simp at h
    have := unl_set r i h
    simp only [List.set_cons_succ, unl]
    omega

theorem unl_zero : ∀ (l : List Bool), unl l = 0 → ∀ i : Nat, l[i]? ≠ some false
  | [], _, i => by simp
  | b :: r, h, i => by
    simp only [unl] at h
    cases b with
    | false => simp at h
    | true =>
      cases i with
      | zero => simp
      | succ i => simp; exact unl_zero r (by simpa using h) i

theorem putO_get {env : Env} {dst : Option Nat} {d : D} {N : Nat} (hN : N ≤ 65535) (hd : ∀ t, dst = some t → t < N) (t : Nat) : (putO env dst d).get t = if dst = some t then d else env.get t := by
  cases dst with
  | none => simp [putO]
  | some u =>
    have := hd u rfl
    simp only [putO]
    rw [Env.put_get t d (by omega)]
    by_cases h : t = u
    · subst h; simp
    · rw [if_neg h, if_neg (by simpa using fun e => h e.symm)]

theorem fitsD_get {N : Nat} : ∀ {l : List (AOper × Nat × Nat)}, fitsD N l = true → ∀ (k : Nat) (x : AOper × Nat × Nat), l[k]? = some x → x.1.fits N = true
  | [], _, k, x, hk => by simp at hk
  | (o, p, q) :: r, h, k, x, hk => by
    simp only [fitsD, Bool.and_eq_true] at h
    cases k with
    | zero => simp at hk; subst hk; exact h.1
    | succ k => simp at hk; exact fitsD_get h.2 k x hk

theorem hasT_mem {t : Nat} : ∀ {l : List Nat}, t ∈ l → hasT t l = true
  | [], h => by cases h
  | u :: r, h => by
    simp only [hasT, Bool.or_eq_true, Nat.beq_eq]
    rcases List.mem_cons.1 h with rfl | h
    · exact .inl rfl
    · exact .inr (hasT_mem h)

section
variable {P : Program} {r : Option Nat} {G : Nat → Option (List D)} {b N : Nat} {B : Nat → Prop} {ds : List Deferred} {β0 : Bk} {Φ0 : Fz} {H0 H : Heap} {w0 w : World} {env : Env} {a : Act} {call : D → List D → Heap → Option (D × Heap)}

/-- All that is known of a drawn region before it is carried out. -/
structure Plan (P : Program) (r : Option Nat) (G : Nat → Option (List D)) (b N : Nat) (call : D → List D → Heap → Option (D × Heap)) (ops : Array Oper) (l : List (AOper × Nat × Nat)) (E : Nat → Env) (Hs : Nat → Heap) (dd : Nat → D) (p : Nat → List (Nat × Nat)) : Prop where
  len : l.length = ops.size
  comp : ∀ (i : Nat) (o : Oper), ops[i]? = some o → ∃ x : AOper × Nat × Nat, l[i]? = some x ∧ Comped P r ops o x.1
  fit : ∀ (i : Nat) (x : AOper × Nat × Nat), l[i]? = some x → x.1.fits N = true
  run : ∀ (i : Nat) (x : AOper × Nat × Nat), l[i]? = some x → runOp G b call (E i) (Hs i) x.1 = some (dd i, Hs (i + 1)) ∧ E (i + 1) = putO (E i) x.1.dst (dd i)
  slipL : ∀ (i : Nat) (x : AOper × Nat × Nat) (j : Nat) (y : AOper × Nat × Nat), l[i]? = some x → x.1.op.isE = false → x.1.op.isL = true → l[j]? = some y → y.1.op.isE = true → j < i → x.2.1 ≤ j → sameAt G b call (E i) x.1 (dd i) (Hs j) = true
  futL : ∀ (i : Nat) (x : AOper × Nat × Nat) (j : Nat) (y : AOper × Nat × Nat), l[i]? = some x → x.1.op.isE = false → x.1.op.isL = true → l[j]? = some y → y.1.op.isE = true → i < j → j < x.2.2 → sameAt G b call (E i) x.1 (dd i) (Hs (j + 1)) = true
  p0 : p 0 = []
  pend : ∀ (i : Nat) (x : AOper × Nat × Nat), l[i]? = some x → PStep (p i) x.1 (p (i + 1))
  preds : ∀ md : Region.Mode, ∃ ρ : Nat → Nat, ∀ (i : Nat) (o : Oper), ops[i]? = some o → ∀ e ∈ o.after, Region.binds md e = true → e.on < ops.size ∧ ρ e.on < ρ i
  draw : ∀ (i : Nat) (x : AOper × Nat × Nat) (j : Nat) (y : AOper × Nat × Nat), l[i]? = some x → l[j]? = some y → j = i ∨ ordered i ((ancsFrom [] ops.toList).getD i 0) j ((ancsFrom [] ops.toList).getD j 0) = true ∨ apartOK i x.1 x.1.reads x.2.1 x.2.2 j y.1 = true

def adst (l : List (AOper × Nat × Nat)) (j : Nat) : Option Nat := (l[j]?).bind (·.1.dst)
def avalOf (l : List (AOper × Nat × Nat)) (dd : Nat → D) (p : Nat → List (Nat × Nat)) (j : Nat) : D × Option Nat := (dd j, (adst l j).bind (pget (p (j + 1))))

variable {ops : Array Oper} {l : List (AOper × Nat × Nat)} {E : Nat → Env} {Hs : Nat → Heap} {dd : Nat → D} {p : Nat → List (Nat × Nat)}

theorem adst_some {j t : Nat} (h : adst l j = some t) : ∃ x : AOper × Nat × Nat, l[j]? = some x ∧ x.1.dst = some t := by
  unfold adst at h
  cases hl : l[j]? with
  | none => rw [hl] at h; cases h
  | some x => rw [hl] at h; exact ⟨x, rfl, h⟩

theorem Plan.text (hN : N ≤ 65535) (T : Plan P r G b N call ops l E Hs dd p) : ∀ i, i ≤ l.length → At (adst l) (avalOf l dd p) (fun t => ((E 0).get t, none)) (· < i) (fun t => ((E i).get t, pget (p i) t))
  | 0, _ => by
    have : (fun t => ((E 0).get t, pget (p 0) t)) = fun t => ((E 0).get t, (none : Option Nat)) := by funext t; rw [T.p0]; rfl
    rw [this]
    exact At.nil (fun j => by omega)
  | i + 1, hi => by
    obtain ⟨x, hx⟩ : ∃ x : AOper × Nat × Nat, l[i]? = some x := ⟨l[i]'(by omega), by simp⟩
    have had : adst l i = x.1.dst := by simp [adst, hx]
    obtain ⟨h1, h2⟩ := T.run i x hx
    have hfit : ∀ t, x.1.dst = some t → t < N := fun t ht => fits_lt (T.fit i x hx) ht
    refine (Plan.text hN T i (by omega)).step (i := i) (fun j => by omega) (fun t j _ hj _ => by omega) (fun t ht => ?_) (fun t ht => ?_)
    · rw [had] at ht
      simp only [avalOf, had, ht, Option.bind_some]
      rw [h2, putO_get hN hfit, if_pos ht]
    · rw [had] at ht
      show ((E (i + 1)).get t, pget (p (i + 1)) t) = ((E i).get t, pget (p i) t)
      rw [h2, putO_get hN hfit, if_neg ht, (T.pend i x hx).other ht]

theorem Plan.hs_const (T : Plan P r G b N call ops l E Hs dd p) {e : Nat} : ∀ m, e ≤ m → m ≤ l.length → (∀ (j : Nat) (x : AOper × Nat × Nat), e ≤ j → j < m → l[j]? = some x → x.1.op.isE = false) → Hs e = Hs m
  | 0, h, _, _ => by have : e = 0 := by omega
                     rw [this]
  | m + 1, h, hm, hn => by
    by_cases he : e = m + 1
    · rw [he]
    · obtain ⟨x, hx⟩ : ∃ x : AOper × Nat × Nat, l[m]? = some x := ⟨l[m]'(by omega), by simp⟩
      rw [T.hs_const m (by omega) (by omega) (fun j y h1 h2 => hn j y h1 (by omega))]
      exact (runOp_keep (hn m x (by omega) (by omega) hx) (T.run m x hx).1).symm

/-- The first of the operations from e on, below m, that turns the heap; or there is none. -/
theorem firstE (l : List (AOper × Nat × Nat)) (e : Nat) : ∀ m : Nat, e ≤ m → (∀ (j : Nat) (x : AOper × Nat × Nat), e ≤ j → j < m → l[j]? = some x → x.1.op.isE = false) ∨ ∃ (j : Nat) (x : AOper × Nat × Nat), e ≤ j ∧ j < m ∧ l[j]? = some x ∧ x.1.op.isE = true ∧ ∀ (j' : Nat) (x' : AOper × Nat × Nat), e ≤ j' → j' < j → l[j']? = some x' → x'.1.op.isE = false
  | 0, h => .inl fun j x h1 h2 => absurd h2 (by omega)
  | m + 1, h => by
    by_cases he : e = m + 1
    · exact .inl fun j x h1 h2 => absurd h2 (by omega)
    · rcases firstE l e m (by omega) with h1 | ⟨j, x, h1, h2, h3⟩
      · cases hx : l[m]? with
        | none =>
          refine .inl fun j x h2 h3 hj => ?_
          by_cases hjm : j = m
          · subst hjm; rw [hx] at hj; cases hj
          · exact h1 j x h2 (by omega) hj
        | some x =>
          cases hE : x.1.op.isE with
          | false =>
            refine .inl fun j y h2 h3 hj => ?_
            by_cases hjm : j = m
            · subst hjm; rw [hx] at hj; cases hj; exact hE
            · exact h1 j y h2 (by omega) hj
          | true => exact .inr ⟨m, x, by omega, by omega, hx, hE, fun j y h2 h3 hj => h1 j y h2 h3 hj⟩
      · exact .inr ⟨j, x, h1, by omega, h3⟩

/-- The last of the operations from e on, below m, that turns the heap; or there is none. -/
theorem lastE (l : List (AOper × Nat × Nat)) (e : Nat) : ∀ m : Nat, e ≤ m → (∀ (j : Nat) (x : AOper × Nat × Nat), e ≤ j → j < m → l[j]? = some x → x.1.op.isE = false) ∨ ∃ (j : Nat) (x : AOper × Nat × Nat), e ≤ j ∧ j < m ∧ l[j]? = some x ∧ x.1.op.isE = true ∧ ∀ (j' : Nat) (x' : AOper × Nat × Nat), j < j' → j' < m → l[j']? = some x' → x'.1.op.isE = false
  | 0, h => .inl fun j x h1 h2 => absurd h2 (by omega)
  | m + 1, h => by
    by_cases he : e = m + 1
    · exact .inl fun j x h1 h2 => absurd h2 (by omega)
    · cases hx : l[m]? with
      | none =>
        rcases lastE l e m (by omega) with h1 | ⟨j, x, h1, h2, h3, h4, h5⟩
        · refine .inl fun j x h2 h3 hj => ?_
          by_cases hjm : j = m
          · subst hjm; rw [hx] at hj; cases hj
          · exact h1 j x h2 (by omega) hj
        · refine .inr ⟨j, x, h1, by omega, h3, h4, fun j' y h6 h7 hj => ?_⟩
          by_cases hjm : j' = m
          · subst hjm; rw [hx] at hj; cases hj
          · exact h5 j' y h6 (by omega) hj
      | some x =>
        cases hE : x.1.op.isE with
        | true => exact .inr ⟨m, x, by omega, by omega, hx, hE, fun j y h2 h3 hj => absurd h3 (by omega)⟩
        | false =>
          rcases lastE l e m (by omega) with h1 | ⟨j, y, h1, h2, h3, h4, h5⟩
          · refine .inl fun j y h2 h3 hj => ?_
            by_cases hjm : j = m
            · subst hjm; rw [hx] at hj; cases hj; exact hE
            · exact h1 j y h2 (by omega) hj
          · refine .inr ⟨j, y, h1, by omega, h3, h4, fun j' z h6 h7 hj => ?_⟩
            by_cases hjm : j' = m
            · subst hjm; rw [hx] at hj; cases hj; exact hE
            · exact h5 j' z h6 (by omega) hj

/-- What holds when the operations of S have been carried out. -/
structure Done (P : Program) (G : Nat → Option (List D)) (N : Nat) (B : Nat → Prop) (ds : List Deferred) (β0 : Bk) (Φ0 : Fz) (H0 : Heap) (w0 : World) (ops : Array Oper) (l : List (AOper × Nat × Nat)) (E : Nat → Env) (Hs : Nat → Heap) (dd : Nat → D) (p : Nat → List (Nat × Nat)) (S : Nat → Prop) (κ : Nat → Option (Nat × Nat)) (env : Env) (H : Heap) : Prop where
  at_ : At (adst l) (avalOf l dd p) (fun t => ((E 0).get t, none)) S (fun t => (env.get t, (κ t).map (·.1)))
  heap : ∃ e, e ≤ l.length ∧ H = Hs e ∧ ∀ (j : Nat) (x : AOper × Nat × Nat), l[j]? = some x → x.1.op.isE = true → (S j ↔ j < e)
  down : ∀ (i : Nat) (o : Oper), ops[i]? = some o → S i → ∀ q ∈ predsOf o, S q

/-- A ready operation: it is as in the text's order. -/
theorem Plan.ready (hN : N ≤ 65535) (T : Plan P r G b N call ops l E Hs dd p) {S : Nat → Prop} {κ : Nat → Option (Nat × Nat)} (hD : Done P G N B ds β0 Φ0 H0 w0 ops l E Hs dd p S κ env H) {i : Nat} {o : Oper} {x : AOper × Nat × Nat}
    (hi : ops[i]? = some o) (hx : l[i]? = some x) (hS : ¬ S i) (hp : ∀ q ∈ predsOf o, S q) :
    ∃ H', runOp G b call env H x.1 = some (dd i, H') ∧ (x.1.op.isE = true → H' = Hs (i + 1)) ∧ (x.1.op.isE = false → H' = H) ∧
      (∀ t, x.1.dst = some t → (κ t).map (·.1) = pget (p i) t) ∧ (∀ t j, x.1.dst = some t → S j → adst l j = some t → j ≤ i) ∧
      (x.1.op.isE = true → ∀ (j : Nat) (y : AOper × Nat × Nat), l[j]? = some y → y.1.op.isE = true → (S j ∨ j = i ↔ j < i + 1)) := by
  have hil : i < l.length := (List.getElem?_eq_some_iff.1 hx).1
  have ordS : ∀ (j : Nat) (y : AOper × Nat × Nat), l[j]? = some y → ordered i ((ancsFrom [] ops.toList).getD i 0) j ((ancsFrom [] ops.toList).getD j 0) = true → j ≠ i → (S j ↔ j < i) := by
    intro j y hj ho hne
    unfold ordered at ho
    split at ho
    · rename_i hlt
      rw [Nat.blt_eq] at hlt
      exact ⟨fun _ => hlt, fun _ => anc_down hD.down i o j hi hp ho⟩
    · rename_i hlt
      rw [Nat.blt_eq] at hlt
      refine ⟨fun hSj => ?_, fun h => absurd h hlt⟩
      have hjl : j < l.length := (List.getElem?_eq_some_iff.1 hj).1
      obtain ⟨o', ho'⟩ : ∃ o', ops[j]? = some o' := ⟨ops[j]'(by rw [← T.len]; exact hjl), by simp⟩
      exact absurd (anc_down hD.down j o' i ho' (hD.down j o' ho' hSj) ho) hS
  have notd : ∀ (j : Nat) (y : AOper × Nat × Nat), l[j]? = some y → j ≠ i → apartOK i x.1 x.1.reads x.2.1 x.2.2 j y.1 = false → (S j ↔ j < i) := by
    intro j y hj hne hap
    rcases T.draw i x j y hx hj with h | h | h
    · exact absurd h hne
    · exact ordS j y hj h hne
    · rw [h] at hap; cases hap
  have rd : ∀ t, t ∈ x.1.reads → (E i).get t = env.get t := by
    intro t ht
    have := At.eq (t := t) (T.text hN i (by omega)) hD.at_ (fun j hj => by
      obtain ⟨y, hy, hyd⟩ := adst_some hj
      by_cases hne : j = i
      · subst hne; exact ⟨fun h => by omega, fun h => absurd h hS⟩
      · refine (notd j y hy hne ?_).symm
        unfold apartOK
        rw [hyd]
        simp [readsDst, hasT_mem ht])
    exact congrArg Prod.fst this
  have wr : ∀ (t j : Nat) (y : AOper × Nat × Nat), x.1.dst = some t → l[j]? = some y → y.1.dst = some t → j ≠ i → (S j ↔ j < i) := by
    intro t j y ht hy hyd hne
    refine notd j y hy hne ?_
    unfold apartOK
    rw [hyd, ht]
    simp [sameDst]
  have like : Like x.1.reads (E i) env := rd
  obtain ⟨hrun, _⟩ := T.run i x hx
  have eE : x.1.op.isE = true → ∀ (j : Nat) (y : AOper × Nat × Nat), l[j]? = some y → y.1.op.isE = true → j ≠ i → (S j ↔ j < i) := by
    intro hE j y hy hyE hne
    refine notd j y hy hne ?_
    unfold apartOK
    rw [hE, hyE]
    simp
  obtain ⟨e, hel, hHe, heS⟩ := hD.heap
  have heap : x.1.op.isE = true → H = Hs i := by
    intro hE
    have hei : e ≤ i := by
      rcases Nat.lt_or_ge i e with h | h
      · exact absurd ((heS i x hx hE).2 h) hS
      · exact h
    rw [hHe]
    refine T.hs_const i hei (by omega) fun j y h1 h2 hy => ?_
    cases hyE : y.1.op.isE with
    | false => rfl
    | true =>
      have h3 := (eE hE j y hy hyE (by omega)).2 h2
      have h4 := (heS j y hy hyE).1 h3
      omega
  have fin : ∀ H', runOp G b call env H x.1 = some (dd i, H') → (x.1.op.isE = true → H' = Hs (i + 1)) → (x.1.op.isE = false → H' = H) → _ := fun H' h1 h2 h3 => (⟨H', h1, h2, h3, fun t ht => ?_, fun t j ht hSj hj => ?_, fun hE j y hy hyE => ?_⟩ : ∃ H', runOp G b call env H x.1 = some (dd i, H') ∧ (x.1.op.isE = true → H' = Hs (i + 1)) ∧ (x.1.op.isE = false → H' = H) ∧
      (∀ t, x.1.dst = some t → (κ t).map (·.1) = pget (p i) t) ∧ (∀ t j, x.1.dst = some t → S j → adst l j = some t → j ≤ i) ∧
      (x.1.op.isE = true → ∀ (j : Nat) (y : AOper × Nat × Nat), l[j]? = some y → y.1.op.isE = true → (S j ∨ j = i ↔ j < i + 1)))
  · rcases Bool.eq_false_or_eq_true x.1.op.isE with hE | hE
    · refine fin (Hs (i + 1)) ?_ (fun _ => rfl) (fun h => by rw [hE] at h; cases h)
      rw [heap hE, ← runOp_like like]; exact hrun
    · refine fin H ?_ (fun h => by rw [hE] at h; cases h) (fun _ => rfl)
      rw [← runOp_like like]
      cases hL : x.1.op.isL with
      | false => exact runOp_blind hE hL hrun H
      | true =>
        have lE : ∀ (j : Nat) (y : AOper × Nat × Nat), l[j]? = some y → y.1.op.isE = true → (S j ↔ j < i) ∨ (if Nat.blt j i then Nat.ble x.2.1 j else Nat.blt j x.2.2) = true := by
          intro j y hy hyE
          by_cases hne : j = i
          · subst hne; rw [hx] at hy; cases hy; rw [hE] at hyE; cases hyE
          · cases hap : apartOK i x.1 x.1.reads x.2.1 x.2.2 j y.1 with
            | false => exact .inl (notd j y hy hne hap)
            | true =>
              unfold apartOK at hap
              rw [hE, hyE, hL] at hap
              simp only [Bool.and_eq_true, Bool.not_true, Bool.false_or, Bool.not_false, Bool.true_and] at hap
              exact .inr hap.2
        rcases Nat.lt_or_ge i e with hei | hei
        · rcases lastE l i e (by omega) with hno | ⟨j, y, h1, h2, hy, hyE, hno⟩
          · have := T.hs_const e (by omega) hel hno
            rw [hHe, ← this]
            have hk := runOp_keep hE hrun
            rw [hk] at hrun; exact hrun
          · have hji : i < j := by
              rcases Nat.lt_or_ge i j with h | h
              · exact h
              · have : j = i := by omega
                subst this; rw [hx] at hy; cases hy; rw [hE] at hyE; cases hyE
            have hSj : S j := (heS j y hy hyE).2 h2
            rcases lE j y hy hyE with h | h
            · have := h.1 hSj; omega
            · rw [if_neg (by rw [Nat.blt_eq]; omega), Nat.blt_eq] at h
              have hs := T.futL i x j y hx hE hL hy hyE hji h
              have hc := T.hs_const (e := j + 1) e (by omega) hel (fun j' y' h3 h4 h5 => hno j' y' (by omega) h4 h5)
              rw [hHe, ← hc]
              exact runOp_sameAt hE hs
        · rcases firstE l e i hei with hno | ⟨j, y, h1, h2, hy, hyE, hno⟩
          · have := T.hs_const i hei (by omega) hno
            rw [hHe, this]
            have hk := runOp_keep hE hrun
            rw [hk] at hrun; exact hrun
          · have hSj : ¬ S j := fun h => by have := (heS j y hy hyE).1 h; omega
            rcases lE j y hy hyE with h | h
            · exact absurd (h.2 h2) hSj
            · rw [if_pos (by rw [Nat.blt_eq]; omega), Nat.ble_eq] at h
              have hs := T.slipL i x j y hx hE hL hy hyE h2 h
              have hc := T.hs_const (e := e) j h1 (by omega) hno
              rw [hHe, hc]
              exact runOp_sameAt hE hs
  · have := At.eq (t := t) (T.text hN i (by omega)) hD.at_ (fun j hj => by
      obtain ⟨y, hy, hyd⟩ := adst_some hj
      by_cases hne : j = i
      · subst hne; exact ⟨fun h => by omega, fun h => absurd h hS⟩
      · exact (wr t j y ht hy hyd hne).symm)
    exact (congrArg Prod.snd this).symm
  · obtain ⟨y, hy, hyd⟩ := adst_some hj
    by_cases hne : j = i
    · omega
    · have := (wr t j y ht hy hyd hne).1 hSj; omega
  · by_cases hne : j = i
    · subst hne; simp
    · have := eE hE j y hy hyE hne
      rw [this]; omega

end
end Go.AM
/- A region whose order is open: it is as in the text's order. -/
namespace Go.AM

section
variable {P : Program} {G : Nat → Option (List D)} {b N : Nat} {B : Nat → Prop} {ds : List Deferred} {β β0 : Bk} {Φ Φ0 : Fz} {H0 H : Heap} {w0 w : World} {env : Env} {a : Act} {call : D → List D → Heap → Option (D × Heap)}
variable {ops : Array Oper} {l : List (AOper × Nat × Nat)} {E : Nat → Env} {Hs : Nat → Heap} {dd : Nat → D} {p : Nat → List (Nat × Nat)}

theorem RS.like {κ : Nat → Option (Nat × Nat)} {env' : Env} (h : RS P G N B ds β0 Φ0 H0 w0 κ β Φ env H a w) (he : ∀ t, env.get t = env'.get t) : RS P G N B ds β0 Φ0 H0 w0 κ β Φ env' H a w :=
  ⟨h.ws, fun t => by rw [← he t]; exact h.er t, fun t => by rw [← he t]; exact h.eu t, h.size, h.dfr, h.ext, h.hole, h.inj⟩

theorem mem_preds {o : Oper} {e : Edge} (he : e ∈ o.after) (hb : Region.binds .any e = true) : e.on ∈ predsOf o := by
  unfold predsOf
  exact List.mem_map.2 ⟨e, List.mem_filter.2 ⟨by simpa using he, hb⟩, rfl⟩

theorem preds_mem {o : Oper} {q : Nat} (h : q ∈ predsOf o) : ∃ e ∈ o.after, Region.binds .any e = true ∧ e.on = q := by
  unfold predsOf at h
  obtain ⟨e, he, rfl⟩ := List.mem_map.1 h
  obtain ⟨h1, h2⟩ := List.mem_filter.1 he
  exact ⟨e, by simpa using h1, h2, rfl⟩

def Listed (listed : Array Bool) (i : Nat) : Prop := listed.getD i false = true

theorem listed_set {listed : Array Bool} {i : Nat} (hi : i < listed.size) (j : Nat) : Listed (listed.setIfInBounds i true) j ↔ (Listed listed j ∨ j = i) := by
  unfold Listed
  simp only [Array.getD_eq_getD_getElem?, Array.getElem?_setIfInBounds]
  by_cases h : i = j
  · subst h; simp [hi]
  · rw [if_neg h]
    constructor
    · exact fun hh => .inl hh
    · rintro (hh | rfl)
      · exact hh
      · exact absurd rfl h

theorem binds_any {md : Region.Mode} {e : Edge} (h : Region.binds .any e = true) : Region.binds md e = true := by
  unfold Region.binds at h ⊢
  split at h
  · exact absurd h (by decide)
  · exact absurd h (by decide)
  · rfl

theorem draw_ok {md : Region.Mode} (hN : N ≤ 65535) (hsim : Sim P G call) (hb : B b) (hB : ∀ b', B b' → b' ≤ b) {r : Option Nat} {n : Nat} {Q : Exit → Act → World → Prop} (T : Plan P r G b N call ops l E Hs dd p)
    (hQ : ∀ β' Φ' κ' a' w', RS P G N B ds β0 Φ0 H0 w0 κ' β' Φ' (E l.length) (Hs l.length) a' w' → Q .normal a' w') :
    ∀ (fuel : Nat) (listed : Array Bool) (κ : Nat → Option (Nat × Nat)) (β : Bk) (Φ : Fz) (env : Env) (H : Heap) (a : Act) (w : World), listed.size = ops.size → unl listed.toList ≤ fuel →
      RS P G N B ds β0 Φ0 H0 w0 κ β Φ env H a w → Done P G N B ds β0 Φ0 H0 w0 ops l E Hs dd p (Listed listed) κ env H → wpAnyIn (fen r) n P md ops Q fuel listed a w := by
  have fin : ∀ (listed : Array Bool) (κ : Nat → Option (Nat × Nat)) (β : Bk) (Φ : Fz) (env : Env) (H : Heap) (a : Act) (w : World), listed.size = ops.size → (∀ i, i < ops.size → Listed listed i) →
      RS P G N B ds β0 Φ0 H0 w0 κ β Φ env H a w → Done P G N B ds β0 Φ0 H0 w0 ops l E Hs dd p (Listed listed) κ env H → Q .normal a w := by
    intro listed κ β Φ env H a w hsz hall hrs hD
    have hiff : ∀ j, Listed listed j ↔ j < l.length := fun j => by
      rw [T.len]
      refine ⟨fun h => ?_, hall j⟩
      rcases Nat.lt_or_ge j ops.size with h' | h'
      · exact h'
      · unfold Listed at h
        rw [Array.getD_eq_getD_getElem?, Array.getElem?_eq_none (by omega)] at h
        cases h
    have hH : H = Hs l.length := by
      obtain ⟨e, h1, h2, h3⟩ := hD.heap
      rw [h2]
      refine T.hs_const l.length h1 (Nat.le_refl _) fun j x h4 h5 hx => ?_
      cases hE : x.1.op.isE with
      | false => rfl
      | true =>
        have := (h3 j x hx hE).1 ((hiff j).2 h5)
        omega
    have hE : ∀ t, env.get t = (E l.length).get t := fun t => by
      have := At.eq (t := t) hD.at_ (T.text hN l.length (Nat.le_refl _)) (fun j _ => hiff j)
      exact congrArg Prod.fst this
    rw [hH] at hrs
    exact hQ _ _ _ _ _ (hrs.like hE)
  have somed : ∀ (listed : Array Bool), listed.size = ops.size → Region.ready md ops listed = [] → ∀ i, i < ops.size → Listed listed i := by
    intro listed hsz hr
    obtain ⟨ρ, hρ⟩ := T.preds md
    have key : ∀ k i, ρ i = k → i < ops.size → Listed listed i := by
      intro k
      induction k using Nat.strongRecOn with
      | _ k ih =>
        intro i hk hi
        rcases Bool.eq_false_or_eq_true (listed.getD i false) with h | h
        · exact h
        · exfalso
          have : i ∈ Region.ready md ops listed := by
            refine mem_ready.2 ⟨?_, ops[i], by simp [hi], fun e he hbe => ?_⟩
            · rw [Array.getD_eq_getD_getElem?, Array.getElem?_eq_getElem (by omega)] at h ⊢
              exact h
            · obtain ⟨h1, h2⟩ := hρ i ops[i] (by simp [hi]) e he hbe
              exact ih (ρ e.on) (by omega) e.on rfl h1
          rw [hr] at this; cases this
    exact fun i hi => key (ρ i) i rfl hi
  intro fuel
  induction fuel with
  | zero =>
    intro listed κ β Φ env H a w hsz hf hrs hD
    have hall : ∀ i, i < ops.size → Listed listed i := fun i hi => by
      rcases Bool.eq_false_or_eq_true (listed.getD i false) with h | h
      · exact h
      · exfalso
        refine unl_zero listed.toList (by omega) i ?_
        rw [Array.getD_eq_getD_getElem?] at h
        rw [Array.getElem?_toList]
        rw [Array.getElem?_eq_getElem (by omega)] at h ⊢
        simpa using h
    refine ⟨?_, fin listed κ β Φ env H a w hsz hall hrs hD⟩
    cases hr : Region.ready md ops listed with
    | nil => rfl
    | cons i rs =>
      exfalso
      have hm : i ∈ Region.ready md ops listed := by rw [hr]; simp
      obtain ⟨h1, o, h2, _⟩ := mem_ready.1 hm
      have hi : i < ops.size := (Array.getElem?_eq_some_iff.1 h2).1
      have := hall i hi
      unfold Listed at this
      rw [Array.getD_eq_getD_getElem?, Array.getElem?_eq_getElem (by omega)] at this h1
      simp at this h1
      rw [this] at h1; cases h1
  | succ fuel ih =>
    intro listed κ β Φ env H a w hsz hf hrs hD
    refine ⟨fun hr => fin listed κ β Φ env H a w hsz (somed listed hsz hr) hrs hD, fun i hi => ?_⟩
    obtain ⟨h1, o, h2, h3⟩ := mem_ready.1 hi
    have his : i < ops.size := (Array.getElem?_eq_some_iff.1 h2).1
    have hnot : listed[i]? = some false := by
      rw [Array.getD_eq_getD_getElem?, Array.getElem?_eq_getElem (by omega)] at h1
      rw [Array.getElem?_eq_getElem (by omega)]
      simpa using h1
    have hS : ¬ Listed listed i := by
      unfold Listed
      rw [Array.getD_eq_getD_getElem?, hnot]; simp
    obtain ⟨x, hx, hcx⟩ := T.comp i o h2
    have hp : ∀ q ∈ predsOf o, Listed listed q := fun q hq => by
      obtain ⟨e, he, hbe, rfl⟩ := preds_mem hq
      exact h3 e he (binds_any hbe)
    obtain ⟨H', g1, g2, g3, g4, g5, g6⟩ := T.ready hN hD h2 hx hS hp
    have hps := T.pend i x hx
    have hd : adst l i = x.1.dst := by simp [adst, hx]
    have κnone : ∀ t, x.1.dst = some t → pget (p i) t = none → κ t = none := fun t ht hpn => by
      have := g4 t ht
      rw [hpn] at this
      simpa using this
    refine op_any hN hsim h2 hrs hb hB hcx (T.fit i x hx) g1 (fun s e => ?_) (fun s y e => ?_) (fun e1 e2 t ht => ?_) (fun β' Φ' κ' a' w' hr k1 k2 k3 => ?_)
    · obtain ⟨a1, t, a2, a3, _⟩ := hps.1 s e
      exact ⟨a1, t, a2, κnone t a2 a3⟩
    · obtain ⟨a1, t, a2, a3, _⟩ := hps.2.1 s y e
      have := g4 t a2
      rw [a3] at this
      cases hk : κ t with
      | none => rw [hk] at this; cases this
      | some z => rw [hk] at this; simp at this; exact ⟨a1, t, z.2, a2, by rw [hk, ← this]⟩
    · exact κnone t ht ((hps.2.2 e1 e2).1 t ht)
    · have hκ : ∀ t, (κ' t).map (·.1) = if x.1.dst = some t then pget (p (i + 1)) t else (κ t).map (·.1) := by
        intro t
        cases hop : x.1.op
        case hole s =>
          obtain ⟨_, u, hu, _, hp'⟩ := hps.1 s hop
          obtain ⟨k, rfl⟩ := k1 s u hop hu
          rw [hu, hp', pget_cons]
          unfold Holes.set
          by_cases htu : t = u
          · subst htu; simp
          · rw [if_neg htu, if_neg (by simpa using fun e => htu e.symm)]
        case fill s y =>
          obtain ⟨_, u, hu, _, hp'⟩ := hps.2.1 s y hop
          rw [k2 s y u hop hu, hu, hp', pget_del]
          unfold Holes.set
          by_cases htu : t = u
          · subst htu; simp
          · rw [if_neg htu, if_neg (by simpa using fun e => htu e.symm)]
        all_goals
          have e1 : ∀ s, x.1.op ≠ .hole s := fun s e => by rw [hop] at e; cases e
          have e2 : ∀ s y, x.1.op ≠ .fill s y := fun s y e => by rw [hop] at e; cases e
          obtain ⟨h4, h5⟩ := hps.2.2 e1 e2
          rw [k3 e1 e2]
          by_cases ht : x.1.dst = some t
          · rw [if_pos ht, h5, h4 t ht, κnone t ht (h4 t ht)]; rfl
          · rw [if_neg ht]
      refine ih (listed.setIfInBounds i true) κ' β' Φ' _ H' _ w' (by simpa using hsz) ?_ hr ⟨?_, ?_, fun j o' hj hjS q hq => ?_⟩
      · have hset : (listed.setIfInBounds i true).toList = listed.toList.set i true := by simp
        rw [hset]
        have := unl_set listed.toList i (by simpa using hnot)
        omega
      · refine hD.at_.step (i := i) (listed_set (by omega)) (fun t j ht hj hjt => ?_) (fun t ht => ?_) (fun t ht => ?_)
        · rw [hd] at ht; exact g5 t j ht hj hjt
        · rw [hd] at ht
          show ((putO env x.1.dst (dd i)).get t, (κ' t).map (·.1)) = (dd i, (adst l i).bind (pget (p (i + 1))))
          rw [putO_get hN (fun u hu => fits_lt (T.fit i x hx) hu), if_pos ht, hκ t, if_pos ht, hd, ht]
          rfl
        · rw [hd] at ht
          show ((putO env x.1.dst (dd i)).get t, (κ' t).map (·.1)) = (env.get t, (κ t).map (·.1))
          rw [putO_get hN (fun u hu => fits_lt (T.fit i x hx) hu), if_neg ht, hκ t, if_neg ht]
      · obtain ⟨e, he1, he2, he3⟩ := hD.heap
        rcases Bool.eq_false_or_eq_true x.1.op.isE with hE | hE
        · refine ⟨i + 1, by rw [T.len]; omega, g2 hE, fun j y hy hyE => ?_⟩
          rw [listed_set (by omega)]
          exact g6 hE j y hy hyE
        · refine ⟨e, he1, by rw [g3 hE, he2], fun j y hy hyE => ?_⟩
          rw [listed_set (by omega)]
          rw [← he3 j y hy hyE]
          constructor
          · rintro (h | rfl)
            · exact h
            · rw [hx] at hy; cases hy; rw [hE] at hyE; cases hyE
          · exact fun h => .inl h
      · rw [listed_set (by omega)] at hjS
        rw [listed_set (by omega)]
        rcases hjS with h | rfl
        · exact .inl (hD.down j o' hj h q hq)
        · rw [h2] at hj; cases hj
          exact .inl (hp q hq)

theorem schedule_eq (mixed : Bool) (ops : Array Oper) (t : Nat) : Region.schedule mixed ops t =
    Region.linearise.go (if (mixed || !Region.departs ops) = true then .any else if (t % 2 == 0) = true then .text else .gc) ops ops.size (if (mixed || !Region.departs ops) = true then t else t / 2) (Array.replicate ops.size false) [] := by
  unfold Region.schedule Region.linearise
  split <;> rfl

/-- A region whose order is open. -/
theorem region_draw_ok (hN : N ≤ 65535) (hsim : Sim P G call) {r : Option Nat} {n id : Nat} {Q : Exit → Act → World → Prop} (hb : B b) (hB : ∀ b', B b' → b' ≤ b) {pol : Nat → Option Pol} (hq : ∀ i f, pol i = some (.quiet f) → r = none ∧ Quiet P f) {as : List AOper}
    (hc : compOpers P pol ops 0 ops.toList = some as) (hp : compDraw ops as = some l) (hf : fitsD N l = true) (hrs : RS P G N B ds β0 Φ0 H0 w0 (fun _ => none) β Φ env H a w) {env' : Env} {H' : Heap} {fut : List (Nat × Heap)} (hrun : runD G b call 0 l [] env H = some (env', H', fut))
    (hQ : ∀ β' Φ' κ' a' w', RS P G N B ds β0 Φ0 H0 w0 κ' β' Φ' env' H' a' w' → Q .normal a' w') : (Code.region id ops true).wpIn (fen r) n P Q a w := by
  unfold compDraw at hp
  simp only at hp
  split at hp
  · rename_i hchk
    simp only [Option.some.injEq] at hp
    rw [hp] at hchk
    simp only [Bool.and_eq_true] at hchk
    obtain ⟨hpend, ⟨⟨hra, hrt⟩, hrg⟩, hdraw⟩ := hchk
    obtain ⟨E, Hs, dd, T⟩ := runD_trace l 0 [] env H env' H' fut hrun
    obtain ⟨p, hp0, hpp⟩ := pend_trace as [] hpend
    obtain ⟨L, hL1, hL2, _⟩ := ancsFrom_spec ops.toList []
    have hlen : as.length = ops.toList.length := compOpers_len hq hc
    have hmap : l.map (·.1) = as := by
      rw [← hp]
      exact slips_map (by rw [hL1]; simp [hL2, hlen])
    have hll : l.length = ops.size := by
      have := congrArg List.length hmap
      simp at this
      rw [this, hlen]; simp
    have hget : ∀ (i : Nat) (x : AOper), as[i]? = some x → ∃ y : AOper × Nat × Nat, l[i]? = some y ∧ y.1 = x := fun i x hx => by
      rw [← hmap, List.getElem?_map] at hx
      simpa only [Option.map_eq_some_iff] using hx
    have PL : Plan P r G b N call ops l E Hs dd p := by
      refine ⟨hll, fun i o hi => ?_, fun i x hx => fitsD_get hf i x hx, fun i x hx => ?_, fun i x j y hx h1 h2 hy h3 h4 h5 => ?_, fun i x j y hx h1 h2 hy h3 h4 h5 => ?_, hp0, fun i x hx => ?_, fun md => ?_, fun i x j y hx hy => ?_⟩
      · obtain ⟨x, hx, hcx⟩ := compOpers_get hq hc i o (by simpa using hi)
        obtain ⟨y, hy, rfl⟩ := hget i x hx
        exact ⟨y, hy, hcx⟩
      · have := T.run i x hx; simpa using this
      · have := T.slipL i x j y hx h1 h2 hy h3 h4 (by simpa using h5); simpa using this
      · have := T.futL i x j y hx h1 h2 hy h3 h4 (by simpa using h5); simpa using this
      · refine hpp i x.1 ?_
        rw [← hmap]; simp [hx]
      · have hrk : ranked md ops = true := by cases md <;> assumption
        refine ⟨fun j => (rankFor md ops).getD j ops.size, fun i o hi e he hbe => ?_⟩
        have := rankOK_ok hrk i o (by simpa using hi) e he hbe
        simpa using this
      · have := drawAll_spec hdraw i x hx j y hy
        simpa using this
    refine wpIn_region_draw fun t => ?_
    rw [schedule_eq]
    refine wpAnyIn_sound _ _ _ _ _ ?_
    have hE0 : E 0 = env := T.e0
    have hEn : E l.length = env' := by have := T.eF; simpa using this
    have hHn : Hs l.length = H' := by have := T.hF; simpa using this
    have hrs' : RS P G N B ds β0 Φ0 H0 w0 (fun _ => none) β Φ env H a { w with drawn := w.drawn + 1 } :=
      ⟨⟨hrs.ws.wr.same rfl, hrs.ws.ids⟩, hrs.er, hrs.eu, hrs.size, hrs.dfr, hrs.ext.trans (Ext.ofDrawn _ _ _ _ _), fun t s k hk => (by cases hk), fun t t' s s' k hk => (by cases hk)⟩
    refine draw_ok hN hsim hb hB PL (by rw [hEn, hHn]; exact hQ) ops.size _ (fun _ => none) β Φ env H a _ (by simp) ?_ hrs' ⟨?_, ⟨0, Nat.zero_le _, T.h0.symm, fun j x hx hE => ?_⟩, fun i o hi hS => ?_⟩
    · have : ∀ m, unl (List.replicate m false) = m := fun m => by
        induction m with
        | zero => rfl
        | succ m ih => rw [List.replicate_succ, unl, ih]; simp; omega
      rw [Array.toList_replicate, this]; exact Nat.le_refl _
    · rw [hE0]
      refine At.nil fun j hj => ?_
      unfold Listed at hj
      rw [Array.getD_eq_getD_getElem?, Array.getElem?_replicate] at hj
      split at hj <;> simp at hj
    · refine ⟨fun hj => ?_, fun hj => by omega⟩
      unfold Listed at hj
      rw [Array.getD_eq_getD_getElem?, Array.getElem?_replicate] at hj
      split at hj <;> simp at hj
    · unfold Listed at hS
      rw [Array.getD_eq_getD_getElem?, Array.getElem?_replicate] at hS
      split at hS <;> simp at hS
  · cases hp

end
end Go.AM
