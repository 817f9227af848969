/- Rules to walk through code. -/
import Derived.Test.YtjcnlakifipmgaaGreatDoorAmA
import Derived.Test.YtjcnlakifipmgaaGreatDoorAmD
set_option linter.unusedVariables false
set_option linter.unusedSimpArgs false
set_option linter.unnecessarySimpa false
set_option maxRecDepth 100000
/- What runs, runs with more; facts about runs without their fuel. -/
namespace Go.AM

abbrev Cl := D → List D → Heap → Option (D × Heap)
def Cl.le (c c' : Cl) : Prop := ∀ f a H r, c f a H = some r → c' f a H = some r

section
variable {G : Nat → Option (List D)} {b : Nat} {c c' : Cl}

theorem step_mono (h : Cl.le c c') {env : Env} {H : Heap} {op : AOp} {r : D × Heap} (hs : step G b c env H op = some r) : step G b c' env H op = some r := by
  cases op <;> first | exact hs | exact h _ _ _ _ hs

theorem runOp_mono (h : Cl.le c c') {env : Env} {H : Heap} {o : AOper} {r : D × Heap} (hs : runOp G b c env H o = some r) : runOp G b c' env H o = some r := by
  unfold runOp at hs ⊢
  split at hs
  · exact step_mono h hs
  · exact hs
  · cases hs

theorem runOps_mono (h : Cl.le c c') : ∀ {l : List AOper} {env : Env} {H : Heap} {r : Env × Heap}, runOps G b c l env H = some r → runOps G b c' l env H = some r
  | [], _, _, _, hs => hs
  | o :: l, env, H, r, hs => by
    unfold runOps at hs ⊢
    split at hs
    · rename_i d H' ho
      rw [runOp_mono h ho]
      exact runOps_mono h hs
    · cases hs

theorem sameAt_mono (h : Cl.le c c') {env : Env} {o : AOper} {d : D} {H : Heap} (hs : sameAt G b c env o d H = true) : sameAt G b c' env o d H = true := by
  unfold sameAt at hs ⊢
  split at hs
  · rename_i ho; rw [runOp_mono h ho]; exact hs
  · cases hs

theorem samePast_mono (h : Cl.le c c') {env : Env} {o : AOper} {d : D} {lo : Nat} : ∀ {l : List (Nat × Heap)}, samePast G b c env o d lo l = true → samePast G b c' env o d lo l = true
  | [], hs => hs
  | (j, H) :: r, hs => by
    unfold samePast at hs ⊢
    rw [Bool.and_eq_true, Bool.or_eq_true] at hs ⊢
    exact ⟨hs.1.imp id (sameAt_mono h), samePast_mono h hs.2⟩

theorem sameFut_mono (h : Cl.le c c') {env : Env} {o : AOper} {d : D} {hi : Nat} : ∀ {l : List (Nat × Heap)}, sameFut G b c env o d hi l = true → sameFut G b c' env o d hi l = true
  | [], hs => hs
  | (j, H) :: r, hs => by
    unfold sameFut at hs ⊢
    rw [Bool.and_eq_true, Bool.or_eq_true] at hs ⊢
    exact ⟨hs.1.imp id (sameAt_mono h), sameFut_mono h hs.2⟩

theorem runD_mono (h : Cl.le c c') : ∀ {l : List (AOper × Nat × Nat)} {i : Nat} {past : List (Nat × Heap)} {env : Env} {H : Heap} {r : Env × Heap × List (Nat × Heap)}, runD G b c i l past env H = some r → runD G b c' i l past env H = some r
  | [], _, _, _, _, _, hs => hs
  | (o, lo, hi) :: l, i, past, env, H, r, hs => by
    unfold runD at hs ⊢
    split at hs
    · rename_i d H' ho
      rw [runOp_mono h ho]
      simp only
      split at hs
      · rename_i hE
        rw [if_pos hE]
        split at hs
        · rename_i hr; rw [runD_mono h hr]; exact hs
        · cases hs
      · rename_i hE
        rw [if_neg hE]
        split at hs
        · rename_i hr
          rw [runD_mono h hr]
          simp only
          split at hs
          · rename_i hL
            rw [if_pos hL]
            split at hs
            · rename_i hq
              rw [Bool.and_eq_true] at hq
              rw [if_pos (by rw [Bool.and_eq_true]; exact ⟨samePast_mono h hq.1, sameFut_mono h hq.2⟩)]
              exact hs
            · cases hs
          · rename_i hL
            rw [if_neg hL]; exact hs
        · cases hs
    · cases hs

theorem loopN_mono {f f' : St → Option (Ex × St)} (h : ∀ s r, f s = some r → f' s = some r) : ∀ {n n' : Nat} {s : St} {r : Ex × St}, n ≤ n' → loopN f n s = some r → loopN f' n' s = some r
  | 0, _, _, _, _, hs => by cases hs
  | n + 1, 0, _, _, hn, _ => by omega
  | n + 1, n' + 1, s, r, hn, hs => by
    unfold loopN at hs ⊢
    split at hs
    · rename_i s' hf
      rw [h _ _ hf]
      exact loopN_mono h (by omega) hs
    · rename_i hnn
      rw [h _ _ hs]
      obtain ⟨e, s1⟩ := r
      cases e with
      | normal => exact absurd hs (hnn s1)
      | exit id => rfl
      | ret => rfl

theorem exec_mono (h : Cl.le c c') {lf lf' : Nat} (hl : lf ≤ lf') {rnd : Option Nat} : ∀ (p : ACode) {s : St} {r : Ex × St}, exec G b c lf rnd p s = some r → exec G b c' lf' rnd p s = some r := by
  intro p
  induction p with
  | skip => intro s r hs; exact hs
  | reg ops =>
    intro s r hs
    unfold exec at hs ⊢
    split at hs
    · rename_i ho; rw [runOps_mono h ho]; exact hs
    · cases hs
  | dreg ops =>
    intro s r hs
    unfold exec at hs ⊢
    split at hs
    · rename_i ho; rw [runD_mono h ho]; exact hs
    · cases hs
  | seq p q ihp ihq =>
    intro s r hs
    unfold exec at hs ⊢
    split at hs
    · rename_i s' hp; rw [ihp hp]; exact ihq hs
    · rename_i hnn
      rw [ihp hs]
      obtain ⟨e, s1⟩ := r
      cases e with
      | normal => exact absurd hs (hnn s1)
      | exit id => rfl
      | ret => rfl
  | cond x p q ihp ihq =>
    intro s r hs
    unfold exec at hs ⊢
    split at hs
    · rename_i x' hx
      (try rw [hx])
      (try simp only)
      split at hs
      · rename_i hb; rw [if_pos hb]; exact ihp hs
      · rename_i hb; rw [if_neg hb]; exact ihq hs
    · cases hs
  | block id p ih =>
    intro s r hs
    unfold exec at hs ⊢
    split at hs
    · rename_i hp; rw [ih hp]; exact hs
    · rename_i hnn
      rw [ih hs]
      obtain ⟨e, s1⟩ := r
      cases e with
      | normal => rfl
      | exit id => exact absurd hs (hnn id s1)
      | ret => rfl
  | loop p ih =>
    intro s r hs
    unfold exec at hs ⊢
    exact loopN_mono (fun s r hf => ih hf) hl hs
  | rangeF f ps asg body _ _ =>
    intro s r hs
    unfold exec at hs ⊢
    split at hs
    · rename_i H dfs he
      (try rw [he])
      (try simp only)
      split at hs
      · rename_i g pre caps hf
        (try rw [hf])
        (try simp only)
        split at hs
        · rename_i hc; rw [h _ _ _ _ hc]; exact hs
        · cases hs
      · cases hs
    · cases hs
  | exit id => intro s r hs; exact hs
  | ret => intro s r hs; exact hs

theorem roundA_mono (h : Cl.le c c') {lf lf' : Nat} (hl : lf ≤ lf') {l : Nat} {args : List D} {H : Heap} {r : D × Heap} (hs : roundA G c lf l args H = some r) : roundA G c' lf' l args H = some r := by
  unfold roundA at hs ⊢
  split at hs
  · rename_i L hL
    (try rw [hL])
    (try simp only)
    split at hs
    · rename_i hc
      rw [if_pos hc]
      split at hs
      · rename_i s1 h1
        rw [exec_mono h hl _ h1]
        simp only
        split at hs
        · rename_i L1 hL1
          (try rw [hL1])
          (try simp only)
          split at hs
          · rename_i hr
            rw [if_pos hr]
            split at hs
            · rename_i h2; rw [exec_mono h hl _ h2]; exact hs
            · cases hs
          · cases hs
        · cases hs
      · cases hs
    · cases hs
  · cases hs
end

theorem callN_succ {X : Ctx} : ∀ (k : Nat), Cl.le (callN X k) (callN X (k + 1))
  | 0, _, _, _, _, h => by simp [callN] at h
  | k + 1, f, a, H, r, h => by
    have ih := callN_succ (X := X) k
    cases f with
    | func f pre caps =>
      unfold callN at h ⊢
      split at h
      · rename_i hp; (try rw [hp]); exact h
      · rename_i hp
        (try rw [hp])
        (try simp only)
        split at h
        · cases h
        · rename_i fn hf
          (try rw [hf])
          (try simp only)
          split at h
          · rename_i hb
            rw [if_pos hb]
            split at h
            · rename_i he; rw [exec_mono ih (by omega) _ he]; exact h
            · rename_i he; rw [exec_mono ih (by omega) _ he]; exact h
            · cases h
          · cases h
    | yield l =>
      unfold callN at h ⊢
      exact roundA_mono ih (by omega) h
    | _ => simp [callN] at h

theorem callN_le {X : Ctx} {k m : Nat} (hk : k ≤ m) : Cl.le (callN X k) (callN X m) := by
  induction m with
  | zero => obtain rfl : k = 0 := by omega
            exact fun _ _ _ _ h => h
  | succ m ih =>
    by_cases hm : k = m + 1
    · subst hm; exact fun _ _ _ _ h => h
    · exact fun f a H r h => callN_succ m f a H r (ih (by omega) f a H r h)

/-- A call's answer, with any fuel that is enough. -/
def Runs (X : Ctx) (f : D) (args : List D) (H : Heap) (d : D) (H' : Heap) : Prop := ∃ n, ∀ m, n ≤ m → callN X m f args H = some (d, H')

theorem Runs.of {X : Ctx} {n : Nat} {f : D} {args : List D} {H H' : Heap} {d : D} (h : callN X n f args H = some (d, H')) : Runs X f args H d H' :=
  ⟨n, fun m hm => callN_le hm _ _ _ _ h⟩

/-- What code does, with any fuel that is enough. -/
def Ev (X : Ctx) (b : Nat) (rnd : Option Nat) (p : ACode) (s : St) (ex : Ex) (s' : St) : Prop := ∃ n, ∀ m, n ≤ m → exec X.G b (callN X m) m rnd p s = some (ex, s')

section
variable {X : Ctx} {b : Nat} {rnd : Option Nat} {p q : ACode} {s s' s'' : St} {ex : Ex}

theorem Ev.of {n : Nat} (h : exec X.G b (callN X n) n rnd p s = some (ex, s')) : Ev X b rnd p s ex s' :=
  ⟨n, fun m hm => exec_mono (callN_le hm) hm _ h⟩

theorem Ev.of' (h : ∀ m, exec X.G b (callN X m) m rnd p s = some (ex, s')) : Ev X b rnd p s ex s' := ⟨0, fun m _ => h m⟩

theorem Ev.seq (h : Ev X b rnd p s .normal s') (h' : Ev X b rnd q s' ex s'') : Ev X b rnd (.seq p q) s ex s'' := by
  obtain ⟨n, h⟩ := h
  obtain ⟨n', h'⟩ := h'
  refine ⟨max n n', fun m hm => ?_⟩
  simp only [exec, h m (by omega), h' m (by omega)]

theorem Ev.seqX (h : Ev X b rnd p s ex s') (hx : ex ≠ .normal) : Ev X b rnd (.seq p q) s ex s' := by
  obtain ⟨n, h⟩ := h
  refine ⟨n, fun m hm => ?_⟩
  simp only [exec, h m hm]
  cases ex <;> first | rfl | exact absurd rfl hx

theorem Ev.skip : Ev X b rnd .skip s .normal s := ⟨0, fun _ _ => rfl⟩
theorem Ev.ret : Ev X b rnd .ret s .ret s := ⟨0, fun _ _ => rfl⟩
theorem Ev.exit {i : Nat} : Ev X b rnd (.exit i) s (.exit i) s := ⟨0, fun _ _ => rfl⟩

theorem Ev.condT {x : Arg} (hx : evalA X.G s.env x = .bool true) (h : Ev X b rnd p s ex s') : Ev X b rnd (.cond x p q) s ex s' := by
  obtain ⟨n, h⟩ := h
  exact ⟨n, fun m hm => by simp only [exec, hx, if_true, h m hm]⟩
theorem Ev.condF {x : Arg} (hx : evalA X.G s.env x = .bool false) (h : Ev X b rnd q s ex s') : Ev X b rnd (.cond x p q) s ex s' := by
  obtain ⟨n, h⟩ := h
  exact ⟨n, fun m hm => by simp only [exec, hx, Bool.false_eq_true, if_false, h m hm]⟩

theorem Ev.block {i : Nat} (h : Ev X b rnd p s ex s') (hx : ∀ k, ex ≠ .exit k) : Ev X b rnd (.block i p) s ex s' := by
  obtain ⟨n, h⟩ := h
  refine ⟨n, fun m hm => ?_⟩
  simp only [exec, h m hm]
  cases ex <;> first | rfl | exact absurd rfl (hx _)
theorem Ev.blockX {i : Nat} (h : Ev X b rnd p s (.exit i) s') : Ev X b rnd (.block i p) s .normal s' := by
  obtain ⟨n, h⟩ := h
  exact ⟨n, fun m hm => by simp only [exec, h m hm, if_true]⟩
theorem Ev.blockN {i k : Nat} (hk : k ≠ i) (h : Ev X b rnd p s (.exit k) s') : Ev X b rnd (.block i p) s (.exit k) s' := by
  obtain ⟨n, h⟩ := h
  exact ⟨n, fun m hm => by simp only [exec, h m hm, if_neg hk]⟩

theorem Ev.loopX (h : Ev X b rnd p s ex s') (hx : ex ≠ .normal) : Ev X b rnd (.loop p) s ex s' := by
  obtain ⟨n, h⟩ := h
  refine ⟨n + 1, fun m hm => ?_⟩
  obtain ⟨k, rfl⟩ : ∃ k, m = k + 1 := ⟨m - 1, by omega⟩
  simp only [exec, loopN, h (k + 1) (by omega)]
  cases ex <;> first | rfl | exact absurd rfl hx
theorem Ev.loopN (h : Ev X b rnd p s .normal s') (h' : Ev X b rnd (.loop p) s' ex s'') : Ev X b rnd (.loop p) s ex s'' := by
  obtain ⟨n, h⟩ := h
  obtain ⟨n', h'⟩ := h'
  refine ⟨max n n' + 1, fun m hm => ?_⟩
  obtain ⟨k, rfl⟩ : ∃ k, m = k + 1 := ⟨m - 1, by omega⟩
  have e := h' k (by omega)
  simp only [exec, AM.loopN, h (k + 1) (by omega)] at e ⊢
  exact loopN_mono (fun s r hf => exec_mono (callN_le (by omega)) (by omega) _ hf) (Nat.le_refl k) e

/-- A loop with an invariant and a measure. -/
theorem Ev.loop {Q : Ex → St → Prop} (I : Nat → St → Prop)
    (hI : ∀ k s, I k s → (∃ s' k', k' < k ∧ Ev X b rnd p s .normal s' ∧ I k' s') ∨ (∃ ex s', ex ≠ .normal ∧ Ev X b rnd p s ex s' ∧ Q ex s')) :
    ∀ k s, I k s → ∃ ex s', ex ≠ .normal ∧ Ev X b rnd (.loop p) s ex s' ∧ Q ex s' := by
  intro k
  induction k using Nat.strongRecOn with
  | ind k ih =>
    intro s hs
    rcases hI k s hs with ⟨s', k', hk, h1, h2⟩ | ⟨ex, s', hx, h1, h2⟩
    · obtain ⟨ex, s'', g0, g1, g2⟩ := ih k' hk s' h2
      exact ⟨ex, s'', g0, .loopN h1 g1, g2⟩
    · exact ⟨ex, s', hx, .loopX h1 hx, h2⟩

/-- A function's call out of its body's run. -/
theorem Runs.mk {f : Nat} {fn : AFunc} {pre args caps : List D} {H H' : Heap} {d : D} (hp : X.prims f (pre ++ args ++ caps) = none) (hf : X.fn f = some fn) (hl : (pre ++ args ++ caps).length < 65535)
    (he : ∃ ex s, (ex = .normal ∨ ex = .ret) ∧ Ev X H.length none fn.body ⟨Env.nil.ofArgs 0 (pre ++ args ++ caps), H, []⟩ ex s ∧ finish fn H.length s = some (d, H')) : Runs X (.func f pre caps) args H d H' := by
  obtain ⟨ex, s, hx, ⟨n, h⟩, hfin⟩ := he
  refine ⟨n + 1, fun m hm => ?_⟩
  obtain ⟨k, rfl⟩ : ∃ k, m = k + 1 := ⟨m - 1, by omega⟩
  unfold callN
  rw [hp, hf]
  have hb : Nat.blt (pre ++ args ++ caps).length 65535 = true := by rw [Nat.blt_eq]; exact hl
  simp only [hb, if_true, h k (by omega)]
  rcases hx with rfl | rfl <;> exact hfin
end
end Go.AM
/- Runs without fuel, and a symbolic walk over code by rewriting. -/
namespace Go.AM
open Classical

noncomputable def lim {α : Type} (g : Nat → Option α) : Option α := if h : ∃ r, ∃ n, ∀ m, n ≤ m → g m = some r then some h.choose else none

def Up {α : Type} (g : Nat → Option α) : Prop := ∀ m m' r, m ≤ m' → g m = some r → g m' = some r

section
variable {α : Type} {g g' : Nat → Option α}
theorem lim_iff {r : α} : lim g = some r ↔ ∃ n, ∀ m, n ≤ m → g m = some r := by
  unfold lim
  constructor
  · intro h
    split at h
    · rename_i h'
      obtain ⟨n, hn⟩ := h'.choose_spec
      cases h
      exact ⟨n, hn⟩
    · cases h
  · rintro ⟨n, hn⟩
    have h' : ∃ r, ∃ n, ∀ m, n ≤ m → g m = some r := ⟨r, n, hn⟩
    rw [dif_pos h']
    obtain ⟨n', hn'⟩ := h'.choose_spec
    have := hn' (max n n') (by omega)
    rw [hn (max n n') (by omega)] at this
    exact this.symm
theorem lim_ev (n : Nat) (h : ∀ m, n ≤ m → g m = g' m) : lim g = lim g' := by
  apply Option.ext
  intro r
  rw [lim_iff, lim_iff]
  constructor
  · rintro ⟨k, hk⟩; exact ⟨max n k, fun m hm => by rw [← h m (by omega)]; exact hk m (by omega)⟩
  · rintro ⟨k, hk⟩; exact ⟨max n k, fun m hm => by rw [h m (by omega)]; exact hk m (by omega)⟩
theorem lim_const (o : Option α) : lim (fun _ => o) = o := by
  apply Option.ext
  intro r
  rw [lim_iff]
  exact ⟨fun ⟨n, h⟩ => h n (Nat.le_refl n), fun h => ⟨0, fun _ _ => h⟩⟩
theorem Up.cases (h : Up g) : (∀ m, g m = none) ∨ ∃ r n, ∀ m, n ≤ m → g m = some r := by
  by_cases hn : ∀ m, g m = none
  · exact .inl hn
  · obtain ⟨m, hm⟩ := Classical.not_forall.1 hn
    obtain ⟨r, hr⟩ := Option.ne_none_iff_exists'.1 hm
    exact .inr ⟨r, m, fun m' hm' => h m m' r hm' hr⟩
theorem lim_inter (h1 : ∀ k r, g k = some r → ∃ n, ∀ m, n ≤ m → g' m = some r) (h2 : ∀ k r, g' k = some r → ∃ n, ∀ m, n ≤ m → g m = some r) : lim g = lim g' := by
  apply Option.ext
  intro r
  rw [lim_iff, lim_iff]
  exact ⟨fun ⟨k, hk⟩ => h1 k r (hk k (Nat.le_refl k)), fun ⟨k, hk⟩ => h2 k r (hk k (Nat.le_refl k))⟩
end

noncomputable def callΩ (X : Ctx) : Cl := fun f a H => lim (fun m => callN X m f a H)
noncomputable def execΩ (X : Ctx) (b : Nat) (rnd : Option Nat) (p : ACode) (s : St) : Option (Ex × St) := lim (fun m => exec X.G b (callN X m) m rnd p s)

section
variable {X : Ctx} {b : Nat} {rnd : Option Nat}

theorem up_call (f : D) (a : List D) (H : Heap) : Up (fun m => callN X m f a H) := fun m m' r hm h => callN_le hm _ _ _ _ h
theorem up_exec (p : ACode) (s : St) : Up (fun m => exec X.G b (callN X m) m rnd p s) := fun m m' r hm h => exec_mono (callN_le hm) hm _ h

theorem callΩ_iff {f : D} {a : List D} {H : Heap} {r : D × Heap} : callΩ X f a H = some r ↔ ∃ n, ∀ m, n ≤ m → callN X m f a H = some r := lim_iff
theorem callΩ_of {n : Nat} {f : D} {a : List D} {H : Heap} {r : D × Heap} (h : callN X n f a H = some r) : callΩ X f a H = some r := callΩ_iff.2 ⟨n, fun m hm => callN_le hm _ _ _ _ h⟩

theorem step_call {G : Nat → Option (List D)} {c : Cl} {e : Env} {H : Heap} {f : Arg} {args : List Arg} : step G b c e H (.call f args) = c (evalA G e f) (evalAs G e args) H := rfl
theorem step_pure {G : Nat → Option (List D)} {c c' : Cl} {e : Env} {H : Heap} {o : AOp} (h : ∀ f args, o ≠ .call f args) : step G b c e H o = step G b c' e H o := by
  cases o <;> first | rfl | exact absurd rfl (h _ _)

theorem step_lim (e : Env) (H : Heap) (o : AOp) : lim (fun m => step X.G b (callN X m) e H o) = step X.G b (callΩ X) e H o := by
  by_cases h : ∃ f args, o = .call f args
  · obtain ⟨f, args, rfl⟩ := h
    simp only [step_call]
    rfl
  · have h' : ∀ f args, o ≠ .call f args := fun f args e => h ⟨f, args, e⟩
    have : (fun m => step X.G b (callN X m) e H o) = fun _ => step X.G b (callΩ X) e H o := funext fun m => step_pure h'
    rw [this, lim_const]

theorem up_runOps (ops : List AOper) (e : Env) (H : Heap) : Up (fun m => runOps X.G b (callN X m) ops e H) := fun m m' r hm h => runOps_mono (callN_le hm) h
theorem up_runOp (o : AOper) (e : Env) (H : Heap) : Up (fun m => runOp X.G b (callN X m) e H o) := fun m m' r hm h => runOp_mono (callN_le hm) h

theorem runOp_lim (e : Env) (H : Heap) (o : AOper) : lim (fun m => runOp X.G b (callN X m) e H o) = runOp X.G b (callΩ X) e H o := by
  unfold runOp
  cases wantedA e o.guard with
  | none => exact lim_const _
  | some w => cases w with
    | true => exact step_lim e H o.op
    | false => exact lim_const _

theorem runOps_lim (ops : List AOper) : ∀ (e : Env) (H : Heap), lim (fun m => runOps X.G b (callN X m) ops e H) = runOps X.G b (callΩ X) ops e H := by
  induction ops with
  | nil => intro e H; exact lim_const _
  | cons o r ih =>
    intro e H
    rw [show runOps X.G b (callΩ X) (o :: r) e H = (match runOp X.G b (callΩ X) e H o with
      | some (d, H') => runOps X.G b (callΩ X) r (putO e o.dst d) H'
      | none => none) from rfl, ← runOp_lim]
    rcases (up_runOp (X := X) (b := b) o e H).cases with hn | ⟨⟨d, H'⟩, n, hn⟩
    · have e1 : (fun m => runOp X.G b (callN X m) e H o) = fun _ => none := funext hn
      rw [e1, lim_const]
      have e2 : (fun m => runOps X.G b (callN X m) (o :: r) e H) = fun _ => none := funext fun m => by
        show (match runOp X.G b (callN X m) e H o with
          | some (d, H') => runOps X.G b (callN X m) r (putO e o.dst d) H'
          | none => none) = none
        rw [hn m]
      rw [e2, lim_const]
    · rw [lim_iff.2 ⟨n, hn⟩]
      simp only
      rw [← ih]
      exact lim_ev n fun m hm => by
        show (match runOp X.G b (callN X m) e H o with
          | some (d, H') => runOps X.G b (callN X m) r (putO e o.dst d) H'
          | none => none) = _
        rw [hn m hm]

theorem execΩ_skip (s : St) : execΩ X b rnd .skip s = some (.normal, s) := lim_const _
theorem execΩ_ret (s : St) : execΩ X b rnd .ret s = some (.ret, s) := lim_const _
theorem execΩ_exit (i : Nat) (s : St) : execΩ X b rnd (.exit i) s = some (.exit i, s) := lim_const _

theorem execΩ_reg (ops : List AOper) (s : St) : execΩ X b rnd (.reg ops) s = match runOps X.G b (callΩ X) ops s.env s.H with
    | some (e, h) => some (.normal, ⟨e, h, s.dfs⟩)
    | none => none := by
  rw [← runOps_lim]
  rcases (up_runOps (X := X) (b := b) ops s.env s.H).cases with hn | ⟨⟨e, h⟩, n, hn⟩
  · have e1 : (fun m => runOps X.G b (callN X m) ops s.env s.H) = fun _ => none := funext hn
    rw [e1, lim_const]
    have e2 : (fun m => exec X.G b (callN X m) m rnd (.reg ops) s) = fun _ => none := funext fun m => by simp only [exec, hn m]
    show lim _ = _
    rw [e2, lim_const]
  · rw [lim_iff.2 ⟨n, hn⟩]
    simp only
    exact lim_iff.2 ⟨n, fun m hm => by simp only [exec, hn m hm]⟩

theorem execΩ_seq (p q : ACode) (s : St) : execΩ X b rnd (.seq p q) s = match execΩ X b rnd p s with
    | some (.normal, s') => execΩ X b rnd q s'
    | r => r := by
  rcases (up_exec (X := X) (b := b) (rnd := rnd) p s).cases with hn | ⟨⟨ex, s'⟩, n, hn⟩
  · have e1 : execΩ X b rnd p s = none := by
      show lim _ = _
      rw [show (fun m => exec X.G b (callN X m) m rnd p s) = fun _ => none from funext hn, lim_const]
    rw [e1]
    have e2 : (fun m => exec X.G b (callN X m) m rnd (.seq p q) s) = fun _ => none := funext fun m => by simp only [exec, hn m]
    show lim _ = _
    rw [e2, lim_const]
  · have e1 : execΩ X b rnd p s = some (ex, s') := lim_iff.2 ⟨n, hn⟩
    rw [e1]
    cases ex with
    | normal => exact lim_ev n fun m hm => by simp only [exec, hn m hm]
    | exit i => exact lim_iff.2 ⟨n, fun m hm => by simp only [exec, hn m hm]⟩
    | ret => exact lim_iff.2 ⟨n, fun m hm => by simp only [exec, hn m hm]⟩

theorem execΩ_cond (x : Arg) (p q : ACode) (s : St) : execΩ X b rnd (.cond x p q) s = match evalA X.G s.env x with
    | .bool x => if x then execΩ X b rnd p s else execΩ X b rnd q s
    | _ => none := by
  show lim _ = _
  simp only [exec]
  cases h : evalA X.G s.env x with
  | bool x => cases x <;> rfl
  | _ => exact lim_const _

theorem execΩ_block (i : Nat) (p : ACode) (s : St) : execΩ X b rnd (.block i p) s = match execΩ X b rnd p s with
    | some (.exit j, s') => if j = i then some (.normal, s') else some (.exit j, s')
    | r => r := by
  rcases (up_exec (X := X) (b := b) (rnd := rnd) p s).cases with hn | ⟨⟨ex, s'⟩, n, hn⟩
  · have e1 : execΩ X b rnd p s = none := by
      show lim _ = _
      rw [show (fun m => exec X.G b (callN X m) m rnd p s) = fun _ => none from funext hn, lim_const]
    rw [e1]
    have e2 : (fun m => exec X.G b (callN X m) m rnd (.block i p) s) = fun _ => none := funext fun m => by simp only [exec, hn m]
    show lim _ = _
    rw [e2, lim_const]
  · have e1 : execΩ X b rnd p s = some (ex, s') := lim_iff.2 ⟨n, hn⟩
    rw [e1]
    cases ex with
    | normal => exact lim_iff.2 ⟨n, fun m hm => by simp only [exec, hn m hm]⟩
    | exit j =>
      by_cases hj : j = i
      · simp only [hj, if_true]; subst hj; exact lim_iff.2 ⟨n, fun m hm => by simp only [exec, hn m hm, if_true]⟩
      · simp only [hj, if_false]; exact lim_iff.2 ⟨n, fun m hm => by simp only [exec, hn m hm, hj, if_false]⟩
    | ret => exact lim_iff.2 ⟨n, fun m hm => by simp only [exec, hn m hm]⟩

theorem execΩ_loop (p : ACode) (s : St) : execΩ X b rnd (.loop p) s = match execΩ X b rnd p s with
    | some (.normal, s') => execΩ X b rnd (.loop p) s'
    | r => r := by
  rcases (up_exec (X := X) (b := b) (rnd := rnd) p s).cases with hn | ⟨⟨ex, s'⟩, n, hn⟩
  · have e1 : execΩ X b rnd p s = none := by
      show lim _ = _
      rw [show (fun m => exec X.G b (callN X m) m rnd p s) = fun _ => none from funext hn, lim_const]
    rw [e1]
    have e2 : (fun m => exec X.G b (callN X m) m rnd (.loop p) s) = fun _ => none := funext fun m => by
      cases m with
      | zero => rfl
      | succ k => simp only [exec, loopN, hn]
    show lim _ = _
    rw [e2, lim_const]
  · have e1 : execΩ X b rnd p s = some (ex, s') := lim_iff.2 ⟨n, hn⟩
    rw [e1]
    have key : ∀ k, n ≤ k → exec X.G b (callN X (k + 1)) (k + 1) rnd (.loop p) s = match ex with
        | .normal => loopN (exec X.G b (callN X (k + 1)) (k + 1) rnd p) k s'
        | ex => some (ex, s') := fun k hk => by
      simp only [exec, loopN, hn (k + 1) (by omega)]
      cases ex <;> rfl
    cases ex with
    | normal =>
      simp only at key ⊢
      refine lim_inter (fun k r hr => ?_) (fun k r hr => ?_)
      · have h1 : exec X.G b (callN X (max k n + 1)) (max k n + 1) rnd (.loop p) s = some r := exec_mono (callN_le (by omega)) (by omega) _ hr
        rw [key _ (by omega)] at h1
        refine ⟨max k n + 1, fun m hm => ?_⟩
        exact loopN_mono (fun s r h => exec_mono (callN_le (by omega)) (by omega) _ h) (by omega) h1
      · refine ⟨max k n + 1, fun m hm => ?_⟩
        obtain ⟨j, rfl⟩ : ∃ j, m = j + 1 := ⟨m - 1, by omega⟩
        rw [key j (by omega)]
        exact loopN_mono (fun s r h => exec_mono (callN_le (by omega)) (by omega) _ h) (by omega) hr
    | exit i =>
      refine lim_iff.2 ⟨n + 1, fun m hm => ?_⟩
      obtain ⟨j, rfl⟩ : ∃ j, m = j + 1 := ⟨m - 1, by omega⟩
      exact key j (by omega)
    | ret =>
      refine lim_iff.2 ⟨n + 1, fun m hm => ?_⟩
      obtain ⟨j, rfl⟩ : ∃ j, m = j + 1 := ⟨m - 1, by omega⟩
      exact key j (by omega)

theorem execΩ_rangeF (f : Arg) (ps : List Nat) (asg body : ACode) (s : St) : execΩ X b rnd (.rangeF f ps asg body) s = match enterLoopA rnd s ps asg body with
    | some (H, dfs) => match evalA X.G s.env f with
      | .func g pre caps => match callΩ X (.func g pre caps) [.yield (H.length - 1)] H with
        | some (_, H') => match H'[H.length - 1]? with
          | some (.loop L) => if L.st = .busy then none else
            some (jumpEx L.pend, ⟨s.env, H'.set (H.length - 1) (.loop { L with st := .exhausted }), dfs⟩)
          | _ => none
        | none => none
      | _ => none
    | none => none := by
  show lim _ = _
  simp only [exec]
  cases enterLoopA rnd s ps asg body with
  | none => exact lim_const _
  | some q =>
    obtain ⟨H, dfs⟩ := q
    simp only
    cases hf : evalA X.G s.env f with
    | func g pre caps =>
      simp only
      rcases (up_call (X := X) (.func g pre caps) [.yield (H.length - 1)] H).cases with hn | ⟨⟨d, H'⟩, n, hn⟩
      · have e1 : callΩ X (.func g pre caps) [.yield (H.length - 1)] H = none := by
          show lim _ = _
          rw [show (fun m => callN X m (.func g pre caps) [.yield (H.length - 1)] H) = fun _ => none from funext hn, lim_const]
        rw [e1]
        simp only [hn]
        exact lim_const _
      · rw [callΩ_iff.2 ⟨n, hn⟩]
        simp only
        exact (lim_ev n fun m hm => by simp only [hn m hm]; rfl).trans (lim_const _)
    | _ => exact lim_const _

theorem callΩ_prim {f : Nat} {pre caps args : List D} {H : Heap} {d : D} (h : X.prims f (pre ++ args ++ caps) = some d) : callΩ X (.func f pre caps) args H = some (d, H) :=
  callΩ_of (n := 1) (by unfold callN; rw [h])

theorem callΩ_func {f : Nat} {fn : AFunc} {pre caps args : List D} {H : Heap} (hp : X.prims f (pre ++ args ++ caps) = none) (hf : X.fn f = some fn) (hl : (pre ++ args ++ caps).length < 65535) :
    callΩ X (.func f pre caps) args H = match execΩ X H.length none fn.body ⟨Env.nil.ofArgs 0 (pre ++ args ++ caps), H, []⟩ with
    | some (.normal, s) => finish fn H.length s
    | some (.ret, s) => finish fn H.length s
    | _ => none := by
  have hb : Nat.blt (pre ++ args ++ caps).length 65535 = true := by rw [Nat.blt_eq]; exact hl
  have key : ∀ k, callN X (k + 1) (.func f pre caps) args H = match exec X.G H.length (callN X k) k none fn.body ⟨Env.nil.ofArgs 0 (pre ++ args ++ caps), H, []⟩ with
      | some (.normal, s) => finish fn H.length s
      | some (.ret, s) => finish fn H.length s
      | _ => none := fun k => by
    show (match X.prims f (pre ++ args ++ caps) with
      | some d => some (d, H)
      | none => match X.fn f with
        | none => none
        | some fn => if Nat.blt (pre ++ args ++ caps).length 65535 then
          match exec X.G H.length (callN X k) k none fn.body ⟨Env.nil.ofArgs 0 (pre ++ args ++ caps), H, []⟩ with
          | some (.normal, s) => finish fn H.length s
          | some (.ret, s) => finish fn H.length s
          | _ => none
          else none) = _
    rw [hp, hf]
    simp only [hb, if_true]
  rcases (up_exec (X := X) (b := H.length) (rnd := none) fn.body ⟨Env.nil.ofArgs 0 (pre ++ args ++ caps), H, []⟩).cases with hn | ⟨⟨ex, s'⟩, n, hn⟩
  · have e1 : execΩ X H.length none fn.body ⟨Env.nil.ofArgs 0 (pre ++ args ++ caps), H, []⟩ = none := by
      show lim _ = _
      rw [show (fun m => exec X.G H.length (callN X m) m none fn.body ⟨Env.nil.ofArgs 0 (pre ++ args ++ caps), H, []⟩) = fun _ => none from funext hn, lim_const]
    rw [e1]
    show lim _ = _
    rw [show (fun m => callN X m (.func f pre caps) args H) = fun _ => none from funext fun m => by
      cases m with
      | zero => rfl
      | succ k => rw [key, hn k], lim_const]
  · rw [show execΩ X H.length none fn.body ⟨Env.nil.ofArgs 0 (pre ++ args ++ caps), H, []⟩ = some (ex, s') from lim_iff.2 ⟨n, hn⟩]
    refine (lim_ev (n + 1) fun m hm => ?_).trans (lim_const _)
    obtain ⟨k, rfl⟩ : ∃ k, m = k + 1 := ⟨m - 1, by omega⟩
    rw [key, hn k (by omega)]
end
end Go.AM
/- A symbolic walk over code by rewriting. -/
namespace Go.AM

inductive Fr where
  | seq (q : ACode)
  | blk (i : Nat)
  | lp (p : ACode)

noncomputable def feed (X : Ctx) (b : Nat) (rnd : Option Nat) : List Fr → Option (Ex × St) → Option (Ex × St)
  | [], o => o
  | .seq q :: K, o => feed X b rnd K (match o with
    | some (.normal, s) => execΩ X b rnd q s
    | r => r)
  | .blk i :: K, o => feed X b rnd K (match o with
    | some (.exit j, s) => if j = i then some (.normal, s) else some (.exit j, s)
    | r => r)
  | .lp p :: K, o => feed X b rnd K (match o with
    | some (.normal, s) => execΩ X b rnd (.loop p) s
    | r => r)

def Ends (o : Option (Ex × St)) (Q : Ex → St → Prop) : Prop := match o with
  | some (ex, s) => Q ex s
  | none => False

def YS (X : Ctx) (b : Nat) (rnd : Option Nat) (p : ACode) (K : List Fr) (s : St) (Q : Ex → St → Prop) : Prop := Ends (feed X b rnd K (execΩ X b rnd p s)) Q
def YX (X : Ctx) (b : Nat) (rnd : Option Nat) (ex : Ex) (K : List Fr) (s : St) (Q : Ex → St → Prop) : Prop := Ends (feed X b rnd K (some (ex, s))) Q
def YO (X : Ctx) (b : Nat) (rnd : Option Nat) (ops : List AOper) (K : List Fr) (e : Env) (H : Heap) (dfs : List Nat) (Q : Ex → St → Prop) : Prop :=
  Ends (feed X b rnd K (match runOps X.G b (callΩ X) ops e H with
    | some (e', H') => some (.normal, ⟨e', H', dfs⟩)
    | none => none)) Q
def Y1 (X : Ctx) (b : Nat) (rnd : Option Nat) (o : Option (D × Heap)) (dst : Option Nat) (r : List AOper) (K : List Fr) (e : Env) (dfs : List Nat) (Q : Ex → St → Prop) : Prop := match o with
  | some (d, H') => YO X b rnd r K (putO e dst d) H' dfs Q
  | none => False
def YC (X : Ctx) (b : Nat) (rnd : Option Nat) (d : D) (p q : ACode) (K : List Fr) (s : St) (Q : Ex → St → Prop) : Prop := match d with
  | .bool x => if x then YS X b rnd p K s Q else YS X b rnd q K s Q
  | _ => False

section
variable {X : Ctx} {b : Nat} {rnd : Option Nat} {p q : ACode} {K : List Fr} {s : St} {Q : Ex → St → Prop} {e : Env} {H : Heap} {dfs : List Nat} {ops r : List AOper} {o : AOper} {dst : Option Nat} {d : D} {i j : Nat}

theorem feed_none : ∀ (K : List Fr), feed X b rnd K none = none
  | [] => rfl
  | .seq _ :: K => feed_none K
  | .blk _ :: K => feed_none K
  | .lp _ :: K => feed_none K

theorem YS_seq : YS X b rnd (.seq p q) K s Q = YS X b rnd p (.seq q :: K) s Q := by
  unfold YS; rw [execΩ_seq]; rfl
theorem YS_block : YS X b rnd (.block i p) K s Q = YS X b rnd p (.blk i :: K) s Q := by
  unfold YS; rw [execΩ_block]; rfl
theorem YS_skip : YS X b rnd .skip K s Q = YX X b rnd .normal K s Q := by unfold YS; rw [execΩ_skip]; rfl
theorem YS_ret : YS X b rnd .ret K s Q = YX X b rnd .ret K s Q := by unfold YS; rw [execΩ_ret]; rfl
theorem YS_exit : YS X b rnd (.exit i) K s Q = YX X b rnd (.exit i) K s Q := by unfold YS; rw [execΩ_exit]; rfl
theorem YS_reg : YS X b rnd (.reg ops) K ⟨e, H, dfs⟩ Q = YO X b rnd ops K e H dfs Q := by unfold YS; rw [execΩ_reg]; rfl
theorem YS_cond {x : Arg} : YS X b rnd (.cond x p q) K ⟨e, H, dfs⟩ Q = YC X b rnd (evalA X.G e x) p q K ⟨e, H, dfs⟩ Q := by
  unfold YS; rw [execΩ_cond]
  cases h : evalA X.G e x with
  | bool c => cases c <;> rfl
  | _ => show Ends (feed X b rnd K none) Q = _; rw [feed_none]; rfl
theorem YX_seqN : YX X b rnd .normal (.seq q :: K) s Q = YS X b rnd q K s Q := rfl
theorem YX_seqR : YX X b rnd .ret (.seq q :: K) s Q = YX X b rnd .ret K s Q := rfl
theorem YX_seqE : YX X b rnd (.exit i) (.seq q :: K) s Q = YX X b rnd (.exit i) K s Q := rfl
theorem YX_blkN : YX X b rnd .normal (.blk i :: K) s Q = YX X b rnd .normal K s Q := rfl
theorem YX_blkR : YX X b rnd .ret (.blk i :: K) s Q = YX X b rnd .ret K s Q := rfl
theorem YX_blkE : YX X b rnd (.exit j) (.blk i :: K) s Q = if j = i then YX X b rnd .normal K s Q else YX X b rnd (.exit j) K s Q := by
  by_cases h : j = i
  · rw [if_pos h]; simp only [YX, feed, h, if_true]
  · rw [if_neg h]; simp only [YX, feed, h, if_false]
theorem YS_loopU : YS X b rnd (.loop p) K s Q = YS X b rnd p (.lp p :: K) s Q := by
  unfold YS; rw [execΩ_loop]; rfl
theorem YX_lpN : YX X b rnd .normal (.lp p :: K) s Q = YS X b rnd (.loop p) K s Q := rfl
theorem YX_lpR : YX X b rnd .ret (.lp p :: K) s Q = YX X b rnd .ret K s Q := rfl
theorem YX_lpE : YX X b rnd (.exit i) (.lp p :: K) s Q = YX X b rnd (.exit i) K s Q := rfl
theorem YX_nil {ex : Ex} : YX X b rnd ex [] s Q = Q ex s := rfl
theorem YO_nil : YO X b rnd [] K e H dfs Q = YX X b rnd .normal K ⟨e, H, dfs⟩ Q := rfl
theorem YO_cons : YO X b rnd (o :: r) K e H dfs Q = Y1 X b rnd (runOp X.G b (callΩ X) e H o) o.dst r K e dfs Q := by
  unfold YO Y1
  show Ends (feed X b rnd K (match (match runOp X.G b (callΩ X) e H o with
    | some (d, H') => runOps X.G b (callΩ X) r (putO e o.dst d) H'
    | none => none) with
    | some (e', H') => some (.normal, ⟨e', H', dfs⟩)
    | none => none)) Q = _
  cases runOp X.G b (callΩ X) e H o with
  | none => simp only [feed_none]; rfl
  | some x => rfl
theorem Y1_some : Y1 X b rnd (some (d, H)) dst r K e dfs Q = YO X b rnd r K (putO e dst d) H dfs Q := rfl
theorem Y1_none : Y1 X b rnd none dst r K e dfs Q = False := rfl
theorem Y1_ite {c : Prop} [Decidable c] {x y : Option (D × Heap)} : Y1 X b rnd (if c then x else y) dst r K e dfs Q = if c then Y1 X b rnd x dst r K e dfs Q else Y1 X b rnd y dst r K e dfs Q := by
  split <;> rfl
theorem YC_true : YC X b rnd (.bool true) p q K s Q = YS X b rnd p K s Q := rfl
theorem YC_false : YC X b rnd (.bool false) p q K s Q = YS X b rnd q K s Q := rfl
theorem YC_bool {c : Bool} : YC X b rnd (.bool c) p q K s Q = ((c = true → YS X b rnd p K s Q) ∧ (c = false → YS X b rnd q K s Q)) := by
  cases c <;> simp [YC]

/-! Regions whose order is open, without what turns the heap. -/
def plainD : List (AOper × Nat × Nat) → Bool
  | [] => true
  | (o, _, _) :: r => !o.op.isE && plainD r
def strip : List (AOper × Nat × Nat) → List AOper
  | [] => []
  | (o, _, _) :: r => o :: strip r

theorem runD_plain : ∀ {l : List (AOper × Nat × Nat)}, plainD l = true → ∀ {i : Nat} {e : Env} {H : Heap}, runD X.G b (callΩ X) i l [] e H = match runOps X.G b (callΩ X) (strip l) e H with
    | some (e', H') => some (e', H', [])
    | none => none
  | [], _, _, _, _ => rfl
  | (o, lo, hi) :: r, hp, i, e, H => by
    simp only [plainD, Bool.and_eq_true, Bool.not_eq_true'] at hp
    show (match runOp X.G b (callΩ X) e H o with
      | some (d, H') => _
      | none => none) = (match (match runOp X.G b (callΩ X) e H o with
        | some (d, H') => runOps X.G b (callΩ X) (strip r) (putO e o.dst d) H'
        | none => none) with
        | some (e', H') => some (e', H', [])
        | none => none)
    cases h : runOp X.G b (callΩ X) e H o with
    | none => rfl
    | some x =>
      obtain ⟨d, H'⟩ := x
      simp only [hp.1, Bool.false_eq_true, if_false]
      rw [runD_plain hp.2]
      cases runOps X.G b (callΩ X) (strip r) (putO e o.dst d) H' with
      | none => rfl
      | some y =>
        obtain ⟨e', h'⟩ := y
        simp [samePast, sameFut]

theorem runD_lim : ∀ (l : List (AOper × Nat × Nat)) {i : Nat} {past : List (Nat × Heap)} {e : Env} {H : Heap} {r : Env × Heap × List (Nat × Heap)}, runD X.G b (callΩ X) i l past e H = some r → ∃ n, ∀ m, n ≤ m → runD X.G b (callN X m) i l past e H = some r
  | [], _, _, _, _, _, h => ⟨0, fun _ _ => h⟩
  | (o, lo, hi) :: l, i, past, e, H, r, h => by
    have hrop : ∀ {e : Env} {H : Heap} {o : AOper} {x : D × Heap}, runOp X.G b (callΩ X) e H o = some x → ∃ n, ∀ m, n ≤ m → runOp X.G b (callN X m) e H o = some x := fun {e H o x} hx => by
      rw [← runOp_lim] at hx
      exact lim_iff.1 hx
    have hpure : o.op.isE = false → ∀ m (e : Env) (H : Heap), runOp X.G b (callN X m) e H o = runOp X.G b (callΩ X) e H o := fun hE m e H => by
      unfold runOp
      rw [step_pure (c := callN X m) (c' := callΩ X) (fun f args h => by rw [h] at hE; cases hE)]
    unfold runD at h
    split at h
    · rename_i d H' ho
      obtain ⟨n1, h1⟩ := hrop ho
      split at h
      · rename_i hE
        split at h
        · rename_i hr
          obtain ⟨n2, h2⟩ := runD_lim l hr
          refine ⟨max n1 n2, fun m hm => ?_⟩
          unfold runD
          rw [h1 m (by omega)]
          simp only [hE, if_true, h2 m (by omega)]
          exact h
        · cases h
      · rename_i hE
        have hE' : o.op.isE = false := by simpa using hE
        split at h
        · rename_i hr
          obtain ⟨n2, h2⟩ := runD_lim l hr
          refine ⟨max n1 n2, fun m hm => ?_⟩
          unfold runD
          rw [h1 m (by omega)]
          simp only [hE', Bool.false_eq_true, if_false, h2 m (by omega)]
          split at h
          · rename_i hL
            rw [if_pos hL]
            split at h
            · rename_i hq
              have e1 : ∀ K, sameAt X.G b (callN X m) e o d K = sameAt X.G b (callΩ X) e o d K := fun K => by unfold sameAt; rw [hpure hE']
              have e2 : ∀ ls, samePast X.G b (callN X m) e o d lo ls = samePast X.G b (callΩ X) e o d lo ls := fun ls => by
                induction ls with
                | nil => rfl
                | cons x ls ih => obtain ⟨j, K⟩ := x; simp only [samePast, e1, ih]
              have e3 : ∀ ls, sameFut X.G b (callN X m) e o d hi ls = sameFut X.G b (callΩ X) e o d hi ls := fun ls => by
                induction ls with
                | nil => rfl
                | cons x ls ih => obtain ⟨j, K⟩ := x; simp only [sameFut, e1, ih]
              rw [e2, e3, if_pos hq]
              exact h
            · cases h
          · rename_i hL
            rw [if_neg hL]; exact h
        · cases h
    · cases h

theorem execΩ_dreg {l : List (AOper × Nat × Nat)} {s : St} {e' : Env} {H' : Heap} {fut : List (Nat × Heap)} (h : runD X.G b (callΩ X) 0 l [] s.env s.H = some (e', H', fut)) : execΩ X b rnd (.dreg l) s = some (.normal, ⟨e', H', s.dfs⟩) := by
  obtain ⟨n, hn⟩ := runD_lim l h
  exact lim_iff.2 ⟨n, fun m hm => by simp only [exec, hn m hm]⟩

theorem YS_dreg {l : List (AOper × Nat × Nat)} (hp : plainD l = true) : YS X b rnd (.dreg l) K ⟨e, H, dfs⟩ Q = YO X b rnd (strip l) K e H dfs Q := by
  have h1 : execΩ X b rnd (.dreg l) ⟨e, H, dfs⟩ = match runOps X.G b (callΩ X) (strip l) e H with
      | some (e', H') => some (.normal, ⟨e', H', dfs⟩)
      | none => none := by
    cases h : runOps X.G b (callΩ X) (strip l) e H with
    | some x =>
      obtain ⟨e', H'⟩ := x
      exact execΩ_dreg (s := ⟨e, H, dfs⟩) (by rw [runD_plain hp, h])
    | none =>
      refine (lim_ev 0 fun m _ => ?_).trans (lim_const none)
      simp only [exec]
      cases hm : runD X.G b (callN X m) 0 l [] e H with
      | none => rfl
      | some x =>
        exfalso
        have hle : Cl.le (callN X m) (callΩ X) := fun f a H r hr => callΩ_of hr
        have := runD_mono hle hm
        rw [runD_plain hp, h] at this
        cases this
  unfold YS YO
  rw [h1]

/-! Rules of calls and loops. -/
def Fin (fn : AFunc) (n : Nat) (r : D × Heap) (ex : Ex) (s : St) : Prop := match ex with
  | .normal => finish fn n s = some r
  | .ret => finish fn n s = some r
  | _ => False

theorem call_by {f : Nat} {fn : AFunc} {pre caps args : List D} {H : Heap} {r : D × Heap} (hp : X.prims f (pre ++ args ++ caps) = none) (hf : X.fn f = some fn) (hl : (pre ++ args ++ caps).length < 65535)
    (h : YS X H.length none fn.body [] ⟨Env.nil.ofArgs 0 (pre ++ args ++ caps), H, []⟩ (Fin fn H.length r)) : callΩ X (.func f pre caps) args H = some r := by
  rw [callΩ_func hp hf hl]
  unfold YS at h
  simp only [feed] at h
  cases hx : execΩ X H.length none fn.body ⟨Env.nil.ofArgs 0 (pre ++ args ++ caps), H, []⟩ with
  | none => rw [hx] at h; exact h.elim
  | some x =>
    obtain ⟨ex, s⟩ := x
    rw [hx] at h
    cases ex with
    | normal => exact h
    | ret => exact h
    | exit i => exact h.elim

theorem YS_loop1 : YS X b rnd (.loop p) K s Q = YS X b rnd p [] s (fun ex s' => match ex with
    | .normal => YS X b rnd (.loop p) K s' Q
    | ex => YX X b rnd ex K s' Q) := by
  unfold YS YX
  rw [execΩ_loop]
  simp only [feed]
  cases execΩ X b rnd p s with
  | none => simp only [feed_none]; rfl
  | some x => obtain ⟨ex, s'⟩ := x; cases ex <;> rfl

theorem YS_loop (I : Nat → St → Prop) (R : Ex → St → Prop)
    (step : ∀ k s, I k s → ∀ Q' : Ex → St → Prop, (∀ k' s', k' < k → I k' s' → Q' .normal s') → (∀ ex s', ex ≠ .normal → R ex s' → Q' ex s') → YS X b rnd p [] s Q')
    (out : ∀ ex s', ex ≠ .normal → R ex s' → YX X b rnd ex K s' Q) (k : Nat) (hI : I k s) : YS X b rnd (.loop p) K s Q := by
  induction k using Nat.strongRecOn generalizing s with
  | ind k ih =>
    rw [YS_loop1]
    refine step k s hI _ (fun k' s' hk h' => ih k' hk h') (fun ex s' hx hr => ?_)
    cases ex with
    | normal => exact absurd rfl hx
    | exit i => exact out _ _ hx hr
    | ret => exact out _ _ hx hr

theorem YS_mono {Q' : Ex → St → Prop} (h : YS X b rnd p K s Q) (hq : ∀ ex s, Q ex s → Q' ex s) : YS X b rnd p K s Q' := by
  unfold YS at h ⊢
  cases hx : feed X b rnd K (execΩ X b rnd p s) with
  | none => rw [hx] at h; exact h.elim
  | some x => obtain ⟨ex, s'⟩ := x; rw [hx] at h; exact hq _ _ h

/-- Code first by itself, then what follows. -/
theorem YS_cut {Q' : Ex → St → Prop} (h : YS X b rnd p [] s Q') (hq : ∀ ex s', Q' ex s' → YX X b rnd ex K s' Q) : YS X b rnd p K s Q := by
  unfold YS at h ⊢
  simp only [feed] at h
  cases hx : execΩ X b rnd p s with
  | none => rw [hx] at h; exact h.elim
  | some x =>
    obtain ⟨ex, s'⟩ := x
    rw [hx] at h
    exact hq ex s' h

theorem wrap_i64 {n : Int} (h : -9223372036854775808 ≤ n) (h' : n ≤ 9223372036854775807) : IntKind.i64.wrap n = n := by
  unfold IntKind.wrap
  have hb : IntKind.i64.bits = 64 := rfl
  have hs : IntKind.i64.signed = true := rfl
  simp only [hb, hs]
  rw [show (2 : Int) ^ 64 = 18446744073709551616 from rfl, show (2 : Int) ^ (64 - 1) = 9223372036854775808 from rfl]
  simp only [Bool.true_and, decide_eq_true_eq]
  split <;> omega

/-- A range over a slice or a number: rounds 0 to N-1. -/
theorem YS_range {c i n a x y : Nat} {body : ACode} (N : Nat) (I : Nat → Env → Heap → Prop) (R : Ex → St → Prop) (hc : c < 65535) (hi : i < 65535) (ha : a < 65535) (hne : a ≠ n ∧ i ≠ n ∧ c ≠ i ∧ c ≠ n) (hN : (N : Int) ≤ 9223372036854775807)
    (f1 : ∀ k e H v, I k e H → I k (e.put c v) H) (f2 : ∀ k e H v w, I k e H → I k ((e.put a v).put i w) H)
    (hb : ∀ k, k < N → ∀ e H, I k e H → e.get i = .int .i64 (k : Int) → e.get n = .int .i64 (N : Int) → ∀ Q' : Ex → St → Prop, (∀ e' H', I (k + 1) e' H' → e'.get i = .int .i64 (k : Int) → e'.get n = .int .i64 (N : Int) → Q' .normal ⟨e', H', dfs⟩) → (∀ ex s', ex ≠ .normal → R ex s' → Q' ex s') → YS X b rnd body [.blk y] ⟨e, H, dfs⟩ Q')
    (h0 : I 0 e H) (g1 : e.get i = .int .i64 0) (g2 : e.get n = .int .i64 (N : Int))
    (out : ∀ e' H', I N e' H' → YX X b rnd (.exit x) K ⟨e', H', dfs⟩ Q) (outX : ∀ ex s', ex ≠ .normal → R ex s' → YX X b rnd ex K s' Q) :
    YS X b rnd (.loop (.seq (.reg [⟨some c, none, .bin .lss (.t i) (.t n)⟩]) (.seq (.cond (.t c) .skip (.exit x)) (.seq (.block y body) (.reg [⟨some a, none, .bin .add (.t i) (.c (.int .i64 (.ofNat 1)))⟩, ⟨some i, none, .mov (.t a)⟩]))))) K ⟨e, H, dfs⟩ Q := by
  refine YS_loop (fun m s => ∃ k e H, m = N - k ∧ k ≤ N ∧ s = ⟨e, H, dfs⟩ ∧ I k e H ∧ e.get i = .int .i64 (k : Int) ∧ e.get n = .int .i64 (N : Int))
    (fun ex s' => (∃ e' H', ex = .exit x ∧ s' = ⟨e', H', dfs⟩ ∧ I N e' H') ∨ R ex s') ?_ ?_ N ⟨0, e, H, by omega, by omega, rfl, h0, g1, g2⟩
  · rintro m s ⟨k, e, H, hm, hk, rfl, hI, hgi, hgn⟩ Q' hn hx
    have hI1 := f1 k e H (.bool (decide (k < N))) hI
    simp only [YS_seq, YS_reg, YO_cons, runOp, wantedA, step, evalA, hgi, hgn, binD, binInt, if_true, Y1_some, YO_nil, YX_seqN, YS_cond, putO, Env.put_get _ _ hc, Int.ofNat_lt]
    by_cases hkN : k < N
    · simp only [hkN, decide_true, YC_true, YS_skip, YX_seqN, YS_seq, YS_block] at hI1 ⊢
      have := hb k hkN _ H hI1 (by rw [Env.put_get _ _ hc, if_neg (by omega)]; exact hgi) (by rw [Env.put_get _ _ hc, if_neg (by omega)]; exact hgn)
      have key : YS X b rnd body [.blk y] ⟨e.put c (.bool true), H, dfs⟩ (fun ex s' => (ex = .normal ∧ ∃ e' H', s' = ⟨e', H', dfs⟩ ∧ I (k + 1) e' H' ∧ e'.get i = .int .i64 (k : Int) ∧ e'.get n = .int .i64 (N : Int)) ∨ (ex ≠ .normal ∧ R ex s')) :=
        this _ (fun e' H' h1 h2 h3 => .inl ⟨rfl, e', H', rfl, h1, h2, h3⟩) (fun ex s' h1 h2 => .inr ⟨h1, h2⟩)
      have e1 : ∀ K', YS X b rnd body (.blk y :: K') ⟨e.put c (.bool true), H, dfs⟩ Q' ↔ YS X b rnd (.block y body) K' ⟨e.put c (.bool true), H, dfs⟩ Q' := fun K' => by rw [YS_block]
      rw [e1]
      rw [← YS_block] at key
      refine YS_cut key fun ex s' hq => ?_
      rcases hq with ⟨rfl, e', H', rfl, h1, h2, h3⟩ | ⟨h1, h2⟩
      · have hw : IntKind.i64.wrap ((k : Int) + 1) = ((k + 1 : Nat) : Int) := by rw [wrap_i64 (by omega) (by omega)]; omega
        have hw' : IntKind.i64.wrap ((k : Int) + Int.ofNat 1) = ((k + 1 : Nat) : Int) := hw
        simp only [YX_seqN, YS_reg, YO_cons, runOp, wantedA, step, evalA, h2, binD, binInt, if_true, Y1_some, YO_nil, YX_nil, putO, hw', Env.put_get _ _ ha]
        exact hn (N - (k + 1)) _ (by omega) ⟨k + 1, _, H', rfl, by omega, rfl, f2 _ _ _ _ _ h1, by rw [Env.put_get _ _ hi, if_pos rfl], by rw [Env.put_get _ _ hi, if_neg (by omega), Env.put_get _ _ ha, if_neg (by omega)]; exact h3⟩
      · cases ex with
        | normal => exact absurd rfl h1
        | exit j => exact hx _ _ h1 (.inr h2)
        | ret => exact hx _ _ h1 (.inr h2)
    · obtain rfl : k = N := by omega
      simp only [hkN, decide_false, YC_false, YS_exit, YX_seqE, YX_nil] at hI1 ⊢
      exact hx _ _ (by simp) (.inl ⟨_, _, rfl, rfl, hI1⟩)
  · rintro ex s' hx (⟨e', H', rfl, rfl, h⟩ | h)
    · exact out e' H' h
    · exact outX ex s' hx h

/-- A loop by its state: what holds at its head; each round leads there again with less to go, or out. -/
theorem YS_ind {σ : Type} (I : σ → Env → Heap → Prop) (m : σ → Nat)
    (step : ∀ k e H, I k e H → ∀ L, (∀ k' e' H', m k' < m k → I k' e' H' → YS X b rnd (.loop L) K ⟨e', H', dfs⟩ Q) → YS X b rnd p (.lp L :: K) ⟨e, H, dfs⟩ Q)
    (k : σ) {e : Env} {H : Heap} (h : I k e H) : YS X b rnd (.loop p) K ⟨e, H, dfs⟩ Q := by
  generalize hn : m k = n
  induction n using Nat.strongRecOn generalizing k e H with
  | ind n ih =>
    rw [YS_loopU]
    exact step k e H h p fun k' e' H' hk h' => ih (m k') (by omega) k' h' rfl

mutual
theorem D.beq_self : ∀ d : D, d.beq d = true
  | .undef | .nilp | .nilsl | .nilf | .esl => rfl
  | .bool a => by simp [D.beq]
  | .int k a => by simp [D.beq]
  | .str a => by simp [D.beq]
  | .fptr a => by simp only [D.beq]; exact D.beqs_self a
  | .fsl a n => by simp [D.beq, D.beqs_self a]
  | .ptr a o => by simp [D.beq]
  | .rptr a g o => by simp [D.beq]
  | .osl a g o n => by simp [D.beq]
  | .func f a c => by simp [D.beq, D.beqs_self a, D.beqs_self c]
  | .yield a => by simp [D.beq]
  | .mp a => by simp [D.beq]
  | .agg a => by simp only [D.beq]; exact D.beqs_self a
  | .tup a => by simp only [D.beq]; exact D.beqs_self a
  | .sym a b => by simp [D.beq]
theorem D.beqs_self : ∀ l : List D, D.beqs l l = true
  | [] => rfl
  | d :: r => by simp only [D.beqs, D.beq_self d, D.beqs_self r]; rfl
end

/-! Regions whose order is open, whose calls leave the heap as it is. -/
open Classical in
noncomputable def runE (X : Ctx) (b : Nat) : List AOper → Env → Heap → Option Env
  | [], e, _ => some e
  | o :: r, e, H => match runOp X.G b (callΩ X) e H o with
    | some (d, H') => if H' = H then runE X b r (putO e o.dst d) H else none
    | none => none

theorem samePast_all {o : AOper} {d : D} {lo : Nat} (hs : sameAt X.G b (callΩ X) e o d H = true) {l : List (Nat × Heap)} (h : ∀ x ∈ l, x.2 = H) : samePast X.G b (callΩ X) e o d lo l = true := by
  induction l with
  | nil => rfl
  | cons x r ih =>
    obtain ⟨j, H1⟩ := x
    have h1 : H1 = H := h (j, H1) (by simp)
    subst h1
    simp only [samePast, hs, Bool.or_true, Bool.true_and]
    exact ih fun x hx => h x (List.mem_cons_of_mem _ hx)
theorem sameFut_all {o : AOper} {d : D} {hi : Nat} (hs : sameAt X.G b (callΩ X) e o d H = true) {l : List (Nat × Heap)} (h : ∀ x ∈ l, x.2 = H) : sameFut X.G b (callΩ X) e o d hi l = true := by
  induction l with
  | nil => rfl
  | cons x r ih =>
    obtain ⟨j, H1⟩ := x
    have h1 : H1 = H := h (j, H1) (by simp)
    subst h1
    simp only [sameFut, hs, Bool.or_true, Bool.true_and]
    exact ih fun x hx => h x (List.mem_cons_of_mem _ hx)
theorem runD_same {l : List (AOper × Nat × Nat)} : ∀ {i : Nat} {past : List (Nat × Heap)} {e e' : Env}, runE X b (strip l) e H = some e' → (∀ x ∈ past, x.2 = H) → ∃ fut, runD X.G b (callΩ X) i l past e H = some (e', H, fut) ∧ ∀ x ∈ fut, x.2 = H := by
  induction l with
  | nil => intro i past e e' h _; cases h; exact ⟨[], rfl, by simp⟩
  | cons x r ih =>
    obtain ⟨o, lo, hi⟩ := x
    intro i past e e' h hp
    simp only [strip, runE] at h
    split at h
    · rename_i d H' ho
      split at h
      · rename_i hh
        subst hh
        unfold runD
        rw [ho]
        simp only
        by_cases hE : o.op.isE = true
        · obtain ⟨fut, g1, g2⟩ := ih (i := i + 1) (past := (i, H') :: past) h (fun x hx => by
            rcases List.mem_cons.1 hx with rfl | hx
            · rfl
            · exact hp x hx)
          rw [if_pos hE, g1]
          exact ⟨_, rfl, fun x hx => by
            rcases List.mem_cons.1 hx with rfl | hx
            · rfl
            · exact g2 x hx⟩
        · obtain ⟨fut, g1, g2⟩ := ih (i := i + 1) (past := past) h hp
          rw [if_neg hE, g1]
          simp only
          by_cases hL : o.op.isL = true
          · have hs : sameAt X.G b (callΩ X) e o d H' = true := by unfold sameAt; rw [ho]; exact D.beq_self d
            rw [if_pos hL, samePast_all hs hp, sameFut_all hs g2]
            exact ⟨fut, rfl, g2⟩
          · rw [if_neg hL]; exact ⟨fut, rfl, g2⟩
      · cases h
    · cases h

/-- Operations that all leave the heap as it is; else what is left to show. -/
def YZ (X : Ctx) (b : Nat) (rnd : Option Nat) (ops : List AOper) (K : List Fr) (e : Env) (H : Heap) (dfs : List Nat) (Q : Ex → St → Prop) (Z : Prop) : Prop := match runE X b ops e H with
  | some e' => YX X b rnd .normal K ⟨e', H, dfs⟩ Q
  | none => Z
open Classical in
noncomputable def YZ1 (X : Ctx) (b : Nat) (rnd : Option Nat) (o : Option (D × Heap)) (dst : Option Nat) (r : List AOper) (K : List Fr) (e : Env) (H : Heap) (dfs : List Nat) (Q : Ex → St → Prop) (Z : Prop) : Prop := match o with
  | some (d, H') => if H' = H then YZ X b rnd r K (putO e dst d) H dfs Q Z else Z
  | none => Z
def YSd (X : Ctx) (b : Nat) (rnd : Option Nat) (l : List (AOper × Nat × Nat)) (K : List Fr) (e : Env) (H : Heap) (dfs : List Nat) (Q : Ex → St → Prop) : Prop := YS X b rnd (.dreg l) K ⟨e, H, dfs⟩ Q
theorem YS_dregZ {l : List (AOper × Nat × Nat)} : YS X b rnd (.dreg l) K ⟨e, H, dfs⟩ Q = YZ X b rnd (strip l) K e H dfs Q (YSd X b rnd l K e H dfs Q) := by
  unfold YZ YSd
  cases hr : runE X b (strip l) e H with
  | none => rfl
  | some e' =>
    obtain ⟨fut, g1, _⟩ := runD_same (i := 0) (past := []) hr (by simp)
    unfold YS
    rw [execΩ_dreg (s := ⟨e, H, dfs⟩) g1]
    rfl
theorem YSd_run {l : List (AOper × Nat × Nat)} {e' : Env} {H' : Heap} {fut : List (Nat × Heap)} (h : runD X.G b (callΩ X) 0 l [] e H = some (e', H', fut)) (h' : YX X b rnd .normal K ⟨e', H', dfs⟩ Q) : YSd X b rnd l K e H dfs Q := by
  unfold YSd YS
  rw [execΩ_dreg (s := ⟨e, H, dfs⟩) h]
  exact h'
variable {Z : Prop}
theorem YZ_nil : YZ X b rnd [] K e H dfs Q Z = YX X b rnd .normal K ⟨e, H, dfs⟩ Q := rfl
open Classical in
theorem YZ_cons : YZ X b rnd (o :: r) K e H dfs Q Z = YZ1 X b rnd (runOp X.G b (callΩ X) e H o) o.dst r K e H dfs Q Z := by
  unfold YZ YZ1
  simp only [runE]
  cases runOp X.G b (callΩ X) e H o with
  | none => rfl
  | some x =>
    obtain ⟨d, H'⟩ := x
    simp only
    by_cases h : H' = H
    · rw [if_pos h, if_pos h]; rfl
    · rw [if_neg h, if_neg h]
open Classical in
theorem YZ1_some : YZ1 X b rnd (some (d, H)) dst r K e H dfs Q Z = YZ X b rnd r K (putO e dst d) H dfs Q Z := by
  simp [YZ1]
theorem YZ1_ite {c : Prop} [Decidable c] {x y : Option (D × Heap)} : YZ1 X b rnd (if c then x else y) dst r K e H dfs Q Z = if c then YZ1 X b rnd x dst r K e H dfs Q Z else YZ1 X b rnd y dst r K e H dfs Q Z := by
  split <;> rfl
end
end Go.AM
