/- The abstract machine: entries without bodies, tables, known results, cuts, strings.Join. -/
import Derived.Test.YtmmgmcihiilfbabGreatDoorAmG
import Derived.Test.YtmmgmcihiilfbabGreatDoorAmH
import Derived.Lib.Bytealg
import Derived.Below
import Derived.CallsIn
import Derived.Lib.Join
/- Summaries of the library's functions without bodies; contexts with known results. -/
set_option linter.unusedVariables false
namespace Go.AM

noncomputable def ixB (c : Nat) (s : List UInt8) : Nat → Int := List.rec (motive := fun _ => Nat → Int) (fun _ => .negSucc 0) (fun b _ ih i => Bool.rec (motive := fun _ => Int) (ih (Nat.succ i)) (.ofNat i) (Nat.beq b.toNat c)) s
noncomputable def cntB (c : Nat) (s : List UInt8) : Nat := List.rec (motive := fun _ => Nat) 0 (fun b _ ih => Bool.rec (motive := fun _ => Nat) ih (Nat.succ ih) (Nat.beq b.toNat c)) s
noncomputable def eqB (a : List UInt8) : List UInt8 → Bool := List.rec (motive := fun _ => List UInt8 → Bool) (fun b => List.rec (motive := fun _ => Bool) true (fun _ _ _ => false) b) (fun x _ ih b => List.rec (motive := fun _ => Bool) false (fun y t _ => Bool.rec (motive := fun _ => Bool) false (ih t) (Nat.beq x.toNat y.toNat)) b) a

theorem eqB_eq {a b : List UInt8} (h : eqB a b = true) : a = b := by
  induction a generalizing b with
  | nil => cases b with
    | nil => rfl
    | cons y t => exact absurd h (by simp [eqB])
  | cons x a ih =>
    cases b with
    | nil => exact absurd h (by simp [eqB])
    | cons y t =>
      have h' : (Bool.rec (motive := fun _ => Bool) false (eqB a t) (Nat.beq x.toNat y.toNat) : Bool) = true := h
      cases hb : Nat.beq x.toNat y.toNat with
      | false => rw [hb] at h'; exact absurd h' (by simp)
      | true =>
        rw [hb] at h'
        have hxy : x = y := UInt8.toNat_inj.mp (Nat.eq_of_beq_eq_true hb)
        rw [hxy, ih h']

theorem beq8 (b : UInt8) (c : Nat) (hc : c < 256) : Nat.beq b.toNat c = (b == c.toUInt8) := by
  have h1 : c.toUInt8.toNat = c := by simp [Nat.toUInt8, UInt8.toNat_ofNat']; omega
  cases hb : Nat.beq b.toNat c with
  | true =>
    have := Nat.eq_of_beq_eq_true hb
    have : b = c.toUInt8 := UInt8.toNat_inj.mp (by rw [h1]; exact this)
    rw [this]; simp
  | false =>
    symm
    rw [beq_eq_false_iff_ne]
    intro h
    rw [h, h1] at hb
    rw [Nat.beq_refl] at hb
    cases hb

theorem ixB_eq (c : Nat) (hc : c < 256) (s : List UInt8) (i : Nat) : ixB c s i = (if Lib.indexByte s c.toUInt8 == -1 then -1 else Lib.indexByte s c.toUInt8 + i) := by
  induction s generalizing i with
  | nil => rfl
  | cons b l ih =>
    show Bool.rec (motive := fun _ => Int) (ixB c l (i + 1)) (.ofNat i) (Nat.beq b.toNat c) = _
    rw [beq8 b c hc, ih]
    rw [show Lib.indexByte (b :: l) c.toUInt8 = if b == c.toUInt8 then 0 else if Lib.indexByte l c.toUInt8 == -1 then -1 else Lib.indexByte l c.toUInt8 + 1 from rfl]
    have hg := Lib.indexByte_ge l c.toUInt8
    cases hb : b == c.toUInt8 with
    | true => simp
    | false =>
      simp only [Bool.false_eq_true, if_false]
      by_cases h1 : Lib.indexByte l c.toUInt8 = -1
      · simp [h1]
      · have h2 : (Lib.indexByte l c.toUInt8 == -1) = false := by rw [beq_eq_false_iff_ne]; exact h1
        have h3 : (Lib.indexByte l c.toUInt8 + 1 == -1) = false := by rw [beq_eq_false_iff_ne]; omega
        simp only [h2, h3, Bool.false_eq_true, if_false]
        omega
theorem ixB_eq0 (c : Nat) (hc : c < 256) (s : List UInt8) : ixB c s 0 = Lib.indexByte s c.toUInt8 := by
  rw [ixB_eq c hc]
  by_cases h1 : Lib.indexByte s c.toUInt8 = -1
  · simp [h1]
  · have h2 : (Lib.indexByte s c.toUInt8 == -1) = false := by rw [beq_eq_false_iff_ne]; exact h1
    simp [h2]
theorem cntB_eq (c : Nat) (hc : c < 256) (s : List UInt8) : cntB c s = Lib.countByte s c.toUInt8 := by
  unfold Lib.countByte
  induction s with
  | nil => rfl
  | cons b l ih =>
    show Bool.rec (motive := fun _ => Nat) (cntB c l) (Nat.succ (cntB c l)) (Nat.beq b.toNat c) = _
    rw [beq8 b c hc, ih, List.count_cons]
    cases b == c.toUInt8 <;> rfl

/-- What is known of the two entries. -/
noncomputable def pIxb (ds : List D) : Option D := match ds with
  | [.str s, .int .u8 (.ofNat c)] => if Nat.blt c 256 then some (.int .i64 (ixB c s 0)) else none
  | _ => none
noncomputable def pCnt (ds : List D) : Option D := match ds with
  | [.str s, .int .u8 (.ofNat c)] => if Nat.blt c 256 then some (.int .i64 (.ofNat (cntB c s))) else none
  | _ => none

theorem pIxb_yield (l : Nat) (as bs : List D) : pIxb (as ++ [.yield l] ++ bs) = none := by
  rcases as with _ | ⟨a, _ | ⟨b, _ | ⟨c, r⟩⟩⟩ <;> rcases bs with _ | ⟨x, _ | ⟨y, t⟩⟩ <;> simp [pIxb]
  all_goals (split <;> simp_all)
theorem pCnt_yield (l : Nat) (as bs : List D) : pCnt (as ++ [.yield l] ++ bs) = none := by
  rcases as with _ | ⟨a, _ | ⟨b, _ | ⟨c, r⟩⟩⟩ <;> rcases bs with _ | ⟨x, _ | ⟨y, t⟩⟩ <;> simp [pCnt]
  all_goals (split <;> simp_all)

section
variable {P : Program} {G : Nat → Option (List D)} {β : Bk} {Φ : Fz} {H : Heap} {w : World} {B : Nat → Prop}

theorem Res.same {d : D} {v : Value} (hw : WS P G β Φ B H w) (hv : VR d β Φ v) (hu : d.under 0 = true) : Res P G B β Φ H w d H v w :=
  ⟨β, Φ, hv, hw, Ext.refl _ _ _ _, .inr (D.under_le d (Nat.zero_le _) hu)⟩

theorem pIxb_ok {f : Nat} (hx : ∀ (s : ByteArray) (c : Int) (w : World), (callFunc f #[.string s, .int .u8 c]).run P w = .ok (.value (.int .i64 (Lib.indexByte s.data.toList c.toNat.toUInt8))) w) {ds : List D} {d : D} (h : pIxb ds = some d) {vs : List Value}
    (hw : WS P G β Φ B H w) (hv : VRs ds β Φ vs) : InvR P (Res P G B β Φ H w d H) ((callFunc f vs.toArray).run P w) := by
  unfold pIxb at h
  split at h
  · rename_i s c
    split at h
    · rename_i hc
      cases h
      simp only [VRs, VR] at hv
      obtain ⟨v1, r1, rfl, rfl, v2, r2, rfl, rfl, rfl⟩ := hv
      rw [hx]
      refine Res.same hw ?_ rfl
      simp only [VR]
      rw [ixB_eq0 c (Nat.blt_eq.mp hc)]
      rfl
    · cases h
  · cases h

theorem pCnt_ok {f : Nat} (hx : ∀ (s : ByteArray) (c : Int) (w : World), (callFunc f #[.string s, .int .u8 c]).run P w = .ok (.value (.int .i64 (Lib.countByte s.data.toList c.toNat.toUInt8))) w) {ds : List D} {d : D} (h : pCnt ds = some d) {vs : List Value}
    (hw : WS P G β Φ B H w) (hv : VRs ds β Φ vs) : InvR P (Res P G B β Φ H w d H) ((callFunc f vs.toArray).run P w) := by
  unfold pCnt at h
  split at h
  · rename_i s c
    split at h
    · rename_i hc
      cases h
      simp only [VRs, VR] at hv
      obtain ⟨v1, r1, rfl, rfl, v2, r2, rfl, rfl, rfl⟩ := hv
      rw [hx]
      refine Res.same hw ?_ rfl
      simp only [VR]
      rw [cntB_eq c (Nat.blt_eq.mp hc)]
      rfl
    · cases h
  · cases h

/-- More is known: closed calls of a good context. -/
theorem Good.more {X : Ctx} (hX : Good P X) (m : Nat → List D → Option D) (hm : ∀ f ds d, m f ds = some d → D.unders 0 ds = true ∧ d.under 0 = true ∧ ∃ k, callN X k (.func f [] []) ds [] = some (d, [])) :
    Good P ⟨X.G, X.fn, fun f ds => match m f ds with | some d => some d | none => X.prims f ds⟩ := by
  refine ⟨hX.fn, fun f ds d h {β Φ H w vs B} hw hv hu => ?_, fun f l as bs => ?_⟩
  · simp only at h
    split at h
    · rename_i d' hd
      cases h
      obtain ⟨h1, h2, k, h3⟩ := hm f ds _ hd
      exact closed_prim hX h3 h1 h2 hw hv
    · exact hX.prims f ds d h hw hv hu
  · simp only
    split
    · rename_i d' hd
      obtain ⟨h1, _, _⟩ := hm f _ _ hd
      exfalso
      have : ∀ (as bs : List D), D.unders 0 (as ++ [.yield l] ++ bs) = false := by
        intro as bs
        induction as with
        | nil => simp [D.unders, D.under]
        | cons a as ih => simp only [List.cons_append, D.unders]; rw [ih]; simp
      rw [this] at h1
      cases h1
    · exact hX.primsY f l as bs
end
end Go.AM
/- Contexts made of tables. -/
set_option linter.unusedVariables false
namespace Go.AM

/-- What each function of a table is asked; its numbers go in steps. -/
def FTab.Forall (Q : Nat → AFunc → Prop) : FTab → Nat → Nat → Prop
  | .nil, _, _ => True
  | .node l v r, a, b => (match v with | some x => Q b x | none => True) ∧ l.Forall Q (2 * a) (a + b) ∧ r.Forall Q (2 * a) (2 * a + b)

theorem FTab.Forall.get {Q : Nat → AFunc → Prop} : ∀ {t : FTab} {a b : Nat}, t.Forall Q a b → ∀ {n : Nat} {x : AFunc}, t.get n = some x → Q (a * n + b) x
  | .nil, a, b, h, n, x, hn => by cases hn
  | .node l v r, a, b, h, 0, x, hn => by
    have h1 := h.1
    have hv : v = some x := hn
    subst hv
    simpa using h1
  | .node l v r, a, b, h, n + 1, x, hn => by
    have h2 : (if Nat.beq (n % 2) 0 then l.get (n / 2) else r.get (n / 2)) = some x := hn
    rcases Nat.mod_two_eq_zero_or_one n with hm | hm
    · rw [hm] at h2
      have := FTab.Forall.get h.2.1 (n := n / 2) (x := x) h2
      have e : 2 * a * (n / 2) + (a + b) = a * (n + 1) + b := by
        have : n = 2 * (n / 2) := by omega
        generalize n / 2 = m at *
        subst this
        rw [Nat.mul_add, Nat.mul_comm 2 a, Nat.mul_assoc]; omega
      rwa [e] at this
    · rw [hm] at h2
      have := FTab.Forall.get h.2.2 (n := n / 2) (x := x) h2
      have e : 2 * a * (n / 2) + (2 * a + b) = a * (n + 1) + b := by
        have : n = 2 * (n / 2) + 1 := by omega
        generalize n / 2 = m at *
        subst this
        have : a * (2 * m + 1 + 1) = 2 * a * m + 2 * a := by
          rw [Nat.mul_add, Nat.mul_add, Nat.mul_comm 2 a, Nat.mul_assoc]; omega
        omega
      rwa [e] at this

/-- The closures that are dropped are among some. -/
def quietIn (l : List Nat) : List (Nat × Nat × Pol) → Bool
  | [] => true
  | (_, _, .quiet g) :: r => l.contains g && quietIn l r
  | _ :: r => quietIn l r

def FnOk (P : Program) (f : Nat) (af : AFunc) : Prop := ∃ fn pols keep, P.funcs[f]? = some fn ∧ compF P pols keep fn = some af ∧ ∀ i j g, polAt pols i j = some (.quiet g) → Quiet P g

theorem quietIn_get {l : List Nat} : ∀ {pols : List (Nat × Nat × Pol)}, quietIn l pols = true → ∀ {i j g : Nat}, polAt pols i j = some (.quiet g) → g ∈ l := by
  intro pols
  induction pols with
  | nil => intro _ i j g h; cases h
  | cons p r ih =>
    intro hq i j g h
    obtain ⟨a, b, q⟩ := p
    unfold polAt at h
    split at h
    · cases h
      simp only [quietIn, Bool.and_eq_true, List.contains_iff_mem] at hq
      exact hq.1
    · refine ih ?_ h
      cases q <;> simp_all [quietIn]

theorem FnOk.mk' {P : Program} {l : List Nat} (hl : ∀ g ∈ l, Quiet P g) {f : Nat} {fn : Func} {pols : List (Nat × Nat × Pol)} {keep : Option Nat} {af : AFunc} (hf : P.funcs[f]? = some fn) (hc : compF P pols keep fn = some af) (hq : quietIn l pols = true) : FnOk P f af :=
  ⟨fn, pols, keep, hf, hc, fun i j g h => hl g (quietIn_get hq h)⟩
end Go.AM
/- Layers: closed calls whose results are known. -/
set_option linter.unusedVariables false
namespace Go.AM
noncomputable def bAnd (a b : Bool) : Bool := Bool.rec (motive := fun _ => Bool) false b a
theorem bAnd_eq (a b : Bool) : bAnd a b = (a && b) := by cases a <;> rfl

noncomputable def keyB (k ds : List D) : Bool := match k with
  | [.str s] => (match ds with | [.str t] => eqB t s | _ => false)
  | _ => D.beqs ds k
theorem keyB_eq {k ds : List D} (h : keyB k ds = true) : ds = k := by
  unfold keyB at h
  split at h
  · split at h
    · rw [eqB_eq h]
    · cases h
  · exact D.beqs_eq _ _ h

noncomputable def look (l : List (List D × D)) (ds : List D) : Option D := List.rec (motive := fun _ => Option D) none (fun p _ ih => Prod.rec (motive := fun _ => Option D) (fun k d => Bool.rec (motive := fun _ => Option D) ih (some d) (keyB k ds)) p) l

noncomputable def Ctx.layer (X : Ctx) (f0 : Nat) (l : List (List D × D)) : Ctx := ⟨X.G, X.fn, fun f ds => Bool.rec (motive := fun _ => Option D) (X.prims f ds) (Option.rec (motive := fun _ => Option D) (X.prims f ds) (fun d => some d) (look l ds)) (Nat.beq f f0)⟩

/-- A closed call's result is known. -/
def Known (P : Program) (G : Nat → Option (List D)) (f : Nat) (k : List D) (d : D) : Prop :=
  (∃ X n, Good P X ∧ X.G = G ∧ fcallN X n (.func f [] []) k [] = some (d, [])) ∧ bAnd (funders 0 [d]) (funders 0 k) = true

theorem Known.mk' {P : Program} {X : Ctx} (hX : Good P X) {f : Nat} {k : List D} {d : D} (n : Nat) (h : fcallN X n (.func f [] []) k [] = some (d, [])) (hu : bAnd (funders 0 [d]) (funders 0 k) = true) : Known P X.G f k d := ⟨⟨X, n, hX, rfl, h⟩, hu⟩

def LayerOk (P : Program) (G : Nat → Option (List D)) (f0 : Nat) : List (List D × D) → Prop
  | [] => True
  | (k, d) :: r => Known P G f0 k d ∧ LayerOk P G f0 r

theorem LayerOk.look {P : Program} {G : Nat → Option (List D)} {f0 : Nat} : ∀ {l : List (List D × D)}, LayerOk P G f0 l → ∀ {ds : List D} {d : D}, look l ds = some d → Known P G f0 ds d := by
  intro l
  induction l with
  | nil => intro _ ds d h; cases h
  | cons p r ih =>
    intro hl ds d h
    obtain ⟨k, d'⟩ := p
    have h' : Bool.rec (motive := fun _ => Option D) (AM.look r ds) (some d') (keyB k ds) = some d := h
    cases hk : keyB k ds with
    | true =>
      rw [hk] at h'
      cases h'
      rw [keyB_eq hk]
      exact hl.1
    | false => rw [hk] at h'; exact ih hl.2 h'

theorem Good.layer {P : Program} {X : Ctx} (hX : Good P X) {f0 : Nat} {l : List (List D × D)} (hl : LayerOk P X.G f0 l) : Good P (X.layer f0 l) := by
  refine ⟨hX.fn, fun f ds d h {β Φ H w vs B} hw hv hu => ?_, fun f l0 as bs => ?_⟩
  · have h' : Bool.rec (motive := fun _ => Option D) (X.prims f ds) (Option.rec (motive := fun _ => Option D) (X.prims f ds) (fun d => some d) (look l ds)) (Nat.beq f f0) = some d := h
    cases hb : Nat.beq f f0 with
    | false => rw [hb] at h'; exact hX.prims f ds d h' hw hv hu
    | true =>
      rw [hb] at h'
      cases hk : look l ds with
      | none => rw [hk] at h'; exact hX.prims f ds d h' hw hv hu
      | some d' =>
        rw [hk] at h'
        cases h'
        obtain ⟨⟨X', n, g1, g2, g3⟩, g4⟩ := hl.look hk
        rw [bAnd_eq, Bool.and_eq_true, funders_eq, funders_eq] at g4
        rw [Nat.eq_of_beq_eq_true hb]
        rw [fcallN_eq] at g3
        have hw' : WS P X'.G β Φ B H w := by rw [g2]; exact hw
        have := closed_prim g1 g3 g4.2 (by simpa [D.unders] using g4.1) hw' hv
        rw [g2] at this
        exact this
  · show (Bool.rec (motive := fun _ => Option D) (X.prims f (as ++ [.yield l0] ++ bs)) (Option.rec (motive := fun _ => Option D) (X.prims f (as ++ [.yield l0] ++ bs)) (fun d => some d) (look l (as ++ [.yield l0] ++ bs))) (Nat.beq f f0) : Option D) = none
    have hn := hX.primsY f l0 as bs
    have hk : look l (as ++ [.yield l0] ++ bs) = none := by
      cases hk : look l (as ++ [.yield l0] ++ bs) with
      | none => rfl
      | some d =>
        obtain ⟨_, g4⟩ := hl.look hk
        rw [bAnd_eq, Bool.and_eq_true, funders_eq, funders_eq] at g4
        exfalso
        have : ∀ (as bs : List D), D.unders 0 (as ++ [.yield l0] ++ bs) = false := by
          intro as bs
          induction as with
          | nil => simp [D.unders, D.under]
          | cons a as ih => simp only [List.cons_append, D.unders]; rw [ih]; simp
        rw [this] at g4
        cases g4.2
    rw [hk, hn]
    cases Nat.beq f f0 <;> rfl
end Go.AM
/- A call whose body is cut into what comes before a choice and what comes behind it. -/
set_option linter.unusedVariables false
namespace Go.AM

noncomputable def ffin (fn : AFunc) (o : Option (Ex × St)) : Option (D × Heap) :=
  Option.rec (motive := fun _ => Option (D × Heap)) none (fun p => Prod.rec (motive := fun _ => Option (D × Heap)) (fun e s => Ex.rec (motive := fun _ => Option (D × Heap)) (ffinish fn 0 s) (fun _ => none) (ffinish fn 0 s) e) p) o

noncomputable def fthen (o : Option (Ex × St)) (g : St → Option (Ex × St)) : Option (Ex × St) :=
  Option.rec (motive := fun _ => Option (Ex × St)) none (fun p => Prod.rec (motive := fun _ => Option (Ex × St)) (fun e s' => Ex.rec (motive := fun _ => Option (Ex × St)) (g s') (fun i => some (.exit i, s')) (some (.ret, s')) e) p) o

theorem fthen_assoc (o : Option (Ex × St)) (g h : St → Option (Ex × St)) : fthen (fthen o g) h = fthen o (fun s => fthen (g s) h) := by
  cases o with
  | none => rfl
  | some p => obtain ⟨e, s⟩ := p; cases e <;> rfl

section
variable {G : Nat → Option (List D)} {bb : Nat} {call : D → List D → Heap → Option (D × Heap)} {lf : Nat} {rnd : Option Nat}

theorem fexec_seq (a b : ACode) (s : St) : fexec (.seq a b) G bb call lf rnd s = fthen (fexec a G bb call lf rnd s) (fexec b G bb call lf rnd) := rfl

theorem fexec_assoc (a b c : ACode) : fexec (.seq (.seq a b) c) G bb call lf rnd = fexec (.seq a (.seq b c)) G bb call lf rnd := by
  funext s
  rw [fexec_seq, fexec_seq, fexec_seq, fthen_assoc]
  rfl

theorem fexec_cut4 (a b c d r : ACode) : fexec (.seq a (.seq b (.seq c (.seq d r)))) G bb call lf rnd = fexec (.seq (.seq a (.seq b (.seq c d))) r) G bb call lf rnd := by
  have e1 : ∀ x y z : ACode, fexec y G bb call lf rnd = fexec z G bb call lf rnd → fexec (.seq x y) G bb call lf rnd = fexec (.seq x z) G bb call lf rnd := by
    intro x y z h; funext s; rw [fexec_seq, fexec_seq, h]
  rw [fexec_assoc, e1 a _ _ ((fexec_assoc b (.seq c d) r).trans (e1 b _ _ (fexec_assoc c d r)))]
end

theorem fcall_body {X : Ctx} {k f : Nat} {fn : AFunc} {args : List D} (hp : X.prims f args = none) (hf : X.fn f = some fn) (hl : Nat.blt (flen args) 65535 = true) :
    fcallN X (k + 1) (.func f [] []) args [] = ffin fn (fexec fn.body X.G 0 (fcallN X k) k none ⟨fargs .nil args 0, [], []⟩) := by
  have e : [] ++ args ++ [] = args := by simp
  show (match X.prims f ([] ++ args ++ []) with
      | some d => some (d, [])
      | none => match X.fn f with
        | none => none
        | some fn => Bool.rec (motive := fun _ => Option (D × Heap)) none (fbody X k (fcallN X k) fn ([] ++ args ++ []) []) (Nat.blt (flen ([] ++ args ++ [])) 65535)) = _
  rw [e, hp, hf, hl]
  rfl

theorem cut4 {X : Ctx} {k f : Nat} {fn : AFunc} {args : List D} {a b c d r : ACode} {s1 : St} {res : D × Heap} (hp : X.prims f args = none) (hf : X.fn f = some fn) (hl : Nat.blt (flen args) 65535 = true)
    (hb : fn.body = .seq a (.seq b (.seq c (.seq d r)))) (hA : fexec (.seq a (.seq b (.seq c d))) X.G 0 (fcallN X k) k none ⟨fargs .nil args 0, [], []⟩ = some (.normal, s1))
    (hB : ffin fn (fexec r X.G 0 (fcallN X k) k none s1) = some res) : fcallN X (k + 1) (.func f [] []) args [] = some res := by
  rw [fcall_body hp hf hl, hb, fexec_cut4, fexec_seq, hA]
  exact hB

/-- A number, folded into 0..m-1. -/
theorem fold48 (n : Int) : ∃ v : Nat, v < 48 ∧ (IntKind.i64.wrap (n.tmod (.ofNat 48) + .ofNat 48)).tmod (.ofNat 48) = .ofNat v := by
  have h1 : -48 < n.tmod 48 ∧ n.tmod 48 < 48 := by
    have := Int.lt_tmod_of_pos n (show (0 : Int) < 48 by decide)
    have := Int.tmod_lt_of_pos n (show (0 : Int) < 48 by decide)
    omega
  have h2 : IntKind.i64.wrap (n.tmod 48 + 48) = n.tmod 48 + 48 := by
    have e : (n.tmod 48 + 48) % (2 ^ IntKind.i64.bits : Int) = n.tmod 48 + 48 := by
      show (n.tmod 48 + 48) % (2 ^ 64 : Int) = _
      exact Int.emod_eq_of_lt (by omega) (by omega)
    unfold IntKind.wrap
    simp only [e]
    rw [if_neg]
    intro h
    rw [Bool.and_eq_true] at h
    have h5 : n.tmod 48 + 48 ≥ (2 ^ (64 - 1) : Int) := of_decide_eq_true h.2
    omega
  have h3 : (n.tmod 48 + 48).tmod 48 = (n.tmod 48 + 48) % 48 := Int.tmod_eq_emod_of_nonneg (by omega)
  refine ⟨((n.tmod 48 + 48) % 48).toNat, by omega, ?_⟩
  show (IntKind.i64.wrap (n.tmod 48 + 48)).tmod 48 = _
  rw [h2, h3]
  show _ = ((((n.tmod 48 + 48) % 48).toNat : Nat) : Int)
  omega
end Go.AM
/- A call that is cut twice; a function compiled in two ways. -/
set_option linter.unusedVariables false
namespace Go.AM
theorem cut2 {G : Nat → Option (List D)} {call : D → List D → Heap → Option (D × Heap)} {lf : Nat} {fn : AFunc} {a b r : ACode} {s1 s2 : St} {res : Option (D × Heap)} (hA : fexec (.seq a b) G 0 call lf none s1 = some (.normal, s2)) (hB : ffin fn (fexec r G 0 call lf none s2) = res) :
    ffin fn (fexec (.seq a (.seq b r)) G 0 call lf none s1) = res := by
  rw [← fexec_assoc, fexec_seq, hA]
  exact hB

/-- One function of a context is another's text compiled in another way. -/
noncomputable def Ctx.fnset (X : Ctx) (f : Nat) (af : AFunc) : Ctx := ⟨X.G, fun i => Bool.rec (motive := fun _ => Option AFunc) (X.fn i) (some af) (Nat.beq i f), X.prims⟩
theorem Good.fnset {P : Program} {X : Ctx} (hX : Good P X) {f : Nat} {af : AFunc} (h : FnOk P f af) : Good P (X.fnset f af) := by
  refine ⟨fun i a hi => ?_, hX.prims, hX.primsY⟩
  have h' : Bool.rec (motive := fun _ => Option AFunc) (X.fn i) (some af) (Nat.beq i f) = some a := hi
  cases hb : Nat.beq i f with
  | false => rw [hb] at h'; exact hX.fn i a h'
  | true =>
    rw [hb] at h'
    cases h'
    rw [Nat.eq_of_beq_eq_true hb]
    exact h
end Go.AM
/- Summaries out of contracts; strings.Join. -/
set_option linter.unusedVariables false
set_option linter.unusedSimpArgs false
namespace Go.AM
open Go.RowKit

section
variable {P : Program} {G : Nat → Option (List D)} {β : Bk} {Φ : Fz} {H : Heap} {w : World} {B : Nat → Prop}

/-- A contract that leaves all that lies as it is. -/
theorem inv_of_calls {f : Nat} {args : Array Value} {v : Value} {d : D} (h : Calls P f args w fun e w' => e = .returned v ∧ Below w.heap.size w w') (he : EntersAt P f) (hw : WS P G β Φ B H w) (hv : VR d β Φ v) (hd : d.under 0 = true) :
    InvR P (Res P G B β Φ H w d H) ((callFunc f args).run P w) := by
  rw [enter_run he]
  show CallsIn Fence.wide 0 P f args w (ret (Res P G B β Φ H w d H))
  refine callsIn_wide.2 (h.mono fun e w' q => ?_)
  obtain ⟨rfl, hb⟩ := q
  exact ⟨β, Φ, hv, ⟨hw.wr.grown ⟨hb.size, hb.block⟩, hw.ids⟩, Ext.ofGrown hw.wr ⟨hb.size, hb.block⟩ hb.os hb.tape hb.output, .inr (D.under_le d (Nat.zero_le _) hd)⟩
end

/-- One function's summary is another. -/
noncomputable def Ctx.prim (X : Ctx) (f0 : Nat) (p : List D → Option D) : Ctx := ⟨X.G, X.fn, fun f ds => Bool.rec (motive := fun _ => Option D) (X.prims f ds) (p ds) (Nat.beq f f0)⟩
theorem Good.prim {P : Program} {X : Ctx} (hX : Good P X) {f0 : Nat} {p : List D → Option D}
    (hp : ∀ ds d, p ds = some d → ∀ {β : Bk} {Φ : Fz} {H : Heap} {w : World} {vs : List Value} {B : Nat → Prop}, WS P X.G β Φ B H w → VRs ds β Φ vs → InvR P (Res P X.G B β Φ H w d H) ((callFunc f0 vs.toArray).run P w))
    (hy : ∀ l xs ys, p (xs ++ [.yield l] ++ ys) = none) : Good P (X.prim f0 p) := by
  refine ⟨hX.fn, fun f ds d h {β Φ H w vs B} hw hv hu => ?_, fun f l xs ys => ?_⟩
  · have h' : Bool.rec (motive := fun _ => Option D) (X.prims f ds) (p ds) (Nat.beq f f0) = some d := h
    cases hb : Nat.beq f f0 with
    | false => rw [hb] at h'; exact hX.prims f ds d h' hw hv hu
    | true => rw [hb] at h'; rw [Nat.eq_of_beq_eq_true hb]; exact hp ds d h' hw hv
  · show Bool.rec (motive := fun _ => Option D) (X.prims f (xs ++ [.yield l] ++ ys)) (p (xs ++ [.yield l] ++ ys)) (Nat.beq f f0) = none
    rw [hy, hX.primsY]
    cases Nat.beq f f0 <;> rfl

def strsOf : List D → Option (List (List UInt8))
  | [] => some []
  | .str s :: r => match strsOf r with
    | some l => some (s :: l)
    | none => none
  | _ => none

theorem strsOf_eq : ∀ {cs : List D} {xs : List (List UInt8)}, strsOf cs = some xs → cs = xs.map D.str := by
  intro cs
  induction cs with
  | nil => intro xs h; cases h; rfl
  | cons d r ih =>
    intro xs h
    cases d with
    | str s =>
      simp only [strsOf] at h
      cases hr : strsOf r with
      | none => rw [hr] at h; cases h
      | some l => rw [hr] at h; cases h; rw [ih hr]; rfl
    | _ => simp [strsOf] at h

def pJoin (ds : List D) : Option D := match ds with
  | [.fsl cs n, .str sep] => match strsOf cs with
    | some xs => if Nat.beq n xs.length && Nat.blt 0 n && Nat.ble n 140737488355328 && Nat.ble (Lib.join xs sep).length 140737488355328 then some (.str (Lib.join xs sep)) else none
    | none => none
  | _ => none

theorem frs_strs {Φ : Fz} {cur : Array Value} : ∀ {xs : List (List UInt8)} {o : Nat}, FRs (xs.map D.str) Φ cur o → ∀ (j : Nat) (x : List UInt8), xs[j]? = some x → cur[o + j]? = some (.string ⟨x.toArray⟩)
  | [], o, h, j, x, hx => by simp at hx
  | y :: ys, o, h, j, x, hx => by
    simp only [List.map_cons, FRs] at h
    obtain ⟨⟨v, h1, _, h2⟩, h3⟩ := h
    cases j with
    | zero =>
      simp at hx
      subst hx
      simp only [VR] at h2
      rw [Nat.add_zero, h1, h2]
    | succ j =>
      have := frs_strs h3 j x (by simpa using hx)
      rw [show o + (j + 1) = o + 1 + j from by omega]
      exact this

theorem pJoin_ok {P : Program} {G : Nat → Option (List D)} {β : Bk} {Φ : Fz} {H : Heap} {w : World} {B : Nat → Prop} {f : Nat} (he : EntersAt P f)
    (hJ : ∀ (bk o c : Nat) (xs : List ByteArray) (sep : ByteArray) (w : World), (∀ (j : Nat) x, xs[j]? = some x → w.cell? ⟨bk, o + j, none⟩ = some (.string x)) → bk < w.heap.size → xs.length ≤ 140737488355328 → xs.length ≤ c →
      (Lib.join (xs.map (·.data.toList)) sep.data.toList).length ≤ 140737488355328 →
      Calls P f #[.slice (some ⟨bk, o, none⟩) xs.length c, .string sep] w fun e w' => e = .returned (.string ⟨(Lib.join (xs.map (·.data.toList)) sep.data.toList).toArray⟩) ∧ Below w.heap.size w w')
    {ds : List D} {d : D} (h : pJoin ds = some d) {vs : List Value} (hw : WS P G β Φ B H w) (hv : VRs ds β Φ vs) : InvR P (Res P G B β Φ H w d H) ((callFunc f vs.toArray).run P w) := by
  unfold pJoin at h
  split at h
  · rename_i cs n sep
    split at h
    · rename_i xs hxs
      split at h
      · rename_i hc
        cases h
        simp only [Bool.and_eq_true] at hc
        obtain ⟨⟨⟨c1, c2⟩, c3⟩, c4⟩ := hc
        have c1 := Nat.eq_of_beq_eq_true c1
        have c2 : 0 < n := Nat.blt_eq.mp c2
        have c3 := Nat.ble_eq.mp c3
        have c4 := Nat.ble_eq.mp c4
        have hcs := strsOf_eq hxs
        simp only [VRs, VR] at hv
        obtain ⟨v1, r1, rfl, ⟨ad, cap, hcap, rfl, hf⟩, v2, r2, rfl, rfl, rfl⟩ := hv
        rcases hf with hf | ⟨cur, e, fr, hf1, hf2, hf3⟩
        · rw [hf] at hcs
          have : xs = [] := by cases xs with
            | nil => rfl
            | cons a b => cases hcs
          rw [this] at c1
          simp at c1
          omega
        · obtain ⟨bk, off, sp⟩ := ad
          simp only at hf2
          subst hf2
          have hh := hw.wr.fz _ _ hf1
          rw [hcs] at hf3
          have hx := frs_strs hf3
          have e1 : (xs.map fun x => (⟨x.toArray⟩ : ByteArray)).map (·.data.toList) = xs := by
            rw [List.map_map]
            have : ((fun x : ByteArray => x.data.toList) ∘ fun x : List UInt8 => (⟨x.toArray⟩ : ByteArray)) = id := by funext x; simp
            rw [this]; simp
          have hcall := hJ bk off cap (xs.map fun x => ⟨x.toArray⟩) ⟨sep.toArray⟩ w (fun j x hj => by
            rw [List.getElem?_map] at hj
            obtain ⟨y, hy, rfl⟩ := Option.map_eq_some_iff.1 hj
            have := hx j y hy
            simp only [World.cell?, hh]
            exact this) (by
            have := (Array.getElem?_eq_some_iff.1 hh).1
            exact this) (by rw [List.length_map]; omega) (by rw [List.length_map]; omega) (by rw [e1]; simpa using c4)
          rw [e1, List.length_map, ← c1] at hcall
          refine inv_of_calls (v := .string ⟨(Lib.join xs sep).toArray⟩) ?_ he hw (by simp [VR]) rfl
          simpa using hcall
      · cases h
    · cases h
  · cases h

theorem pJoin_yield (l : Nat) (xs ys : List D) : pJoin (xs ++ [.yield l] ++ ys) = none := by
  rcases xs with _ | ⟨a, _ | ⟨b, _ | ⟨c, r⟩⟩⟩ <;> rcases ys with _ | ⟨x, _ | ⟨y, t⟩⟩ <;> simp [pJoin]
  all_goals (cases a <;> simp)
end Go.AM
namespace Go.AM
theorem frunOps_append (G : Nat → Option (List D)) (b : Nat) (call : D → List D → Heap → Option (D × Heap)) (l1 l2 : List AOper) (env : Env) (H : Heap) :
    frunOps (l1 ++ l2) G b call env H = Option.rec (motive := fun _ => Option (Env × Heap)) none (fun p => Prod.rec (motive := fun _ => Option (Env × Heap)) (fun e h => frunOps l2 G b call e h) p) (frunOps l1 G b call env H) := by
  simp only [frunOps_eq]
  induction l1 generalizing env H with
  | nil => rfl
  | cons o r ih =>
    simp only [List.cons_append, runOps]
    cases runOp G b call env H o with
    | none => rfl
    | some p => exact ih _ _

theorem fexec_reg_append {G : Nat → Option (List D)} {bb : Nat} {call : D → List D → Heap → Option (D × Heap)} {lf : Nat} {rnd : Option Nat} (l1 l2 : List AOper) : fexec (.reg (l1 ++ l2)) G bb call lf rnd = fexec (.seq (.reg l1) (.reg l2)) G bb call lf rnd := by
  funext s
  obtain ⟨env, H, dfs⟩ := s
  rw [fexec_seq]
  show Option.rec (motive := fun _ => Option (Ex × St)) none (fun p => Prod.rec (motive := fun _ => Option (Ex × St)) (fun e h => some (.normal, ⟨e, h, dfs⟩)) p) (frunOps (l1 ++ l2) G bb call env H) =
    fthen (Option.rec (motive := fun _ => Option (Ex × St)) none (fun p => Prod.rec (motive := fun _ => Option (Ex × St)) (fun e h => some (.normal, ⟨e, h, dfs⟩)) p) (frunOps l1 G bb call env H)) (fexec (.reg l2) G bb call lf rnd)
  rw [frunOps_append]
  cases frunOps l1 G bb call env H with
  | none => rfl
  | some p => rfl

/-- A call cut into what depends on the arguments, what does not, and the rest. -/
theorem cut3 {X : Ctx} {k f : Nat} {fn : AFunc} {args : List D} {a b c r : ACode} {l1 l2 : List AOper} {s1 s2 : St} {res : D × Heap} (hp : X.prims f args = none) (hf : X.fn f = some fn) (hl : Nat.blt (flen args) 65535 = true)
    (hb : fn.body = .seq a (.seq b (.seq c (.seq (.reg (l1 ++ l2)) r)))) (hA : fexec (.seq a (.seq b c)) X.G 0 (fcallN X k) k none ⟨fargs .nil args 0, [], []⟩ = some (.normal, s1))
    (hM : fexec (.reg l1) X.G 0 (fcallN X k) k none s1 = some (.normal, s2))
    (hB : ffin fn (fexec (.seq (.reg l2) r) X.G 0 (fcallN X k) k none s2) = some res) : fcallN X (k + 1) (.func f [] []) args [] = some res := by
  have e1 : ∀ x y z : ACode, fexec y X.G 0 (fcallN X k) k none = fexec z X.G 0 (fcallN X k) k none → fexec (.seq x y) X.G 0 (fcallN X k) k none = fexec (.seq x z) X.G 0 (fcallN X k) k none := by
    intro x y z h; funext s; rw [fexec_seq, fexec_seq, h]
  have e2 : fexec (.seq a (.seq b (.seq c (.seq (.reg (l1 ++ l2)) r)))) X.G 0 (fcallN X k) k none = fexec (.seq (.seq a (.seq b c)) (.seq (.reg l1) (.seq (.reg l2) r))) X.G 0 (fcallN X k) k none := by
    rw [fexec_assoc]
    refine e1 a _ _ ?_
    rw [fexec_assoc]
    refine e1 b _ _ (e1 c _ _ ?_)
    rw [← fexec_assoc]
    funext s
    rw [fexec_seq, fexec_seq, fexec_reg_append]
  rw [fcall_body hp hf hl, hb, e2, fexec_seq, hA]
  show ffin fn (fexec (.seq (.reg l1) (.seq (.reg l2) r)) X.G 0 (fcallN X k) k none s1) = _
  rw [fexec_seq, hM]
  exact hB

/-- A claim of each of a list. -/
def Each {α : Type} (Q : α → Prop) : List α → Prop
  | [] => True
  | a :: l => Q a ∧ Each Q l
theorem Each.mem {α : Type} {Q : α → Prop} : ∀ {l : List α}, Each Q l → ∀ {a : α}, a ∈ l → Q a
  | _ :: _, h, a, ha => by
    rcases List.mem_cons.1 ha with rfl | ha
    · exact h.1
    · exact h.2.mem ha
end Go.AM
