/- The abstract machine: entries without bodies, tables, known results, cuts, rows. -/
import Derived.Test.YtjcnlakifipmgaaGreatDoorAmG
import Derived.Test.YtjcnlakifipmgaaGreatDoorAmH
import Derived.Lib.Bytealg
import Derived.ChangeSame
import Derived.RowKit3
import Derived.Lib.LaidTab
import Derived.CallsIn
set_option linter.unusedVariables false
set_option linter.unusedSimpArgs false
set_option linter.unnecessarySimpa false
set_option maxRecDepth 100000
/- Summaries of the library's functions without bodies; contexts with known results. -/
namespace Go.AM

noncomputable def ixB (c : Nat) (s : List UInt8) : Nat → Int := List.rec (motive := fun _ => Nat → Int) (fun _ => .negSucc 0) (fun b _ ih i => Bool.rec (motive := fun _ => Int) (ih (Nat.succ i)) (.ofNat i) (Nat.beq b.toNat c)) s
noncomputable def cntB (c : Nat) (s : List UInt8) : Nat := List.rec (motive := fun _ => Nat) 0 (fun b _ ih => Bool.rec (motive := fun _ => Nat) ih (Nat.succ ih) (Nat.beq b.toNat c)) s
noncomputable def eqB (a : List UInt8) : List UInt8 → Bool := List.rec (motive := fun _ => List UInt8 → Bool) (fun b => List.rec (motive := fun _ => Bool) true (fun _ _ _ => false) b) (fun x _ ih b => List.rec (motive := fun _ => Bool) false (fun y t _ => Bool.rec (motive := fun _ => Bool) false (ih t) (Nat.beq x.toNat y.toNat)) b) a

theorem eqB_eq {a b : List UInt8} (h : eqB a b = true) : a = b := by
  induction a generalizing b with
  | nil => cases b with
    | nil => rfl
    | cons y t => exact absurd h (by simp [eqB])
  | cons x a ih =>
    cases b with
    | nil => exact absurd h (by simp [eqB])
    | cons y t =>
      have h' : (Bool.rec (motive := fun _ => Bool) false (eqB a t) (Nat.beq x.toNat y.toNat) : Bool) = true := h
      cases hb : Nat.beq x.toNat y.toNat with
      | false => rw [hb] at h'; exact absurd h' (by simp)
      | true =>
        rw [hb] at h'
        have hxy : x = y := UInt8.toNat_inj.mp (Nat.eq_of_beq_eq_true hb)
        rw [hxy, ih h']

theorem beq8 (b : UInt8) (c : Nat) (hc : c < 256) : Nat.beq b.toNat c = (b == c.toUInt8) := by
  have h1 : c.toUInt8.toNat = c := by simp [Nat.toUInt8, UInt8.toNat_ofNat']; omega
  cases hb : Nat.beq b.toNat c with
  | true =>
    have := Nat.eq_of_beq_eq_true hb
    have : b = c.toUInt8 := UInt8.toNat_inj.mp (by rw [h1]; exact this)
    rw [this]; simp
  | false =>
    symm
    rw [beq_eq_false_iff_ne]
    intro h
    rw [h, h1] at hb
    rw [Nat.beq_refl] at hb
    cases hb

theorem ixB_eq (c : Nat) (hc : c < 256) (s : List UInt8) (i : Nat) : ixB c s i = (if Lib.indexByte s c.toUInt8 == -1 then -1 else Lib.indexByte s c.toUInt8 + i) := by
  induction s generalizing i with
  | nil => rfl
  | cons b l ih =>
    show Bool.rec (motive := fun _ => Int) (ixB c l (i + 1)) (.ofNat i) (Nat.beq b.toNat c) = _
    rw [beq8 b c hc, ih]
    rw [show Lib.indexByte (b :: l) c.toUInt8 = if b == c.toUInt8 then 0 else if Lib.indexByte l c.toUInt8 == -1 then -1 else Lib.indexByte l c.toUInt8 + 1 from rfl]
    have hg := Lib.indexByte_ge l c.toUInt8
    cases hb : b == c.toUInt8 with
    | true => simp
    | false =>
      simp only [Bool.false_eq_true, if_false]
      by_cases h1 : Lib.indexByte l c.toUInt8 = -1
      · simp [h1]
      · have h2 : (Lib.indexByte l c.toUInt8 == -1) = false := by rw [beq_eq_false_iff_ne]; exact h1
        have h3 : (Lib.indexByte l c.toUInt8 + 1 == -1) = false := by rw [beq_eq_false_iff_ne]; omega
        simp only [h2, h3, Bool.false_eq_true, if_false]
        omega
theorem ixB_eq0 (c : Nat) (hc : c < 256) (s : List UInt8) : ixB c s 0 = Lib.indexByte s c.toUInt8 := by
  rw [ixB_eq c hc]
  by_cases h1 : Lib.indexByte s c.toUInt8 = -1
  · simp [h1]
  · have h2 : (Lib.indexByte s c.toUInt8 == -1) = false := by rw [beq_eq_false_iff_ne]; exact h1
    simp [h2]
theorem cntB_eq (c : Nat) (hc : c < 256) (s : List UInt8) : cntB c s = Lib.countByte s c.toUInt8 := by
  unfold Lib.countByte
  induction s with
  | nil => rfl
  | cons b l ih =>
    show Bool.rec (motive := fun _ => Nat) (cntB c l) (Nat.succ (cntB c l)) (Nat.beq b.toNat c) = _
    rw [beq8 b c hc, ih, List.count_cons]
    cases b == c.toUInt8 <;> rfl

/-- What is known of the two entries. -/
noncomputable def pIxb (ds : List D) : Option D := match ds with
  | [.str s, .int .u8 (.ofNat c)] => if Nat.blt c 256 then some (.int .i64 (ixB c s 0)) else none
  | _ => none
noncomputable def pCnt (ds : List D) : Option D := match ds with
  | [.str s, .int .u8 (.ofNat c)] => if Nat.blt c 256 then some (.int .i64 (.ofNat (cntB c s))) else none
  | _ => none

theorem pIxb_yield (l : Nat) (as bs : List D) : pIxb (as ++ [.yield l] ++ bs) = none := by
  rcases as with _ | ⟨a, _ | ⟨b, _ | ⟨c, r⟩⟩⟩ <;> rcases bs with _ | ⟨x, _ | ⟨y, t⟩⟩ <;> simp [pIxb]
  all_goals (split <;> simp_all)
theorem pCnt_yield (l : Nat) (as bs : List D) : pCnt (as ++ [.yield l] ++ bs) = none := by
  rcases as with _ | ⟨a, _ | ⟨b, _ | ⟨c, r⟩⟩⟩ <;> rcases bs with _ | ⟨x, _ | ⟨y, t⟩⟩ <;> simp [pCnt]
  all_goals (split <;> simp_all)

section
variable {P : Program} {G : Nat → Option (List D)} {β : Bk} {Φ : Fz} {H : Heap} {w : World} {B : Nat → Prop}

theorem Res.same {d : D} {v : Value} (hw : WS P G β Φ B H w) (hv : VR d β Φ v) (hu : d.under 0 = true) : Res P G B β Φ H w d H v w :=
  ⟨β, Φ, hv, hw, Ext.refl _ _ _ _, .inr (D.under_le d (Nat.zero_le _) hu)⟩

theorem pIxb_ok {f : Nat} (hx : ∀ (s : ByteArray) (c : Int) (w : World), (callFunc f #[.string s, .int .u8 c]).run P w = .ok (.value (.int .i64 (Lib.indexByte s.data.toList c.toNat.toUInt8))) w) {ds : List D} {d : D} (h : pIxb ds = some d) {vs : List Value}
    (hw : WS P G β Φ B H w) (hv : VRs ds β Φ vs) : InvR P (Res P G B β Φ H w d H) ((callFunc f vs.toArray).run P w) := by
  unfold pIxb at h
  split at h
  · rename_i s c
    split at h
    · rename_i hc
      cases h
      simp only [VRs, VR] at hv
      obtain ⟨v1, r1, rfl, rfl, v2, r2, rfl, rfl, rfl⟩ := hv
      rw [hx]
      refine Res.same hw ?_ rfl
      simp only [VR]
      rw [ixB_eq0 c (Nat.blt_eq.mp hc)]
      rfl
    · cases h
  · cases h

theorem pCnt_ok {f : Nat} (hx : ∀ (s : ByteArray) (c : Int) (w : World), (callFunc f #[.string s, .int .u8 c]).run P w = .ok (.value (.int .i64 (Lib.countByte s.data.toList c.toNat.toUInt8))) w) {ds : List D} {d : D} (h : pCnt ds = some d) {vs : List Value}
    (hw : WS P G β Φ B H w) (hv : VRs ds β Φ vs) : InvR P (Res P G B β Φ H w d H) ((callFunc f vs.toArray).run P w) := by
  unfold pCnt at h
  split at h
  · rename_i s c
    split at h
    · rename_i hc
      cases h
      simp only [VRs, VR] at hv
      obtain ⟨v1, r1, rfl, rfl, v2, r2, rfl, rfl, rfl⟩ := hv
      rw [hx]
      refine Res.same hw ?_ rfl
      simp only [VR]
      rw [cntB_eq c (Nat.blt_eq.mp hc)]
      rfl
    · cases h
  · cases h

/-- More is known: closed calls of a good context. -/
theorem Good.more {X : Ctx} (hX : Good P X) (m : Nat → List D → Option D) (hm : ∀ f ds d, m f ds = some d → D.unders 0 ds = true ∧ d.under 0 = true ∧ ∃ k, callN X k (.func f [] []) ds [] = some (d, [])) :
    Good P ⟨X.G, X.fn, fun f ds => match m f ds with | some d => some d | none => X.prims f ds⟩ := by
  refine ⟨hX.fn, fun f ds d h {β Φ H w vs B} hw hv hu => ?_, fun f l as bs => ?_⟩
  · simp only at h
    split at h
    · rename_i d' hd
      cases h
      obtain ⟨h1, h2, k, h3⟩ := hm f ds _ hd
      exact closed_prim hX h3 h1 h2 hw hv
    · exact hX.prims f ds d h hw hv hu
  · simp only
    split
    · rename_i d' hd
      obtain ⟨h1, _, _⟩ := hm f _ _ hd
      exfalso
      have : ∀ (as bs : List D), D.unders 0 (as ++ [.yield l] ++ bs) = false := by
        intro as bs
        induction as with
        | nil => simp [D.unders, D.under]
        | cons a as ih => simp only [List.cons_append, D.unders]; rw [ih]; simp
      rw [this] at h1
      cases h1
    · exact hX.primsY f l as bs
end
end Go.AM
/- Contexts made of tables. -/
namespace Go.AM

/-- What each function of a table is asked; its numbers go in steps. -/
def FTab.Forall (Q : Nat → AFunc → Prop) : FTab → Nat → Nat → Prop
  | .nil, _, _ => True
  | .node l v r, a, b => (match v with | some x => Q b x | none => True) ∧ l.Forall Q (2 * a) (a + b) ∧ r.Forall Q (2 * a) (2 * a + b)

theorem FTab.Forall.get {Q : Nat → AFunc → Prop} : ∀ {t : FTab} {a b : Nat}, t.Forall Q a b → ∀ {n : Nat} {x : AFunc}, t.get n = some x → Q (a * n + b) x
  | .nil, a, b, h, n, x, hn => by cases hn
  | .node l v r, a, b, h, 0, x, hn => by
    have h1 := h.1
    have hv : v = some x := hn
    subst hv
    simpa using h1
  | .node l v r, a, b, h, n + 1, x, hn => by
    have h2 : (if Nat.beq (n % 2) 0 then l.get (n / 2) else r.get (n / 2)) = some x := hn
    rcases Nat.mod_two_eq_zero_or_one n with hm | hm
    · rw [hm] at h2
      have := FTab.Forall.get h.2.1 (n := n / 2) (x := x) h2
      have e : 2 * a * (n / 2) + (a + b) = a * (n + 1) + b := by
        have : n = 2 * (n / 2) := by omega
        generalize n / 2 = m at *
        subst this
        rw [Nat.mul_add, Nat.mul_comm 2 a, Nat.mul_assoc]; omega
      rwa [e] at this
    · rw [hm] at h2
      have := FTab.Forall.get h.2.2 (n := n / 2) (x := x) h2
      have e : 2 * a * (n / 2) + (2 * a + b) = a * (n + 1) + b := by
        have : n = 2 * (n / 2) + 1 := by omega
        generalize n / 2 = m at *
        subst this
        have : a * (2 * m + 1 + 1) = 2 * a * m + 2 * a := by
          rw [Nat.mul_add, Nat.mul_add, Nat.mul_comm 2 a, Nat.mul_assoc]; omega
        omega
      rwa [e] at this

/-- The closures that are dropped are among some. -/
def quietIn (l : List Nat) : List (Nat × Nat × Pol) → Bool
  | [] => true
  | (_, _, .quiet g) :: r => l.contains g && quietIn l r
  | _ :: r => quietIn l r

def FnOk (P : Program) (f : Nat) (af : AFunc) : Prop := ∃ fn pols keep, P.funcs[f]? = some fn ∧ compF P pols keep fn = some af ∧ ∀ i j g, polAt pols i j = some (.quiet g) → Quiet P g

theorem quietIn_get {l : List Nat} : ∀ {pols : List (Nat × Nat × Pol)}, quietIn l pols = true → ∀ {i j g : Nat}, polAt pols i j = some (.quiet g) → g ∈ l := by
  intro pols
  induction pols with
  | nil => intro _ i j g h; cases h
  | cons p r ih =>
    intro hq i j g h
    obtain ⟨a, b, q⟩ := p
    unfold polAt at h
    split at h
    · cases h
      simp only [quietIn, Bool.and_eq_true, List.contains_iff_mem] at hq
      exact hq.1
    · refine ih ?_ h
      cases q <;> simp_all [quietIn]

theorem FnOk.mk' {P : Program} {l : List Nat} (hl : ∀ g ∈ l, Quiet P g) {f : Nat} {fn : Func} {pols : List (Nat × Nat × Pol)} {keep : Option Nat} {af : AFunc} (hf : P.funcs[f]? = some fn) (hc : compF P pols keep fn = some af) (hq : quietIn l pols = true) : FnOk P f af :=
  ⟨fn, pols, keep, hf, hc, fun i j g h => hl g (quietIn_get hq h)⟩
end Go.AM
/- Layers: closed calls whose results are known. -/
namespace Go.AM
noncomputable def bAnd (a b : Bool) : Bool := Bool.rec (motive := fun _ => Bool) false b a
theorem bAnd_eq (a b : Bool) : bAnd a b = (a && b) := by cases a <;> rfl

noncomputable def keyB (k ds : List D) : Bool := match k with
  | [.str s] => (match ds with | [.str t] => eqB t s | _ => false)
  | _ => D.beqs ds k
theorem keyB_eq {k ds : List D} (h : keyB k ds = true) : ds = k := by
  unfold keyB at h
  split at h
  · split at h
    · rw [eqB_eq h]
    · cases h
  · exact D.beqs_eq _ _ h

noncomputable def look (l : List (List D × D)) (ds : List D) : Option D := List.rec (motive := fun _ => Option D) none (fun p _ ih => Prod.rec (motive := fun _ => Option D) (fun k d => Bool.rec (motive := fun _ => Option D) ih (some d) (keyB k ds)) p) l

noncomputable def Ctx.layer (X : Ctx) (f0 : Nat) (l : List (List D × D)) : Ctx := ⟨X.G, X.fn, fun f ds => Bool.rec (motive := fun _ => Option D) (X.prims f ds) (Option.rec (motive := fun _ => Option D) (X.prims f ds) (fun d => some d) (look l ds)) (Nat.beq f f0)⟩

/-- A closed call's result is known. -/
def Known (P : Program) (G : Nat → Option (List D)) (f : Nat) (k : List D) (d : D) : Prop :=
  (∃ X n, Good P X ∧ X.G = G ∧ fcallN X n (.func f [] []) k [] = some (d, [])) ∧ bAnd (funders 0 [d]) (funders 0 k) = true

theorem Known.mk' {P : Program} {X : Ctx} (hX : Good P X) {f : Nat} {k : List D} {d : D} (n : Nat) (h : fcallN X n (.func f [] []) k [] = some (d, [])) (hu : bAnd (funders 0 [d]) (funders 0 k) = true) : Known P X.G f k d := ⟨⟨X, n, hX, rfl, h⟩, hu⟩

def LayerOk (P : Program) (G : Nat → Option (List D)) (f0 : Nat) : List (List D × D) → Prop
  | [] => True
  | (k, d) :: r => Known P G f0 k d ∧ LayerOk P G f0 r

theorem LayerOk.look {P : Program} {G : Nat → Option (List D)} {f0 : Nat} : ∀ {l : List (List D × D)}, LayerOk P G f0 l → ∀ {ds : List D} {d : D}, look l ds = some d → Known P G f0 ds d := by
  intro l
  induction l with
  | nil => intro _ ds d h; cases h
  | cons p r ih =>
    intro hl ds d h
    obtain ⟨k, d'⟩ := p
    have h' : Bool.rec (motive := fun _ => Option D) (AM.look r ds) (some d') (keyB k ds) = some d := h
    cases hk : keyB k ds with
    | true =>
      rw [hk] at h'
      cases h'
      rw [keyB_eq hk]
      exact hl.1
    | false => rw [hk] at h'; exact ih hl.2 h'

theorem Good.layer {P : Program} {X : Ctx} (hX : Good P X) {f0 : Nat} {l : List (List D × D)} (hl : LayerOk P X.G f0 l) : Good P (X.layer f0 l) := by
  refine ⟨hX.fn, fun f ds d h {β Φ H w vs B} hw hv hu => ?_, fun f l0 as bs => ?_⟩
  · have h' : Bool.rec (motive := fun _ => Option D) (X.prims f ds) (Option.rec (motive := fun _ => Option D) (X.prims f ds) (fun d => some d) (look l ds)) (Nat.beq f f0) = some d := h
    cases hb : Nat.beq f f0 with
    | false => rw [hb] at h'; exact hX.prims f ds d h' hw hv hu
    | true =>
      rw [hb] at h'
      cases hk : look l ds with
      | none => rw [hk] at h'; exact hX.prims f ds d h' hw hv hu
      | some d' =>
        rw [hk] at h'
        cases h'
        obtain ⟨⟨X', n, g1, g2, g3⟩, g4⟩ := hl.look hk
        rw [bAnd_eq, Bool.and_eq_true, funders_eq, funders_eq] at g4
        rw [Nat.eq_of_beq_eq_true hb]
        rw [fcallN_eq] at g3
        have hw' : WS P X'.G β Φ B H w := by rw [g2]; exact hw
        have := closed_prim g1 g3 g4.2 (by simpa [D.unders] using g4.1) hw' hv
        rw [g2] at this
        exact this
  · show (Bool.rec (motive := fun _ => Option D) (X.prims f (as ++ [.yield l0] ++ bs)) (Option.rec (motive := fun _ => Option D) (X.prims f (as ++ [.yield l0] ++ bs)) (fun d => some d) (look l (as ++ [.yield l0] ++ bs))) (Nat.beq f f0) : Option D) = none
    have hn := hX.primsY f l0 as bs
    have hk : look l (as ++ [.yield l0] ++ bs) = none := by
      cases hk : look l (as ++ [.yield l0] ++ bs) with
      | none => rfl
      | some d =>
        obtain ⟨_, g4⟩ := hl.look hk
        rw [bAnd_eq, Bool.and_eq_true, funders_eq, funders_eq] at g4
        exfalso
        have : ∀ (as bs : List D), D.unders 0 (as ++ [.yield l0] ++ bs) = false := by
          intro as bs
          induction as with
          | nil => simp [D.unders, D.under]
          | cons a as ih => simp only [List.cons_append, D.unders]; rw [ih]; simp
        rw [this] at g4
        cases g4.2
    rw [hk, hn]
    cases Nat.beq f f0 <;> rfl
end Go.AM
/- A call whose body is cut into what comes before a choice and what comes behind it. -/
namespace Go.AM

noncomputable def ffin (fn : AFunc) (o : Option (Ex × St)) : Option (D × Heap) :=
  Option.rec (motive := fun _ => Option (D × Heap)) none (fun p => Prod.rec (motive := fun _ => Option (D × Heap)) (fun e s => Ex.rec (motive := fun _ => Option (D × Heap)) (ffinish fn 0 s) (fun _ => none) (ffinish fn 0 s) e) p) o

noncomputable def fthen (o : Option (Ex × St)) (g : St → Option (Ex × St)) : Option (Ex × St) :=
  Option.rec (motive := fun _ => Option (Ex × St)) none (fun p => Prod.rec (motive := fun _ => Option (Ex × St)) (fun e s' => Ex.rec (motive := fun _ => Option (Ex × St)) (g s') (fun i => some (.exit i, s')) (some (.ret, s')) e) p) o

theorem fthen_assoc (o : Option (Ex × St)) (g h : St → Option (Ex × St)) : fthen (fthen o g) h = fthen o (fun s => fthen (g s) h) := by
  cases o with
  | none => rfl
  | some p => obtain ⟨e, s⟩ := p; cases e <;> rfl

section
variable {G : Nat → Option (List D)} {bb : Nat} {call : D → List D → Heap → Option (D × Heap)} {lf : Nat} {rnd : Option Nat}

theorem fexec_seq (a b : ACode) (s : St) : fexec (.seq a b) G bb call lf rnd s = fthen (fexec a G bb call lf rnd s) (fexec b G bb call lf rnd) := rfl

theorem fexec_assoc (a b c : ACode) : fexec (.seq (.seq a b) c) G bb call lf rnd = fexec (.seq a (.seq b c)) G bb call lf rnd := by
  funext s
  rw [fexec_seq, fexec_seq, fexec_seq, fthen_assoc]
  rfl

theorem fexec_cut4 (a b c d r : ACode) : fexec (.seq a (.seq b (.seq c (.seq d r)))) G bb call lf rnd = fexec (.seq (.seq a (.seq b (.seq c d))) r) G bb call lf rnd := by
  have e1 : ∀ x y z : ACode, fexec y G bb call lf rnd = fexec z G bb call lf rnd → fexec (.seq x y) G bb call lf rnd = fexec (.seq x z) G bb call lf rnd := by
    intro x y z h; funext s; rw [fexec_seq, fexec_seq, h]
  rw [fexec_assoc, e1 a _ _ ((fexec_assoc b (.seq c d) r).trans (e1 b _ _ (fexec_assoc c d r)))]
end

theorem fcall_body {X : Ctx} {k f : Nat} {fn : AFunc} {args : List D} (hp : X.prims f args = none) (hf : X.fn f = some fn) (hl : Nat.blt (flen args) 65535 = true) :
    fcallN X (k + 1) (.func f [] []) args [] = ffin fn (fexec fn.body X.G 0 (fcallN X k) k none ⟨fargs .nil args 0, [], []⟩) := by
  have e : [] ++ args ++ [] = args := by simp
  show (match X.prims f ([] ++ args ++ []) with
      | some d => some (d, [])
      | none => match X.fn f with
        | none => none
        | some fn => Bool.rec (motive := fun _ => Option (D × Heap)) none (fbody X k (fcallN X k) fn ([] ++ args ++ []) []) (Nat.blt (flen ([] ++ args ++ [])) 65535)) = _
  rw [e, hp, hf, hl]
  rfl

theorem cut4 {X : Ctx} {k f : Nat} {fn : AFunc} {args : List D} {a b c d r : ACode} {s1 : St} {res : D × Heap} (hp : X.prims f args = none) (hf : X.fn f = some fn) (hl : Nat.blt (flen args) 65535 = true)
    (hb : fn.body = .seq a (.seq b (.seq c (.seq d r)))) (hA : fexec (.seq a (.seq b (.seq c d))) X.G 0 (fcallN X k) k none ⟨fargs .nil args 0, [], []⟩ = some (.normal, s1))
    (hB : ffin fn (fexec r X.G 0 (fcallN X k) k none s1) = some res) : fcallN X (k + 1) (.func f [] []) args [] = some res := by
  rw [fcall_body hp hf hl, hb, fexec_cut4, fexec_seq, hA]
  exact hB

/-- A number, folded into 0..m-1. -/
theorem fold48 (n : Int) : ∃ v : Nat, v < 48 ∧ (IntKind.i64.wrap (n.tmod (.ofNat 48) + .ofNat 48)).tmod (.ofNat 48) = .ofNat v := by
  have h1 : -48 < n.tmod 48 ∧ n.tmod 48 < 48 := by
    have := Int.lt_tmod_of_pos n (show (0 : Int) < 48 by decide)
    have := Int.tmod_lt_of_pos n (show (0 : Int) < 48 by decide)
    omega
  have h2 : IntKind.i64.wrap (n.tmod 48 + 48) = n.tmod 48 + 48 := by
    have e : (n.tmod 48 + 48) % (2 ^ IntKind.i64.bits : Int) = n.tmod 48 + 48 := by
      show (n.tmod 48 + 48) % (2 ^ 64 : Int) = _
      exact Int.emod_eq_of_lt (by omega) (by omega)
    unfold IntKind.wrap
    simp only [e]
    rw [if_neg]
    intro h
    rw [Bool.and_eq_true] at h
    have h5 : n.tmod 48 + 48 ≥ (2 ^ (64 - 1) : Int) := of_decide_eq_true h.2
    omega
  have h3 : (n.tmod 48 + 48).tmod 48 = (n.tmod 48 + 48) % 48 := Int.tmod_eq_emod_of_nonneg (by omega)
  refine ⟨((n.tmod 48 + 48) % 48).toNat, by omega, ?_⟩
  show (IntKind.i64.wrap (n.tmod 48 + 48)).tmod 48 = _
  rw [h2, h3]
  show _ = ((((n.tmod 48 + 48) % 48).toNat : Nat) : Int)
  omega
end Go.AM
/- A call that is cut twice; a function compiled in two ways. -/
namespace Go.AM
theorem cut2 {G : Nat → Option (List D)} {call : D → List D → Heap → Option (D × Heap)} {lf : Nat} {fn : AFunc} {a b r : ACode} {s1 s2 : St} {res : Option (D × Heap)} (hA : fexec (.seq a b) G 0 call lf none s1 = some (.normal, s2)) (hB : ffin fn (fexec r G 0 call lf none s2) = res) :
    ffin fn (fexec (.seq a (.seq b r)) G 0 call lf none s1) = res := by
  rw [← fexec_assoc, fexec_seq, hA]
  exact hB

/-- One function of a context is another's text compiled in another way. -/
noncomputable def Ctx.fnset (X : Ctx) (f : Nat) (af : AFunc) : Ctx := ⟨X.G, fun i => Bool.rec (motive := fun _ => Option AFunc) (X.fn i) (some af) (Nat.beq i f), X.prims⟩
theorem Good.fnset {P : Program} {X : Ctx} (hX : Good P X) {f : Nat} {af : AFunc} (h : FnOk P f af) : Good P (X.fnset f af) := by
  refine ⟨fun i a hi => ?_, hX.prims, hX.primsY⟩
  have h' : Bool.rec (motive := fun _ => Option AFunc) (X.fn i) (some af) (Nat.beq i f) = some a := hi
  cases hb : Nat.beq i f with
  | false => rw [hb] at h'; exact hX.fn i a h'
  | true =>
    rw [hb] at h'
    cases h'
    rw [Nat.eq_of_beq_eq_true hb]
    exact h
end Go.AM
/- From a run to a row's own words. -/
namespace Go.AM
open Go.RowKit Go.ChangeShapes

theorem frs_ints {k : IntKind} {Φ : Fz} : ∀ (zs pre : List Int), FRs (zs.map (D.int k)) Φ ((pre ++ zs).map (Value.int k)).toArray pre.length
  | [], pre => by simp [FRs]
  | z :: zs, pre => by
    simp only [List.map_cons, FRs]
    refine ⟨⟨.int k z, by simp, rfl, by simp [VR]⟩, ?_⟩
    have := frs_ints (k := k) (Φ := Φ) zs (pre ++ [z])
    simpa using this

/-- A table of numbers that is laid is a global of the machine. -/
theorem glob_tab {P : Program} {W : World} {name : String} {k : IntKind} {zs : List Int} {g : Nat} (hg : P.globalNamed name = some g) (h : Lib.TabIs P W name k zs) :
    ∃ cur e fr, W.heap[g]? = some (.cells cur e fr) ∧ FRs (zs.map (D.int k)) (Fz.all W) cur 0 := by
  unfold Lib.TabIs World.var? at h
  rw [hg] at h
  simp only [Option.bind_some] at h
  split at h
  · rename_i cs e fr hc
    cases h
    exact ⟨_, e, fr, hc, frs_ints zs []⟩
  · cases h

/-- What a run from without gives: the answer; all that lay there lies there. -/
theorem calls_of {P : Program} {X : Ctx} (hX : Good P X) {k f : Nat} {args : List D} {d : D} {H' : Heap} (h : callN X k (.func f [] []) args [] = some (d, H')) {w : World} (hG : ∀ g cs, X.G g = some cs → ∃ cur e fr, w.heap[g]? = some (.cells cur e fr) ∧ FRs cs (Fz.all w) cur 0)
    {vs : List Value} (hv : VRs args Bk.none (Fz.all w) vs) (hu : ∀ x ∈ args, UN 0 x) (he : EntersAt P f) (hd : d.under 0 = true) :
    Calls P f vs.toArray w fun e w' => ∃ v, e = .returned v ∧ (∃ Φ, VR d Bk.none Φ v) ∧ w'.os = w.os ∧ w'.output = w.output ∧ w.heap.size ≤ w'.heap.size ∧ ∀ j, j < w.heap.size → w'.heap[j]? = w.heap[j]? := by
  have hr := call_from hX h hG hv hu
  rw [enter_run he] at hr
  have hc : CallsIn Fence.wide 0 P f vs.toArray w (ret (Res P X.G (fun _ => False) Bk.none (Fz.all w) [] w d H')) := hr
  refine (callsIn_wide.1 hc).mono fun e w' q => ?_
  cases e with
  | returned v =>
    obtain ⟨β', Φ', q1, q2, q3, _⟩ := q
    exact ⟨v, rfl, ⟨Φ', VR.closed d hd q1⟩, q3.os, q3.output, q3.size, fun j hj => q3.same j hj (by rintro ⟨id, c, hc, _⟩; simp at hc)⟩
  | panicked c => exact q.elim
  | outgrown => exact q.elim

theorem keptBut_of_same {W W' : World} (h1 : W'.os = W.os) (h2 : W'.output = W.output) (h3 : ∀ j, j < W.heap.size → W'.heap[j]? = W.heap[j]?) (may : MemPlace → Prop) : W.keptBut W' may := by
  refine ⟨h1, h2, fun i hi => ?_⟩
  rw [h3 i hi]
  cases hc : W.heap[i]? with
  | none => rfl
  | some o =>
    cases o <;> simp

section
variable {H : Type} {enc : TypeId × Value → H} {P : Program}
/-- A law's postcondition where all that lay there lies there. -/
theorem post_of_lies {f : Func} {s : ChangeSpec} {apart fresh handsOn again : Bool} {W W' : World} {args : Array Value} {v : Value} {ds gs : List (DataW H)} {before pa pv : List MemPlace}
    (hW : DataW.Whole enc P f.params.toList s.vars apart W args.toList ds gs before)
    (hres : ∀ (b : Nat) (sp : Nat → Bool) (hd : Bool), DataW.TrodAll enc P W' b sp hd f.resultTypes.toList (v.resultList f.resultTypes.size) (s.fn H (ds ++ gs)).results [])
    (hargs : ∀ sp : Nat → Bool, (∀ p ∈ before, sp p.block = true) → DataW.TrodAll enc P W' 0 sp true f.params.toList args.toList (s.fn H (ds ++ gs)).args pa)
    (hvars : ∀ sp : Nat → Bool, (∀ p ∈ before, sp p.block = true) → DataW.TrodVars enc P W' sp s.vars (s.fn H (ds ++ gs)).vars pv)
    (hps : before = pa ++ pv) (h1 : W'.os = W.os) (h2 : W'.output = W.output) (h3 : ∀ j, j < W.heap.size → W'.heap[j]? = W.heap[j]?)
    (hok : ∀ (j : Nat) (t : TypeId) (r : Value), f.resultTypes[j]? = some t → (v.resultList f.resultTypes.size)[j]? = some r → Value.okWide P W' .any 0 t r) :
    s.post enc P f apart fresh handsOn again W args v W' := by
  have hold : ∀ p ∈ before, (fun b => decide (b < W.heap.size)) p.block = true := fun p hp => by simpa using hW.lt p hp
  have hlt := hW.lt
  refine ⟨ds, gs, before, [], pa, pv, hW, hres _ _ _, hargs _ hold, hvars _ hold, World.keptBut_mono (fun p hp => ⟨hp, ?_⟩) (keptBut_of_same h1 h2 h3 (· ∈ before)), fun _ => ?_⟩
  · rw [hps, List.mem_append] at hp
    exact Or.inr hp
  · obtain ⟨_, _, _, _, _, hz, hn⟩ := hW
    refine ⟨hok, _, _, ([] ++ pa) ++ pv, ⟨[] ++ pa, pv, trodAll_append (hargs _ (fun _ _ => rfl)) (hres _ _ _), hvars _ (fun _ _ => rfl), rfl, ?_, ?_⟩, ?_⟩
    · intro b off hp
      have hm : MemPlace.cell b off ∈ before := by rw [hps]; simpa using hp
      have hb : b < W.heap.size := hlt _ hm
      have := hz b off hm
      unfold World.frozen? at this ⊢
      rw [h3 b hb]
      exact this
    · intro ha
      have := hn ha
      rw [hps] at this
      simpa using this
    · intro p hp _
      rw [hps]
      simpa using hp
end
end Go.AM
