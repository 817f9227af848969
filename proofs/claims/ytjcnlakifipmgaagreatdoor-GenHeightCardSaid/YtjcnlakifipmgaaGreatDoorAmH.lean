/- The abstract machine in a form that the kernel runs fast: equal to it. -/
import Derived.Test.YtjcnlakifipmgaaGreatDoorAmA
set_option linter.unusedVariables false
set_option linter.unusedSimpArgs false
set_option linter.unnecessarySimpa false
set_option maxRecDepth 100000
/- The abstract machine, in a form that the kernel runs fast: equal to it. -/
namespace Go.AM

inductive EP where
  | stop
  | l (p : EP)
  | r (p : EP)

noncomputable def pathF (f : Nat) : Nat → EP := Nat.rec (motive := fun _ => Nat → EP) (fun _ => .stop) (fun _ ih n => Bool.rec (motive := fun _ => EP) (Bool.rec (motive := fun _ => EP) (.r (ih (Nat.div (Nat.sub n 1) 2))) (.l (ih (Nat.div (Nat.sub n 1) 2))) (Nat.beq (Nat.mod n 2) 1)) .stop (Nat.beq n 0)) f

theorem pathF_zero (f : Nat) : pathF f 0 = .stop := by cases f <;> rfl
theorem pathF_succ (f m : Nat) : pathF (f + 1) (m + 1) = if Nat.beq (m % 2) 0 then .l (pathF f (m / 2)) else .r (pathF f (m / 2)) := by
  show Bool.rec (motive := fun _ => EP) (.r (pathF f (m / 2))) (.l (pathF f (m / 2))) (Nat.beq ((m + 1) % 2) 1) = _
  rcases Nat.mod_two_eq_zero_or_one m with h | h
  · have : (m + 1) % 2 = 1 := by omega
    rw [h, this]; rfl
  · have : (m + 1) % 2 = 0 := by omega
    rw [h, this]; rfl

noncomputable def fgetP (e : Env) : EP → D := Env.rec (motive := fun _ => EP → D) (fun _ => .undef) (fun _ v _ gl gr p => EP.rec (motive := fun _ => D) v (fun q _ => gl q) (fun q _ => gr q) p) e
noncomputable def fget (e : Env) (n : Nat) : D := fgetP e (pathF n n)

theorem fgetP_eq (e : Env) (f n : Nat) (h : n ≤ f) : fgetP e (pathF f n) = e.get n := by
  induction e generalizing f n with
  | nil => rfl
  | node l v r hl hr =>
    cases n with
    | zero => rw [pathF_zero]; rfl
    | succ m =>
      cases f with
      | zero => omega
      | succ f =>
        rw [pathF_succ]
        show _ = (if Nat.beq (m % 2) 0 then l.get (m / 2) else r.get (m / 2))
        cases Nat.beq (m % 2) 0 with
        | true => exact hl f (m / 2) (by omega)
        | false => exact hr f (m / 2) (by omega)
theorem fget_eq : fget = Env.get := by funext e n; exact fgetP_eq e n n (Nat.le_refl n)

noncomputable def fsetP (p : EP) : Env → D → Env := EP.rec (motive := fun _ => Env → D → Env)
  (fun e v => Env.rec (motive := fun _ => Env) (.node .nil v .nil) (fun l _ r _ _ => .node l v r) e)
  (fun _ ih e v => Env.rec (motive := fun _ => Env) (.node (ih .nil v) .undef .nil) (fun l x r _ _ => .node (ih l v) x r) e)
  (fun _ ih e v => Env.rec (motive := fun _ => Env) (.node .nil .undef (ih .nil v)) (fun l x r _ _ => .node l x (ih r v)) e) p
noncomputable def fset (g : Nat) (e : Env) (n : Nat) (v : D) : Env := Bool.rec (motive := fun _ => Env) (Env.set g e n v) (fsetP (pathF n n) e v) (Nat.blt n (Nat.sub (Nat.pow 2 g) 1))

theorem fsetP_eq (g : Nat) (e : Env) (f n : Nat) (v : D) (h : n ≤ f) (hg : n + 1 < 2 ^ g) : fsetP (pathF f n) e v = Env.set g e n v := by
  induction g generalizing e f n with
  | zero => simp at hg
  | succ g ih =>
    cases n with
    | zero => rw [pathF_zero]; cases e <;> rfl
    | succ m =>
      cases f with
      | zero => omega
      | succ f =>
        have hp : 2 ^ (g + 1) = 2 * 2 ^ g := by rw [Nat.pow_succ]; omega
        have h1 := fun e' => ih e' f (m / 2) (by omega) (by omega)
        rw [pathF_succ]
        cases e with
        | nil =>
          show _ = (if Nat.beq (m % 2) 0 then Env.node (Env.set g .nil (m / 2) v) .undef .nil else Env.node .nil .undef (Env.set g .nil (m / 2) v))
          rw [← h1 .nil]
          cases Nat.beq (m % 2) 0 <;> rfl
        | node l x r =>
          show _ = (if Nat.beq (m % 2) 0 then Env.node (Env.set g l (m / 2) v) x r else Env.node l x (Env.set g r (m / 2) v))
          rw [← h1 l, ← h1 r]
          cases Nat.beq (m % 2) 0 <;> rfl
theorem fset_eq : fset = Env.set := by
  funext g e n v
  unfold fset
  cases h : Nat.blt n (Nat.sub (Nat.pow 2 g) 1) with
  | false => rfl
  | true =>
    have h2 : n < 2 ^ g - 1 := Nat.blt_eq.mp h
    exact fsetP_eq g e n n v (Nat.le_refl n) (by omega)

noncomputable def flen {α : Type} (l : List α) : Nat := List.rec (motive := fun _ => Nat) 0 (fun _ _ ih => Nat.succ ih) l
theorem flen_eq {α : Type} (l : List α) : flen l = l.length := by
  induction l with
  | nil => rfl
  | cons a l ih => show Nat.succ (flen l) = _; rw [ih]; rfl
noncomputable def fnth {α : Type} (l : List α) : Nat → Option α := List.rec (motive := fun _ => Nat → Option α) (fun _ => none) (fun a _ ih n => Bool.rec (motive := fun _ => Option α) (ih (Nat.sub n 1)) (some a) (Nat.beq n 0)) l
theorem fnth_eq {α : Type} (l : List α) (n : Nat) : fnth l n = l[n]? := by
  induction l generalizing n with
  | nil => rfl
  | cons a l ih =>
    cases n with
    | zero => rfl
    | succ m => show fnth l m = _; rw [ih]; simp

noncomputable def funders (n : Nat) (l : List D) : Bool := D.rec_1 (motive_1 := fun _ => Nat → Bool) (motive_2 := fun _ => Nat → Bool)
  (fun _ => false) (fun _ _ => true) (fun _ _ _ => true) (fun _ _ => true) (fun _ => true) (fun _ => true) (fun _ => true) (fun _ => true)
  (fun _ _ _ => true) (fun _ _ _ _ => true) (fun id _ n => Nat.blt id n) (fun id _ _ n => Nat.blt id n) (fun id _ _ _ n => Nat.blt id n)
  (fun _ _ _ a b n => Bool.rec (motive := fun _ => Bool) false (b n) (a n)) (fun id n => Nat.blt id n) (fun _ a => a) (fun _ a => a) (fun _ _ _ => true) (fun id n => Nat.blt id n)
  (fun _ => true) (fun _ _ a b n => Bool.rec (motive := fun _ => Bool) false (b n) (a n)) l n
noncomputable def fones (l : List D) : Bool := List.rec (motive := fun _ => Bool) true (fun d _ ih => Bool.rec (motive := fun _ => Bool) false ih
  (D.rec (motive_1 := fun _ => Bool) (motive_2 := fun _ => Bool) false (fun _ => true) (fun _ _ => true) (fun _ => true) true true true true (fun _ _ => true) (fun _ _ _ => true) (fun _ _ => true) (fun _ _ _ => true) (fun _ _ _ _ => true) (fun _ _ _ _ _ => true) (fun _ => true) (fun _ _ => false) (fun _ _ => false) (fun _ _ => true) (fun _ => true) true (fun _ _ _ _ => true) d)) l
theorem fones_eq (l : List D) : fones l = D.ones l := by
  induction l with
  | nil => rfl
  | cons d l ih =>
    have : fones (d :: l) = Bool.rec (motive := fun _ => Bool) false (fones l) d.one := by cases d <;> rfl
    rw [this, ih]
    show _ = (d.one && D.ones l)
    cases d.one <;> rfl

mutual
theorem funder_eq : (d : D) → (n : Nat) → funders n [d] = d.under n
  | .undef, n => rfl
  | .bool _, n => rfl
  | .int _ _, n => rfl
  | .str _, n => rfl
  | .nilp, n => rfl
  | .nilsl, n => rfl
  | .nilf, n => rfl
  | .esl, n => rfl
  | .fptr _, n => rfl
  | .sym _ _, n => rfl
  | .fsl _ _, n => rfl
  | .ptr id o, n => by show Bool.rec (motive := fun _ => Bool) false true (Nat.blt id n) = Nat.blt id n; cases Nat.blt id n <;> rfl
  | .rptr id _ o, n => by show Bool.rec (motive := fun _ => Bool) false true (Nat.blt id n) = Nat.blt id n; cases Nat.blt id n <;> rfl
  | .osl id _ _ o, n => by show Bool.rec (motive := fun _ => Bool) false true (Nat.blt id n) = Nat.blt id n; cases Nat.blt id n <;> rfl
  | .yield id, n => by show Bool.rec (motive := fun _ => Bool) false true (Nat.blt id n) = Nat.blt id n; cases Nat.blt id n <;> rfl
  | .mp id, n => by show Bool.rec (motive := fun _ => Bool) false true (Nat.blt id n) = Nat.blt id n; cases Nat.blt id n <;> rfl
  | .func f a b, n => by
    show Bool.rec (motive := fun _ => Bool) false true (Bool.rec (motive := fun _ => Bool) false (funders n b) (funders n a)) = (D.unders n a && D.unders n b)
    rw [funders_eq a n, funders_eq b n]
    cases D.unders n a <;> cases D.unders n b <;> rfl
  | .agg cs, n => by
    show Bool.rec (motive := fun _ => Bool) false true (funders n cs) = D.unders n cs
    rw [funders_eq cs n]; cases D.unders n cs <;> rfl
  | .tup cs, n => by
    show Bool.rec (motive := fun _ => Bool) false true (funders n cs) = D.unders n cs
    rw [funders_eq cs n]; cases D.unders n cs <;> rfl
theorem funders_eq : (l : List D) → (n : Nat) → funders n l = D.unders n l
  | [], n => rfl
  | d :: l, n => by
    have h := funder_eq d n
    have h1 : funders n [d] = Bool.rec (motive := fun _ => Bool) false true (D.rec (motive_1 := fun _ => Nat → Bool) (motive_2 := fun _ => Nat → Bool)
  (fun _ => false) (fun _ _ => true) (fun _ _ _ => true) (fun _ _ => true) (fun _ => true) (fun _ => true) (fun _ => true) (fun _ => true)
  (fun _ _ _ => true) (fun _ _ _ _ => true) (fun id _ n => Nat.blt id n) (fun id _ _ n => Nat.blt id n) (fun id _ _ _ n => Nat.blt id n)
  (fun _ _ _ a b n => Bool.rec (motive := fun _ => Bool) false (b n) (a n)) (fun id n => Nat.blt id n) (fun _ a => a) (fun _ a => a) (fun _ _ _ => true) (fun id n => Nat.blt id n)
  (fun _ => true) (fun _ _ a b n => Bool.rec (motive := fun _ => Bool) false (b n) (a n)) d n) := rfl
    have h2 : funders n (d :: l) = Bool.rec (motive := fun _ => Bool) false (funders n l) (D.rec (motive_1 := fun _ => Nat → Bool) (motive_2 := fun _ => Nat → Bool)
  (fun _ => false) (fun _ _ => true) (fun _ _ _ => true) (fun _ _ => true) (fun _ => true) (fun _ => true) (fun _ => true) (fun _ => true)
  (fun _ _ _ => true) (fun _ _ _ _ => true) (fun id _ n => Nat.blt id n) (fun id _ _ n => Nat.blt id n) (fun id _ _ _ n => Nat.blt id n)
  (fun _ _ _ a b n => Bool.rec (motive := fun _ => Bool) false (b n) (a n)) (fun id n => Nat.blt id n) (fun _ a => a) (fun _ a => a) (fun _ _ _ => true) (fun id n => Nat.blt id n)
  (fun _ => true) (fun _ _ a b n => Bool.rec (motive := fun _ => Bool) false (b n) (a n)) d n) := rfl
    rw [h2, funders_eq l n]
    rw [h1] at h
    show _ = (d.under n && D.unders n l)
    rw [← h]
    generalize (D.rec (motive_1 := fun _ => Nat → Bool) (motive_2 := fun _ => Nat → Bool) _ _ _ _ _ _ _ _ _ _ _ _ _ _ _ _ _ _ _ _ _ d n : Bool) = x
    cases x <;> rfl
end


/-! strict hands: what is handed on is a constructor's term -/
noncomputable def fcD {α : Type} (d : D) (k : D → α) : α := D.rec (motive_1 := fun _ => α) (motive_2 := fun _ => PUnit)
  (k .undef) (fun b => k (.bool b)) (fun a n => k (.int a n)) (fun s => k (.str s)) (k .nilp) (k .nilsl) (k .nilf) (k .esl) (fun cs _ => k (.fptr cs)) (fun cs n _ => k (.fsl cs n)) (fun i o => k (.ptr i o)) (fun i h o => k (.rptr i h o)) (fun i h o n => k (.osl i h o n))
  (fun f p c _ _ => k (.func f p c)) (fun i => k (.yield i)) (fun cs _ => k (.agg cs)) (fun vs _ => k (.tup vs)) (fun s l => k (.sym s l)) (fun i => k (.mp i)) PUnit.unit (fun _ _ _ _ => PUnit.unit) d
theorem fcD_eq {α : Type} (d : D) (k : D → α) : fcD d k = k d := by cases d <;> rfl
noncomputable def fcL {α : Type} (l : List D) (k : List D → α) : α := List.rec (motive := fun _ => (List D → α) → α) (fun k => k []) (fun d _ ih k => fcD d (fun d' => ih (fun ds => k (d' :: ds)))) l k
theorem fcL_eq {α : Type} (l : List D) (k : List D → α) : fcL l k = k l := by
  induction l generalizing k with
  | nil => rfl
  | cons d l ih => show fcD d (fun d' => fcL l (fun ds => k (d' :: ds))) = _; rw [fcD_eq, ih]
noncomputable def fcP {α : Type} (l : List (Nat × Nat × D)) (k : List (Nat × Nat × D) → α) : α := List.rec (motive := fun _ => (List (Nat × Nat × D) → α) → α) (fun k => k []) (fun p _ ih k => Prod.rec (motive := fun _ => α) (fun a q => Prod.rec (motive := fun _ => α) (fun b d => fcD d (fun d' => ih (fun ds => k ((a, b, d') :: ds)))) q) p) l k
theorem fcP_eq {α : Type} (l : List (Nat × Nat × D)) (k : List (Nat × Nat × D) → α) : fcP l k = k l := by
  induction l generalizing k with
  | nil => rfl
  | cons p l ih => obtain ⟨a, b, d⟩ := p; show fcD d (fun d' => fcP l (fun ds => k ((a, b, d') :: ds))) = _; rw [fcD_eq, ih]
noncomputable def fcS {α β : Type} (l : List β) (k : List β → α) : α := List.rec (motive := fun _ => (List β → α) → α) (fun k => k []) (fun d _ ih k => ih (fun ds => k (d :: ds))) l k
theorem fcS_eq {α β : Type} (l : List β) (k : List β → α) : fcS l k = k l := by
  induction l generalizing k with
  | nil => rfl
  | cons d l ih => show fcS l (fun ds => k (d :: ds)) = _; rw [ih]
noncomputable def fapp {α : Type} (a b : List α) : List α := List.rec (motive := fun _ => List α) b (fun x _ ih => x :: ih) a
theorem fapp_eq {α : Type} (a b : List α) : fapp a b = a ++ b := by
  induction a with
  | nil => rfl
  | cons x a ih => show x :: fapp a b = _; rw [ih]; rfl
noncomputable def ftake {α : Type} (n : Nat) (l : List α) : List α := List.rec (motive := fun _ => Nat → List α) (fun _ => []) (fun x _ ih n => Bool.rec (motive := fun _ => List α) (x :: ih (Nat.sub n 1)) [] (Nat.beq n 0)) l n
theorem ftake_eq {α : Type} (n : Nat) (l : List α) : ftake n l = l.take n := by
  induction l generalizing n with
  | nil => cases n <;> rfl
  | cons x l ih =>
    cases n with
    | zero => rfl
    | succ n => show x :: ftake n l = _; rw [ih]; rfl
noncomputable def fdrop {α : Type} (n : Nat) (l : List α) : List α := List.rec (motive := fun _ => Nat → List α) (fun _ => []) (fun x t ih n => Bool.rec (motive := fun _ => List α) (ih (Nat.sub n 1)) (x :: t) (Nat.beq n 0)) l n
theorem fdrop_eq {α : Type} (n : Nat) (l : List α) : fdrop n l = l.drop n := by
  induction l generalizing n with
  | nil => cases n <;> rfl
  | cons x l ih =>
    cases n with
    | zero => rfl
    | succ n => show fdrop n l = _; rw [ih]; rfl
noncomputable def fsetL {α : Type} (l : List α) (n : Nat) (v : α) : List α := List.rec (motive := fun _ => Nat → List α) (fun _ => []) (fun x t ih n => Bool.rec (motive := fun _ => List α) (x :: ih (Nat.sub n 1)) (v :: t) (Nat.beq n 0)) l n
theorem fsetL_eq {α : Type} (l : List α) (n : Nat) (v : α) : fsetL l n v = l.set n v := by
  induction l generalizing n with
  | nil => cases n <;> rfl
  | cons x l ih =>
    cases n with
    | zero => rfl
    | succ n => show x :: fsetL l n v = _; rw [ih]; rfl
noncomputable def fsplice (cs : List D) (off : Nat) (vs : List D) : List D := fapp (fapp (ftake off cs) vs) (fdrop (off + flen vs) cs)
theorem fsplice_eq : fsplice = splice := by funext cs off vs; simp only [fsplice, splice, fapp_eq, ftake_eq, fdrop_eq, flen_eq]
noncomputable def floadD (ag : Bool) (n : Nat) (cs : List D) : Option D := Bool.rec (motive := fun _ => Option D) (List.rec (motive := fun _ => Option D) none (fun d _ _ => some d) cs) (Bool.rec (motive := fun _ => Option D) none (some (.agg (ftake n cs))) (Nat.ble n (flen cs))) ag
theorem floadD_eq : floadD = loadD := by
  funext ag n cs
  cases ag
  · cases cs <;> rfl
  · show Bool.rec (motive := fun _ => Option D) none (some (.agg (ftake n cs))) (Nat.ble n (flen cs)) = (if true = true then (if n ≤ cs.length then some (.agg (cs.take n)) else none) else cs.head?)
    rw [if_pos rfl, ftake_eq, flen_eq]
    by_cases h : n ≤ cs.length
    · rw [if_pos h, show Nat.ble n cs.length = true from Nat.ble_eq.mpr h]
    · rw [if_neg h, show Nat.ble n cs.length = false from by cases hb : Nat.ble n cs.length; rfl; exact absurd (Nat.ble_eq.mp hb) h]
noncomputable def ffillD (cells : List D) (l : List (Nat × Nat × D)) : Option (List D) := List.rec (motive := fun _ => List D → Option (List D)) (fun cells => some cells)
  (fun p _ ih cells => Prod.rec (motive := fun _ => Option (List D)) (fun off q => Prod.rec (motive := fun _ => Option (List D)) (fun size v => Bool.rec (motive := fun _ => Option (List D)) none (Bool.rec (motive := fun _ => Option (List D)) none (Bool.rec (motive := fun _ => Option (List D)) none (fcS (fsplice cells off v.cells) ih) (fones v.cells)) (Nat.ble (Nat.add off size) (flen cells))) (Nat.beq (flen v.cells) size)) q) p) l cells
theorem ffillD_eq : ffillD = fillD := by
  funext cells l
  induction l generalizing cells with
  | nil => rfl
  | cons p l ih =>
    obtain ⟨off, size, v⟩ := p
    show Bool.rec (motive := fun _ => Option (List D)) none (Bool.rec (motive := fun _ => Option (List D)) none (Bool.rec (motive := fun _ => Option (List D)) none (fcS (fsplice cells off v.cells) (fun x => ffillD x l)) (fones v.cells)) (Nat.ble (off + size) (flen cells))) (Nat.beq (flen v.cells) size) = _
    rw [fcS_eq, ih, fsplice_eq, fones_eq, flen_eq, flen_eq]
    conv => rhs; unfold fillD
    by_cases h1 : v.cells.length = size
    · by_cases h2 : off + size ≤ cells.length
      · rw [show Nat.beq v.cells.length size = true from by rw [h1]; exact Nat.beq_refl size, show Nat.ble (off + size) cells.length = true from Nat.ble_eq.mpr h2]
        cases h3 : D.ones v.cells
        · rw [if_neg (by simp)]
        · rw [if_pos ⟨h1, h2, rfl⟩]
      · rw [show Nat.beq v.cells.length size = true from by rw [h1]; exact Nat.beq_refl size, show Nat.ble (off + size) cells.length = false from by cases hb : Nat.ble (off + size) cells.length; rfl; exact absurd (Nat.ble_eq.mp hb) h2, if_neg (fun h => h2 h.2.1)]
    · rw [show Nat.beq v.cells.length size = false from by cases hb : Nat.beq v.cells.length size; rfl; exact absurd (Nat.eq_of_beq_eq_true hb) h1, if_neg (fun h => h1 h.1)]

noncomputable def fevalA (G : Nat → Option (List D)) (env : Env) (a : Arg) : D := Arg.rec (motive := fun _ => D) (fun i => fget env i) (fun d => d) (fun n => match G n with
    | some cs => .fptr cs
    | none => .undef) a
theorem fevalA_eq : fevalA = evalA := by funext G env a; cases a <;> first | rfl | (show fget env _ = _; rw [fget_eq]; rfl)
noncomputable def fevalAs (G : Nat → Option (List D)) (env : Env) (l : List Arg) : List D := List.rec (motive := fun _ => List D) [] (fun a _ ih => fevalA G env a :: ih) l
theorem fevalAs_eq : fevalAs = evalAs := by
  funext G env l
  induction l with
  | nil => rfl
  | cons a l ih => show fevalA G env a :: fevalAs G env l = _; rw [ih, fevalA_eq]; rfl
noncomputable def fevalPs (G : Nat → Option (List D)) (env : Env) : List (Nat × Nat × Arg) → List (Nat × Nat × D)
  | [] => []
  | (o, s, x) :: r => (o, s, fevalA G env x) :: fevalPs G env r
theorem fevalPs_eq : fevalPs = evalPs := by
  funext G env l
  induction l with
  | nil => rfl
  | cons a l ih => obtain ⟨o, s, x⟩ := a; show (o, s, fevalA G env x) :: fevalPs G env l = _; rw [ih, fevalA_eq]; rfl
noncomputable def fevalO (G : Nat → Option (List D)) (env : Env) : Option Arg → Option D
  | none => none
  | some x => some (fevalA G env x)
theorem fevalO_eq : fevalO = evalO := by funext G env o; cases o <;> simp [fevalO, evalO, fevalA_eq]

noncomputable def fcellsAt (H : Heap) : D → Option (List D)
  | .fptr cs => some cs
  | .ptr id off => match (fnth H id) with
    | some (.box cs) => some (fdrop off cs)
    | _ => none
  | .rptr id hw off => match (fnth H id) with
    | some (.row _ cs false) => if (flen cs) = hw then some (fdrop off cs) else none
    | _ => none
  | _ => none

noncomputable def fstorable (b : Nat) (H : Heap) (id : Nat) (vs : List D) : Bool := funders (if id < b then id + 1 else (flen H)) vs && fones vs

noncomputable def fstoreD (b : Nat) (H : Heap) (n : Nat) (p v : D) : Option Heap :=
  if v.cells.length = n then
    match p with
    | .ptr id off => match (fnth H id) with
      | some (.box cs) => if off + n ≤ (flen cs) then (if fstorable b H id v.cells then some (fsetL H id (.box (fsplice cs off v.cells))) else none) else none
      | _ => none
    | .rptr id hw off => match (fnth H id) with
      | some (.row es cs false) => if (flen cs) = hw then (if off + n ≤ (flen cs) then (if fstorable b H id v.cells then some (fsetL H id (.row es (fsplice cs off v.cells) false)) else none) else none) else none
      | _ => none
    | _ => none
  else none

noncomputable def freserve (H : Heap) (cs : List D) : List (Nat × Nat) → Option (Heap × List D)
  | [] => some (H, cs)
  | (off, es) :: rest =>
    match cs[off]? with
    | some .nilsl => if 0 < es then freserve (fapp H [.row es [] true]) (cs.set off (.osl (flen H) 0 0 0)) rest else none
    | _ => freserve H cs rest

noncomputable def felems (H : Heap) (es : Nat) : D → Option (List D × Nat)
  | .nilsl => some ([], 0)
  | .esl => some ([], 0)
  | .fsl cs n => if n * es = (flen cs) then some (cs, n) else none
  | .osl id hw off n => match (fnth H id) with
    | some (.row es' cs nil) => if es' = es ∧ (flen cs) = hw ∧ off + n * es ≤ hw ∧ (nil = true → n = 0) then some (ftake (n * es) (fdrop off cs), n) else none
    | _ => none
  | _ => none

noncomputable def fappendD (b : Nat) (H : Heap) (es bytes : Nat) (x : D) (ys : List D) (m : Nat) : Option (D × Heap) :=
  match x with
  | .nilsl =>
    if m = 0 then some (.nilsl, H) else
    if m * bytes ≤ maxBytes ∧ fstorable b H (flen H) ys ∧ m ≤ maxBytes then some (.osl (flen H) (m * es) 0 m, fapp H [.row es ys false]) else none
  | .esl =>
    if m = 0 then some (.esl, H) else
    if m * bytes ≤ maxBytes ∧ fstorable b H (flen H) ys ∧ m ≤ maxBytes then some (.osl (flen H) (m * es) 0 m, fapp H [.row es ys false]) else none
  | .osl id hw 0 n => match (fnth H id) with
    | some (.row es' cs nil) =>
      if es' = es ∧ (flen cs) = hw ∧ n * es ≤ hw ∧ (nil = true → n = 0) ∧ (n + m) * bytes ≤ maxBytes ∧ n + m ≤ maxBytes ∧ fstorable b H id ys then
        (if m = 0 then some (.osl id hw 0 n, H) else
        if n * es = hw then some (.osl id (hw + m * es) 0 (n + m), fsetL H id (.row es (cs ++ ys) false)) else
        if (n + m) * es ≤ hw then some (.osl id hw 0 (n + m), fsetL H id (.row es (fsplice cs (n * es) ys) false)) else
        some (.osl id ((n + m) * es) 0 (n + m), fsetL H id (.row es (cs.take (n * es) ++ ys) false)))
      else none
    | _ => none
  | _ => none

theorem fcellsAt_eq : fcellsAt = cellsAt := by funext H d; cases d <;> simp only [fcellsAt, cellsAt, fapp_eq, ftake_eq, fdrop_eq, fsetL_eq, fsplice_eq, floadD_eq, ffillD_eq, fcD_eq, fcL_eq, fcP_eq, fcS_eq, fnth_eq, flen_eq] <;> rfl
theorem fstorable_eq : fstorable = storable := by funext b H id vs; simp [fstorable, storable, funders_eq, fones_eq, flen_eq]
theorem fstoreD_eq : fstoreD = storeD := by funext b H n p v; simp only [fstoreD, storeD, fapp_eq, ftake_eq, fdrop_eq, fsetL_eq, fsplice_eq, floadD_eq, ffillD_eq, fcD_eq, fcL_eq, fcP_eq, fcS_eq, fnth_eq, flen_eq, fstorable_eq]; rfl
theorem freserve_eq : freserve = reserve := by
  funext H cs l
  induction l generalizing H cs with
  | nil => rfl
  | cons a l ih => obtain ⟨o, s⟩ := a; simp only [freserve, reserve, fapp_eq, ftake_eq, fdrop_eq, fsetL_eq, fsplice_eq, floadD_eq, ffillD_eq, fcD_eq, fcL_eq, fcP_eq, fcS_eq, ih, flen_eq]; rfl
theorem felems_eq : felems = elems := by funext H es d; cases d <;> simp only [felems, elems, fapp_eq, ftake_eq, fdrop_eq, fsetL_eq, fsplice_eq, floadD_eq, ffillD_eq, fcD_eq, fcL_eq, fcP_eq, fcS_eq, fnth_eq, flen_eq] <;> rfl
theorem fappendD_eq : fappendD = appendD := by funext b H es bytes x ys m; simp only [fappendD, appendD, fapp_eq, ftake_eq, fdrop_eq, fsetL_eq, fsplice_eq, floadD_eq, ffillD_eq, fcD_eq, fcL_eq, fcP_eq, fcS_eq, fnth_eq, flen_eq, fstorable_eq]; rfl
noncomputable def s_mov (x : Arg) (G : Nat → Option (List D)) (bb : Nat) (call : D → List D → Heap → Option (D × Heap)) (env : Env) (H : Heap) : Option (D × Heap) := fcD (fevalA G env x) fun d_x => match d_x with
    | .undef => none
    | d => some (d, H)
noncomputable def s_resv (es : Nat) (G : Nat → Option (List D)) (bb : Nat) (call : D → List D → Heap → Option (D × Heap)) (env : Env) (H : Heap) : Option (D × Heap) := if 0 < es then some (.osl (flen H) 0 0 0, fapp H [.row es [] true]) else none
noncomputable def s_pick (c : Arg) (a : Arg) (b : Arg) (G : Nat → Option (List D)) (bb : Nat) (call : D → List D → Heap → Option (D × Heap)) (env : Env) (H : Heap) : Option (D × Heap) := fcD (fevalA G env c) fun d_c => fcD (fevalA G env a) fun d_a => fcD (fevalA G env b) fun d_b => match d_c with
    | .bool x => match (if x then d_a else d_b) with
      | .undef => none
      | d => some (d, H)
    | _ => none
noncomputable def s_allocB (zs : List D) (res : List (Nat × Nat)) (G : Nat → Option (List D)) (bb : Nat) (call : D → List D → Heap → Option (D × Heap)) (env : Env) (H : Heap) : Option (D × Heap) := match freserve H zs res with
    | some (H', cs) => some (.ptr (flen H') 0, fapp H' [.box cs])
    | none => none
noncomputable def s_boxF (n : Nat) (x : Arg) (G : Nat → Option (List D)) (bb : Nat) (call : D → List D → Heap → Option (D × Heap)) (env : Env) (H : Heap) : Option (D × Heap) := fcD (fevalA G env x) fun d_x => match d_x.cells with
    | cs => if (flen cs) = n ∧ funders 0 cs ∧ fones cs then some (.fptr cs, H) else none
noncomputable def s_boxB (n : Nat) (x : Arg) (res : List (Nat × Nat)) (G : Nat → Option (List D)) (bb : Nat) (call : D → List D → Heap → Option (D × Heap)) (env : Env) (H : Heap) : Option (D × Heap) := fcD (fevalA G env x) fun d_x => match d_x.cells with
    | cs => if (flen cs) = n then
      match freserve H cs res with
      | some (H', cs) => if fstorable bb H' (flen H') cs then some (.ptr (flen H') 0, fapp H' [.box cs]) else none
      | none => none
      else none
noncomputable def s_build (zs : List D) (ps : List (Nat × Nat × Arg)) (G : Nat → Option (List D)) (bb : Nat) (call : D → List D → Heap → Option (D × Heap)) (env : Env) (H : Heap) : Option (D × Heap) := fcP (fevalPs G env ps) fun p_ps => match ffillD zs p_ps with
    | some cs => if fones cs then some (.agg cs, H) else none
    | none => none
noncomputable def s_bslF (zs : List D) (n : Nat) (ps : List (Nat × Nat × Arg)) (G : Nat → Option (List D)) (bb : Nat) (call : D → List D → Heap → Option (D × Heap)) (env : Env) (H : Heap) : Option (D × Heap) := fcP (fevalPs G env ps) fun p_ps => match ffillD zs p_ps with
    | some cs => if funders 0 cs ∧ fones cs then some (.fsl cs n, H) else none
    | none => none
noncomputable def s_bslR (es : Nat) (zs : List D) (n : Nat) (ps : List (Nat × Nat × Arg)) (G : Nat → Option (List D)) (bb : Nat) (call : D → List D → Heap → Option (D × Heap)) (env : Env) (H : Heap) : Option (D × Heap) := fcP (fevalPs G env ps) fun p_ps => match ffillD zs p_ps with
    | some cs => if fstorable bb H (flen H) cs then some (.osl (flen H) (n * es) 0 n, fapp H [.row es cs false]) else none
    | none => none
noncomputable def s_load (ag : Bool) (n : Nat) (p : Arg) (G : Nat → Option (List D)) (bb : Nat) (call : D → List D → Heap → Option (D × Heap)) (env : Env) (H : Heap) : Option (D × Heap) := fcD (fevalA G env p) fun d_p => match fcellsAt H d_p with
    | some cs => match floadD ag n cs with
      | some .undef => none
      | some d => some (d, H)
      | none => none
    | none => none
noncomputable def s_store (n : Nat) (p : Arg) (v : Arg) (G : Nat → Option (List D)) (bb : Nat) (call : D → List D → Heap → Option (D × Heap)) (env : Env) (H : Heap) : Option (D × Heap) := fcD (fevalA G env p) fun d_p => fcD (fevalA G env v) fun d_v => match fstoreD bb H n d_p d_v with
    | some H' => some (.tup [], H')
    | none => none
noncomputable def s_nilchk (x : Arg) (G : Nat → Option (List D)) (bb : Nat) (call : D → List D → Heap → Option (D × Heap)) (env : Env) (H : Heap) : Option (D × Heap) := fcD (fevalA G env x) fun d_x => match d_x with
    | .ptr i o => some (.ptr i o, H)
    | .rptr i h o => some (.rptr i h o, H)
    | .fptr cs => some (.fptr cs, H)
    | _ => none
noncomputable def s_bin (op : BinOp) (x : Arg) (y : Arg) (G : Nat → Option (List D)) (bb : Nat) (call : D → List D → Heap → Option (D × Heap)) (env : Env) (H : Heap) : Option (D × Heap) := fcD (fevalA G env x) fun d_x => fcD (fevalA G env y) fun d_y => match binD op d_x d_y with
    | some d => some (d, H)
    | none => none
noncomputable def s_eqB (neg : Bool) (x : Arg) (y : Arg) (G : Nat → Option (List D)) (bb : Nat) (call : D → List D → Heap → Option (D × Heap)) (env : Env) (H : Heap) : Option (D × Heap) := fcD (fevalA G env x) fun d_x => fcD (fevalA G env y) fun d_y => match d_x, d_y with
    | .bool a, .bool b => some (.bool (neg != (a == b)), H)
    | _, _ => none
noncomputable def s_eqP (neg : Bool) (x : Arg) (y : Arg) (G : Nat → Option (List D)) (bb : Nat) (call : D → List D → Heap → Option (D × Heap)) (env : Env) (H : Heap) : Option (D × Heap) := fcD (fevalA G env x) fun d_x => fcD (fevalA G env y) fun d_y => match eqPtr d_x d_y with
    | some b => some (.bool (neg != b), H)
    | none => none
noncomputable def s_eqS (neg : Bool) (x : Arg) (y : Arg) (G : Nat → Option (List D)) (bb : Nat) (call : D → List D → Heap → Option (D × Heap)) (env : Env) (H : Heap) : Option (D × Heap) := fcD (fevalA G env x) fun d_x => fcD (fevalA G env y) fun d_y => match eqSl d_x d_y with
    | some b => some (.bool (neg != b), H)
    | none => none
noncomputable def s_un (op : UnOp) (x : Arg) (G : Nat → Option (List D)) (bb : Nat) (call : D → List D → Heap → Option (D × Heap)) (env : Env) (H : Heap) : Option (D × Heap) := fcD (fevalA G env x) fun d_x => match unD op d_x with
    | some d => some (d, H)
    | none => none
noncomputable def s_convI (k : IntKind) (x : Arg) (G : Nat → Option (List D)) (bb : Nat) (call : D → List D → Heap → Option (D × Heap)) (env : Env) (H : Heap) : Option (D × Heap) := fcD (fevalA G env x) fun d_x => match d_x with
    | .int _ n => some (.int k (k.wrap n), H)
    | _ => none
noncomputable def s_convSB (x : Arg) (G : Nat → Option (List D)) (bb : Nat) (call : D → List D → Heap → Option (D × Heap)) (env : Env) (H : Heap) : Option (D × Heap) := fcD (fevalA G env x) fun d_x => match d_x with
    | .str s => if s.length ≤ maxBytes then some (.fsl (strBytes s) s.length, H) else none
    | _ => none
noncomputable def s_convIS (x : Arg) (G : Nat → Option (List D)) (bb : Nat) (call : D → List D → Heap → Option (D × Heap)) (env : Env) (H : Heap) : Option (D × Heap) := fcD (fevalA G env x) fun d_x => match d_x with
    | .int _ n => if 0 ≤ n ∧ n < 128 then some (.str [UInt8.ofNat n.toNat], H) else none
    | _ => none
noncomputable def s_convBS (x : Arg) (G : Nat → Option (List D)) (bb : Nat) (call : D → List D → Heap → Option (D × Heap)) (env : Env) (H : Heap) : Option (D × Heap) := fcD (fevalA G env x) fun d_x => match felems H 1 d_x with
    | some (cs, _) => match bytesStr cs with
      | some s => some (.str s, H)
      | none => none
    | none => none
noncomputable def s_mkf (f : Nat) (pre : List Arg) (caps : List Arg) (G : Nat → Option (List D)) (bb : Nat) (call : D → List D → Heap → Option (D × Heap)) (env : Env) (H : Heap) : Option (D × Heap) := fcL (fevalAs G env pre) fun l_pre => fcL (fevalAs G env caps) fun l_caps => if D.defd l_pre && D.defd l_caps then some (.func f l_pre l_caps, H) else none
noncomputable def s_msl (es : Nat) (bytes : Nat) (z : List D) (len : Arg) (cap : Arg) (G : Nat → Option (List D)) (bb : Nat) (call : D → List D → Heap → Option (D × Heap)) (env : Env) (H : Heap) : Option (D × Heap) := fcD (fevalA G env len) fun d_len => fcD (fevalA G env cap) fun d_cap => match d_len, d_cap with
    | .int .i64 l, .int .i64 c => if 0 ≤ l ∧ l ≤ c ∧ c.toNat * bytes ≤ maxBytes ∧ c.toNat ≤ maxBytes then
        some (.osl (flen H) (l.toNat * es) 0 l.toNat, fapp H [.row es (copies z l.toNat) false]) else none
    | _, _ => none
noncomputable def s_sliceS (x : Arg) (lo : Option Arg) (hi : Option Arg) (G : Nat → Option (List D)) (bb : Nat) (call : D → List D → Heap → Option (D × Heap)) (env : Env) (H : Heap) : Option (D × Heap) := fcD (fevalA G env x) fun d_x => match d_x with
    | .str s => match sliceStr s (fevalO G env lo) (fevalO G env hi) with
      | some d => some (d, H)
      | none => none
    | _ => none
noncomputable def s_sliceL (es : Nat) (x : Arg) (lo : Option Arg) (hi : Option Arg) (mx : Option Arg) (G : Nat → Option (List D)) (bb : Nat) (call : D → List D → Heap → Option (D × Heap)) (env : Env) (H : Heap) : Option (D × Heap) := fcD (fevalA G env x) fun d_x => match sliceD es d_x (fevalO G env lo) (fevalO G env hi) (fevalO G env mx) with
    | some d => some (d, H)
    | none => none
noncomputable def s_faddr (off : Nat) (p : Arg) (G : Nat → Option (List D)) (bb : Nat) (call : D → List D → Heap → Option (D × Heap)) (env : Env) (H : Heap) : Option (D × Heap) := fcD (fevalA G env p) fun d_p => match d_p with
    | .ptr i o => some (.ptr i (o + off), H)
    | .rptr i h o => some (.rptr i h (o + off), H)
    | .fptr cs => some (.fptr (fdrop off cs), H)
    | _ => none
noncomputable def s_iaddr (es : Nat) (s : Arg) (i : Arg) (G : Nat → Option (List D)) (bb : Nat) (call : D → List D → Heap → Option (D × Heap)) (env : Env) (H : Heap) : Option (D × Heap) := fcD (fevalA G env s) fun d_s => fcD (fevalA G env i) fun d_i => match d_s, d_i with
    | .fsl cs n, .int _ j => if 0 ≤ j ∧ j < n then some (.fptr (cs.drop (j.toNat * es)), H) else none
    | .osl id hw off n, .int _ j => if 0 ≤ j ∧ j < n then some (.rptr id hw (off + j.toNat * es), H) else none
    | _, _ => none
noncomputable def s_iaddrA (n : Nat) (es : Nat) (p : Arg) (i : Arg) (G : Nat → Option (List D)) (bb : Nat) (call : D → List D → Heap → Option (D × Heap)) (env : Env) (H : Heap) : Option (D × Heap) := fcD (fevalA G env p) fun d_p => fcD (fevalA G env i) fun d_i => match d_p, d_i with
    | .fptr cs, .int _ j => if 0 ≤ j ∧ j < n then some (.fptr (cs.drop (j.toNat * es)), H) else none
    | .ptr id off, .int _ j => if 0 ≤ j ∧ j < n then some (.ptr id (off + j.toNat * es), H) else none
    | _, _ => none
noncomputable def s_field (ag : Bool) (off : Nat) (n : Nat) (x : Arg) (G : Nat → Option (List D)) (bb : Nat) (call : D → List D → Heap → Option (D × Heap)) (env : Env) (H : Heap) : Option (D × Heap) := fcD (fevalA G env x) fun d_x => match d_x with
    | .agg cs => match floadD ag n (fdrop off cs) with
      | some .undef => none
      | some d => some (d, H)
      | none => none
    | _ => none
noncomputable def s_indexS (x : Arg) (i : Arg) (G : Nat → Option (List D)) (bb : Nat) (call : D → List D → Heap → Option (D × Heap)) (env : Env) (H : Heap) : Option (D × Heap) := fcD (fevalA G env x) fun d_x => fcD (fevalA G env i) fun d_i => match d_x, d_i with
    | .str s, .int _ j => if 0 ≤ j then
        match s[j.toNat]? with
        | some b => some (.int .u8 b.toNat, H)
        | none => none
      else none
    | _, _ => none
noncomputable def s_extract (x : Arg) (i : Nat) (G : Nat → Option (List D)) (bb : Nat) (call : D → List D → Heap → Option (D × Heap)) (env : Env) (H : Heap) : Option (D × Heap) := fcD (fevalA G env x) fun d_x => match d_x with
    | .tup vs => match vs[i]? with
      | some .undef => none
      | some d => some (d, H)
      | none => none
    | _ => none
noncomputable def s_len (st : Bool) (x : Arg) (G : Nat → Option (List D)) (bb : Nat) (call : D → List D → Heap → Option (D × Heap)) (env : Env) (H : Heap) : Option (D × Heap) := fcD (fevalA G env x) fun d_x => match st, d_x with
    | true, .str s => some (.int .i64 s.length, H)
    | false, .nilsl => some (.int .i64 0, H)
    | false, .esl => some (.int .i64 0, H)
    | false, .fsl _ n => some (.int .i64 n, H)
    | false, .osl _ _ _ n => some (.int .i64 n, H)
    | _, _ => none
noncomputable def s_append (es : Nat) (bytes : Nat) (x : Arg) (y : Arg) (G : Nat → Option (List D)) (bb : Nat) (call : D → List D → Heap → Option (D × Heap)) (env : Env) (H : Heap) : Option (D × Heap) := fcD (fevalA G env y) fun d_y => fcD (fevalA G env x) fun d_x => match felems H es d_y with
    | some (ys, m) => fappendD bb H es bytes d_x ys m
    | none => none
noncomputable def s_appendS (bytes : Nat) (x : Arg) (y : Arg) (G : Nat → Option (List D)) (bb : Nat) (call : D → List D → Heap → Option (D × Heap)) (env : Env) (H : Heap) : Option (D × Heap) := fcD (fevalA G env y) fun d_y => fcD (fevalA G env x) fun d_x => match d_y with
    | .str s => fappendD bb H 1 bytes d_x (strBytes s) s.length
    | _ => none
noncomputable def s_maxs (x : Arg) (xs : List Arg) (G : Nat → Option (List D)) (bb : Nat) (call : D → List D → Heap → Option (D × Heap)) (env : Env) (H : Heap) : Option (D × Heap) := fcD (fevalA G env x) fun d_x => fcL (fevalAs G env xs) fun l_xs => match maxD d_x l_xs with
    | some d => some (d, H)
    | none => none
noncomputable def s_mins (x : Arg) (xs : List Arg) (G : Nat → Option (List D)) (bb : Nat) (call : D → List D → Heap → Option (D × Heap)) (env : Env) (H : Heap) : Option (D × Heap) := fcD (fevalA G env x) fun d_x => fcL (fevalAs G env xs) fun l_xs => match minD d_x l_xs with
    | some d => some (d, H)
    | none => none
noncomputable def s_eqA (neg : Bool) (ks : List PK) (x : Arg) (y : Arg) (G : Nat → Option (List D)) (bb : Nat) (call : D → List D → Heap → Option (D × Heap)) (env : Env) (H : Heap) : Option (D × Heap) := fcD (fevalA G env x) fun d_x => fcD (fevalA G env y) fun d_y => match d_x, d_y with
    | .agg a, .agg b => match eqKs ks a b with
      | some r => some (.bool (neg != r), H)
      | none => none
    | _, _ => none
noncomputable def s_hole (_x0 : Nat) (G : Nat → Option (List D)) (bb : Nat) (call : D → List D → Heap → Option (D × Heap)) (env : Env) (H : Heap) : Option (D × Heap) := some (.undef, H)
noncomputable def s_fill (n : Nat) (v : Fil) (G : Nat → Option (List D)) (bb : Nat) (call : D → List D → Heap → Option (D × Heap)) (env : Env) (H : Heap) : Option (D × Heap) := fcD (fevalA G env v.arg) fun d_v_arg => match v.box with
    | none => match d_v_arg.cells with
      | cs => if (flen cs) = n ∧ funders 0 cs ∧ fones cs then some (.fptr cs, H) else none
    | some res => match d_v_arg.cells with
      | cs => if (flen cs) = n then
        match freserve H cs res with
        | some (H', cs) => if fstorable bb H' (flen H') cs then some (.ptr (flen H') 0, fapp H' [.box cs]) else none
        | none => none
        else none
noncomputable def s_bad  (G : Nat → Option (List D)) (bb : Nat) (call : D → List D → Heap → Option (D × Heap)) (env : Env) (H : Heap) : Option (D × Heap) := none
noncomputable def s_dfrop (f : Nat) (x : Arg) (G : Nat → Option (List D)) (bb : Nat) (call : D → List D → Heap → Option (D × Heap)) (env : Env) (H : Heap) : Option (D × Heap) := fcD (fevalA G env x) fun d_x => match d_x with
    | .func g _ _ => if Nat.beq g f then some (.tup [], H) else none
    | _ => none
noncomputable def s_call (f : Arg) (args : List Arg) (G : Nat → Option (List D)) (bb : Nat) (call : D → List D → Heap → Option (D × Heap)) (env : Env) (H : Heap) : Option (D × Heap) := fcD (fevalA G env f) fun d_f => fcL (fevalAs G env args) fun l_args => call d_f l_args H

noncomputable def s_capn (x : Arg) (G : Nat → Option (List D)) (bb : Nat) (call : D → List D → Heap → Option (D × Heap)) (env : Env) (H : Heap) : Option (D × Heap) := fcD (fevalA G env x) fun d_x => match d_x with
    | .nilsl => some (.int .i64 0, H)
    | _ => none
noncomputable def s_appendZ (es bytes : Nat) (zs : List D) (x n : Arg) (G : Nat → Option (List D)) (bb : Nat) (call : D → List D → Heap → Option (D × Heap)) (env : Env) (H : Heap) : Option (D × Heap) := fcD (fevalA G env n) fun d_n => fcD (fevalA G env x) fun d_x => match d_n with
    | .int _ q => if 0 ≤ q ∧ q.toNat * bytes ≤ maxBytes ∧ q.toNat ≤ maxBytes then
      match d_x with
      | .nilsl => if q.toNat = 0 then some (.nilsl, H) else some (.osl (flen H) (q.toNat * es) 0 q.toNat, fapp H [.row es (copies zs q.toNat) false])
      | .esl => if q.toNat = 0 then some (.esl, H) else some (.osl (flen H) (q.toNat * es) 0 q.toNat, fapp H [.row es (copies zs q.toNat) false])
      | _ => none
      else none
    | _ => none

noncomputable def s_mkmap (G : Nat → Option (List D)) (bb : Nat) (call : D → List D → Heap → Option (D × Heap)) (env : Env) (H : Heap) : Option (D × Heap) := some (.mp (flen H), fapp H [.map []])
noncomputable def s_mget (m k : Arg) (G : Nat → Option (List D)) (bb : Nat) (call : D → List D → Heap → Option (D × Heap)) (env : Env) (H : Heap) : Option (D × Heap) := fcD (fevalA G env m) fun d_m => fcD (fevalA G env k) fun d_k => match d_m, d_k with
    | .mp id, .int .i64 n => match fnth H id with
      | some (.map es) => some (.bool (mapGet n es), H)
      | _ => none
    | _, _ => none
noncomputable def s_mset (m k v : Arg) (G : Nat → Option (List D)) (bb : Nat) (call : D → List D → Heap → Option (D × Heap)) (env : Env) (H : Heap) : Option (D × Heap) := fcD (fevalA G env m) fun d_m => fcD (fevalA G env k) fun d_k => fcD (fevalA G env v) fun d_v => match d_m, d_k, d_v with
    | .mp id, .int .i64 n, .bool x => match fnth H id with
      | some (.map es) => some (.tup [], fsetL H id (.map (mapSet n x es)))
      | _ => none
    | _, _, _ => none

noncomputable def s_copy (es : Nat) (x y : Arg) (G : Nat → Option (List D)) (bb : Nat) (call : D → List D → Heap → Option (D × Heap)) (env : Env) (H : Heap) : Option (D × Heap) := fcD (fevalA G env x) fun d_x => fcD (fevalA G env y) fun d_y => copyD bb H es d_x d_y

noncomputable def fstep (op : AOp) : (Nat → Option (List D)) → Nat → (D → List D → Heap → Option (D × Heap)) → Env → Heap → Option (D × Heap) :=
  AOp.rec (motive := fun _ => (Nat → Option (List D)) → Nat → (D → List D → Heap → Option (D × Heap)) → Env → Heap → Option (D × Heap)) s_mov s_resv s_pick s_allocB s_boxF s_boxB s_build s_bslF s_bslR s_load s_store s_nilchk s_bin s_eqB s_eqP s_eqS s_un s_convI s_convSB s_convIS s_convBS s_mkf s_msl s_sliceS s_sliceL s_faddr s_iaddr s_iaddrA s_field s_indexS s_extract s_len s_append s_appendS s_maxs s_mins s_eqA s_hole s_fill s_bad s_dfrop s_call s_capn s_appendZ s_mkmap s_mget s_mset s_copy op

theorem fstep_eq (G : Nat → Option (List D)) (b : Nat) (call : D → List D → Heap → Option (D × Heap)) (env : Env) (H : Heap) (op : AOp) : fstep op G b call env H = step G b call env H op := by
  cases op <;> simp only [fstep, s_mov, s_resv, s_pick, s_allocB, s_boxF, s_boxB, s_build, s_bslF, s_bslR, s_load, s_store, s_nilchk, s_bin, s_eqB, s_eqP, s_eqS, s_un, s_convI, s_convSB, s_convIS, s_convBS, s_mkf, s_msl, s_sliceS, s_sliceL, s_faddr, s_iaddr, s_iaddrA, s_field, s_indexS, s_extract, s_len, s_append, s_appendS, s_maxs, s_mins, s_eqA, s_hole, s_fill, s_bad, s_dfrop, s_call, s_capn, s_appendZ, s_mkmap, s_mget, s_mset, s_copy, fnth_eq, fevalA_eq, fevalAs_eq, fevalPs_eq, fevalO_eq, fcellsAt_eq, fstorable_eq, fstoreD_eq, freserve_eq, felems_eq, fappendD_eq, flen_eq, funders_eq, fones_eq, fapp_eq, ftake_eq, fdrop_eq, fsetL_eq, fsplice_eq, floadD_eq, ffillD_eq, fcD_eq, fcL_eq, fcP_eq, fcS_eq] <;> rfl

noncomputable def fput (env : Env) (o : Option Nat) (d : D) : Env := Option.rec (motive := fun _ => Env) env (fun t => fset 16 env t d) o
theorem fput_eq : fput = putO := by funext env o d; cases o <;> simp only [fput, putO, fset_eq, Env.put]

noncomputable def fwanted (env : Env) (o : Option (Nat × Bool)) : Option Bool := Option.rec (motive := fun _ => Option Bool) (some true) (fun p => match fget env p.1 with
    | .bool x => some (x == p.2)
    | .tup [] => some false
    | _ => none) o
theorem fwanted_eq : fwanted = wantedA := by funext env o; cases o <;> simp only [fwanted, wantedA, fget_eq] <;> rfl

/-- One operation of a list, and the rest behind it. -/
noncomputable def fop1 (o : AOper) (rest : (Nat → Option (List D)) → Nat → (D → List D → Heap → Option (D × Heap)) → Env → Heap → Option (Env × Heap)) (G : Nat → Option (List D)) (b : Nat) (call : D → List D → Heap → Option (D × Heap)) (env : Env) (H : Heap) : Option (Env × Heap) :=
  AOper.rec (motive := fun _ => Option (Env × Heap)) (fun dst guard op => Option.rec (motive := fun _ => Option (Env × Heap))
    (Option.rec (motive := fun _ => Option (Env × Heap)) none (fun p => Prod.rec (motive := fun _ => Option (Env × Heap)) (fun d H' => rest G b call (fput env dst d) H') p) (fstep op G b call env H))
    (fun gd => Option.rec (motive := fun _ => Option (Env × Heap)) none (fun w => Bool.rec (motive := fun _ => Option (Env × Heap)) (rest G b call (fput env dst (.tup [])) H)
    (Option.rec (motive := fun _ => Option (Env × Heap)) none (fun p => Prod.rec (motive := fun _ => Option (Env × Heap)) (fun d H' => rest G b call (fput env dst d) H') p) (fstep op G b call env H)) w) (fwanted env (some gd))) guard) o

noncomputable def frunOps (l : List AOper) : (Nat → Option (List D)) → Nat → (D → List D → Heap → Option (D × Heap)) → Env → Heap → Option (Env × Heap) :=
  List.rec (motive := fun _ => (Nat → Option (List D)) → Nat → (D → List D → Heap → Option (D × Heap)) → Env → Heap → Option (Env × Heap)) (fun _ _ _ env H => some (env, H)) (fun o _ ih => fop1 o ih) l

theorem frunOps_eq (G : Nat → Option (List D)) (b : Nat) (call : D → List D → Heap → Option (D × Heap)) (l : List AOper) (env : Env) (H : Heap) : frunOps l G b call env H = runOps G b call l env H := by
  induction l generalizing env H with
  | nil => rfl
  | cons o l ih =>
    show fop1 o (frunOps l) G b call env H = _
    obtain ⟨dst, guard, op⟩ := o
    unfold runOps runOp
    have hs : ∀ x, x = step G b call env H op → Option.rec (motive := fun _ => Option (Env × Heap)) none (fun p => Prod.rec (motive := fun _ => Option (Env × Heap)) (fun d H' => frunOps l G b call (fput env dst d) H') p) x = (match x with
      | some (d, H') => runOps G b call l (putO env dst d) H'
      | none => none) := by
      intro x hx
      cases x with
      | none => rfl
      | some p => show frunOps l G b call (fput env dst p.1) p.2 = _; rw [ih, fput_eq]
    cases guard with
    | none =>
      show Option.rec (motive := fun _ => Option (Env × Heap)) none (fun p => Prod.rec (motive := fun _ => Option (Env × Heap)) (fun d H' => frunOps l G b call (fput env dst d) H') p) (fstep op G b call env H) = _
      rw [fstep_eq, hs _ rfl]
      rfl
    | some gd =>
      show Option.rec (motive := fun _ => Option (Env × Heap)) none (fun w => Bool.rec (motive := fun _ => Option (Env × Heap)) (frunOps l G b call (fput env dst (.tup [])) H)
        (Option.rec (motive := fun _ => Option (Env × Heap)) none (fun p => Prod.rec (motive := fun _ => Option (Env × Heap)) (fun d H' => frunOps l G b call (fput env dst d) H') p) (fstep op G b call env H)) w) (fwanted env (some gd)) = _
      rw [fwanted_eq, fstep_eq, hs _ rfl]
      simp only
      cases wantedA env (some gd) with
      | none => rfl
      | some w =>
        cases w with
        | false => show frunOps l G b call (fput env dst (.tup [])) H = _; rw [ih, fput_eq]
        | true => rfl
end Go.AM
/- The abstract machine, in a form that the kernel runs fast: code, calls. -/
namespace Go.AM

abbrev FX := (Nat → Option (List D)) → Nat → (D → List D → Heap → Option (D × Heap)) → Nat → Option Nat → St → Option (Ex × St)

noncomputable def fisE (o : AOp) : Bool := o.isE

/-! drawn regions -/
noncomputable def frunOp (G : Nat → Option (List D)) (b : Nat) (call : D → List D → Heap → Option (D × Heap)) (env : Env) (H : Heap) (o : AOper) : Option (D × Heap) :=
  Option.rec (motive := fun _ => Option (D × Heap)) none (fun w => Bool.rec (motive := fun _ => Option (D × Heap)) (some (.tup [], H)) (fstep o.op G b call env H) w) (fwanted env o.guard)
theorem frunOp_eq : frunOp = runOp := by
  funext G b call env H o
  unfold frunOp runOp
  rw [fwanted_eq, fstep_eq]
  cases wantedA env o.guard with
  | none => rfl
  | some w => cases w <;> rfl

noncomputable def fsameAt (G : Nat → Option (List D)) (b : Nat) (call : D → List D → Heap → Option (D × Heap)) (env : Env) (o : AOper) (d : D) (H : Heap) : Bool :=
  match frunOp G b call env H o with
  | some (d', _) => d'.beq d
  | none => false
noncomputable def fsamePast (G : Nat → Option (List D)) (b : Nat) (call : D → List D → Heap → Option (D × Heap)) (env : Env) (o : AOper) (d : D) (lo : Nat) : List (Nat × Heap) → Bool
  | [] => true
  | (j, H) :: r => (Nat.blt j lo || fsameAt G b call env o d H) && fsamePast G b call env o d lo r
noncomputable def fsameFut (G : Nat → Option (List D)) (b : Nat) (call : D → List D → Heap → Option (D × Heap)) (env : Env) (o : AOper) (d : D) (hi : Nat) : List (Nat × Heap) → Bool
  | [] => true
  | (j, H) :: r => (Nat.ble hi j || fsameAt G b call env o d H) && fsameFut G b call env o d hi r
theorem fsameAt_eq : fsameAt = sameAt := by funext G b call env o d H; simp only [fsameAt, sameAt, frunOp_eq]; rfl
theorem fsamePast_eq : fsamePast = samePast := by
  funext G b call env o d lo l
  induction l with
  | nil => rfl
  | cons a l ih => obtain ⟨j, H⟩ := a; simp only [fsamePast, samePast, ih, fsameAt_eq]
theorem fsameFut_eq : fsameFut = sameFut := by
  funext G b call env o d lo l
  induction l with
  | nil => rfl
  | cons a l ih => obtain ⟨j, H⟩ := a; simp only [fsameFut, sameFut, ih, fsameAt_eq]
noncomputable def frunD (l : List (AOper × Nat × Nat)) : (Nat → Option (List D)) → Nat → (D → List D → Heap → Option (D × Heap)) → Nat → List (Nat × Heap) → Env → Heap → Option (Env × Heap × List (Nat × Heap)) :=
  List.rec (motive := fun _ => (Nat → Option (List D)) → Nat → (D → List D → Heap → Option (D × Heap)) → Nat → List (Nat × Heap) → Env → Heap → Option (Env × Heap × List (Nat × Heap))) (fun _ _ _ _ _ env H => some (env, H, []))
  (fun p _ ih G b call i past env H => Prod.rec (motive := fun _ => Option (Env × Heap × List (Nat × Heap))) (fun o q => Prod.rec (motive := fun _ => Option (Env × Heap × List (Nat × Heap))) (fun lo hi =>
    Option.rec (motive := fun _ => Option (Env × Heap × List (Nat × Heap))) none (fun r => Prod.rec (motive := fun _ => Option (Env × Heap × List (Nat × Heap))) (fun d H' =>
      Bool.rec (motive := fun _ => Option (Env × Heap × List (Nat × Heap)))
        (Bool.rec (motive := fun _ => Option (Env × Heap × List (Nat × Heap))) (ih G b call (Nat.succ i) past (fput env o.dst d) H')
          (Option.rec (motive := fun _ => Option (Env × Heap × List (Nat × Heap))) none (fun z => Prod.rec (motive := fun _ => Option (Env × Heap × List (Nat × Heap))) (fun e y => Prod.rec (motive := fun _ => Option (Env × Heap × List (Nat × Heap))) (fun h fut =>
            Bool.rec (motive := fun _ => Option (Env × Heap × List (Nat × Heap))) none (Bool.rec (motive := fun _ => Option (Env × Heap × List (Nat × Heap))) none (some (e, h, fut)) (fsameFut G b call env o d hi fut)) (fsamePast G b call env o d lo past)) y) z) (ih G b call (Nat.succ i) past (fput env o.dst d) H')) o.op.isL)
        (Option.rec (motive := fun _ => Option (Env × Heap × List (Nat × Heap))) none (fun z => Prod.rec (motive := fun _ => Option (Env × Heap × List (Nat × Heap))) (fun e y => Prod.rec (motive := fun _ => Option (Env × Heap × List (Nat × Heap))) (fun h fut => some (e, h, (i, H') :: fut)) y) z)
          (ih G b call (Nat.succ i) ((i, H) :: past) (fput env o.dst d) H')) o.op.isE) r) (frunOp G b call env H o)) q) p) l
theorem frunD_eq (G : Nat → Option (List D)) (b : Nat) (call : D → List D → Heap → Option (D × Heap)) (i : Nat) (l : List (AOper × Nat × Nat)) (past : List (Nat × Heap)) (env : Env) (H : Heap) : frunD l G b call i past env H = runD G b call i l past env H := by
  induction l generalizing i past env H with
  | nil => rfl
  | cons a l ih =>
    obtain ⟨o, lo, hi⟩ := a
    show Option.rec (motive := fun _ => Option (Env × Heap × List (Nat × Heap))) none (fun r => Prod.rec (motive := fun _ => Option (Env × Heap × List (Nat × Heap))) (fun d H' =>
      Bool.rec (motive := fun _ => Option (Env × Heap × List (Nat × Heap)))
        (Bool.rec (motive := fun _ => Option (Env × Heap × List (Nat × Heap))) (frunD l G b call (i + 1) past (fput env o.dst d) H')
          (Option.rec (motive := fun _ => Option (Env × Heap × List (Nat × Heap))) none (fun z => Prod.rec (motive := fun _ => Option (Env × Heap × List (Nat × Heap))) (fun e y => Prod.rec (motive := fun _ => Option (Env × Heap × List (Nat × Heap))) (fun h fut =>
            Bool.rec (motive := fun _ => Option (Env × Heap × List (Nat × Heap))) none (Bool.rec (motive := fun _ => Option (Env × Heap × List (Nat × Heap))) none (some (e, h, fut)) (fsameFut G b call env o d hi fut)) (fsamePast G b call env o d lo past)) y) z) (frunD l G b call (i + 1) past (fput env o.dst d) H')) o.op.isL)
        (Option.rec (motive := fun _ => Option (Env × Heap × List (Nat × Heap))) none (fun z => Prod.rec (motive := fun _ => Option (Env × Heap × List (Nat × Heap))) (fun e y => Prod.rec (motive := fun _ => Option (Env × Heap × List (Nat × Heap))) (fun h fut => some (e, h, (i, H') :: fut)) y) z)
          (frunD l G b call (i + 1) ((i, H) :: past) (fput env o.dst d) H')) o.op.isE) r) (frunOp G b call env H o) = _
    rw [frunOp_eq]
    conv => rhs; unfold runD
    cases runOp G b call env H o with
    | none => rfl
    | some r =>
      obtain ⟨d, H'⟩ := r
      simp only [ih, fput_eq, fsamePast_eq, fsameFut_eq]
      cases o.op.isE with
      | true =>
        rw [if_pos rfl]
        cases runD G b call (i + 1) l ((i, H) :: past) (putO env o.dst d) H' with
        | none => rfl
        | some z => rfl
      | false =>
        rw [if_neg (by simp)]
        cases o.op.isL with
        | false => cases runD G b call (i + 1) l past (putO env o.dst d) H' with
          | none => rfl
          | some z => rfl
        | true => cases runD G b call (i + 1) l past (putO env o.dst d) H' with
          | none => rfl
          | some z =>
            obtain ⟨e, h, fut⟩ := z
            show Bool.rec (motive := fun _ => Option (Env × Heap × List (Nat × Heap))) none (Bool.rec (motive := fun _ => Option (Env × Heap × List (Nat × Heap))) none (some (e, h, fut)) (sameFut G b call env o d hi fut)) (samePast G b call env o d lo past) = (if true = true then (if (samePast G b call env o d lo past && sameFut G b call env o d hi fut) = true then some (e, h, fut) else none) else some (e, h, fut))
            cases samePast G b call env o d lo past <;> cases sameFut G b call env o d hi fut <;> rfl

/-! code -/
def xSkip : FX := fun _ _ _ _ _ s => some (.normal, s)
noncomputable def xReg (ops : List AOper) : FX := fun G b call _ _ s => St.rec (motive := fun _ => Option (Ex × St)) (fun env H dfs =>
  Option.rec (motive := fun _ => Option (Ex × St)) none (fun p => Prod.rec (motive := fun _ => Option (Ex × St)) (fun e h => some (.normal, ⟨e, h, dfs⟩)) p) (frunOps ops G b call env H)) s
noncomputable def xDreg (ops : List (AOper × Nat × Nat)) : FX := fun G b call _ _ s => St.rec (motive := fun _ => Option (Ex × St)) (fun env H dfs =>
  Option.rec (motive := fun _ => Option (Ex × St)) none (fun p => Prod.rec (motive := fun _ => Option (Ex × St)) (fun e q => Prod.rec (motive := fun _ => Option (Ex × St)) (fun h _ => some (.normal, ⟨e, h, dfs⟩)) q) p) (frunD ops G b call 0 [] env H)) s
noncomputable def xSeq (_ _ : ACode) (ia ib : FX) : FX := fun G b call lf rnd s =>
  Option.rec (motive := fun _ => Option (Ex × St)) none (fun p => Prod.rec (motive := fun _ => Option (Ex × St)) (fun e s' => Ex.rec (motive := fun _ => Option (Ex × St)) (ib G b call lf rnd s') (fun i => some (.exit i, s')) (some (.ret, s')) e) p) (ia G b call lf rnd s)
noncomputable def xCond (c : Arg) (_ _ : ACode) (ia ib : FX) : FX := fun G b call lf rnd s =>
  D.rec (motive_1 := fun _ => Option (Ex × St)) (motive_2 := fun _ => PUnit) none (fun x => Bool.rec (motive := fun _ => Option (Ex × St)) (ib G b call lf rnd s) (ia G b call lf rnd s) x) (fun _ _ => none) (fun _ => none) none none none none (fun _ _ => none) (fun _ _ _ => none) (fun _ _ => none) (fun _ _ _ => none) (fun _ _ _ _ => none)
   (fun _ _ _ _ _ => none) (fun _ => none) (fun _ _ => none) (fun _ _ => none) (fun _ _ => none) (fun _ => none) PUnit.unit (fun _ _ _ _ => PUnit.unit) (fevalA G (St.rec (motive := fun _ => Env) (fun env _ _ => env) s) c)
noncomputable def xBlock (id : Nat) (_ : ACode) (ib : FX) : FX := fun G b call lf rnd s =>
  Option.rec (motive := fun _ => Option (Ex × St)) none (fun p => Prod.rec (motive := fun _ => Option (Ex × St)) (fun e s' => Ex.rec (motive := fun _ => Option (Ex × St)) (some (.normal, s')) (fun id' => Bool.rec (motive := fun _ => Option (Ex × St)) (some (.exit id', s')) (some (.normal, s')) (Nat.beq id' id)) (some (.ret, s')) e) p) (ib G b call lf rnd s)
noncomputable def floopN (f : St → Option (Ex × St)) (n : Nat) : St → Option (Ex × St) := Nat.rec (motive := fun _ => St → Option (Ex × St)) (fun _ => none)
  (fun _ ih s => Option.rec (motive := fun _ => Option (Ex × St)) none (fun p => Prod.rec (motive := fun _ => Option (Ex × St)) (fun e s' => Ex.rec (motive := fun _ => Option (Ex × St)) (ih s') (fun i => some (.exit i, s')) (some (.ret, s')) e) p) (f s)) n
noncomputable def xLoop (_ : ACode) (ib : FX) : FX := fun G b call lf rnd s => floopN (ib G b call lf rnd) lf s
noncomputable def fenterLoopA (rnd : Option Nat) (s : St) (ps : List Nat) (asg body : ACode) : Option (Heap × List Nat) :=
  match rnd with
  | none => some (s.H ++ [.dfr false] ++ [.loop ⟨s.env, ps, asg, body, .ready, none, (flen s.H)⟩], (flen s.H) :: s.dfs)
  | some l => match (fnth s.H l) with
    | some (.loop L) => some (s.H ++ [.loop ⟨s.env, ps, asg, body, .ready, none, L.dfr⟩], s.dfs)
    | _ => none
theorem fenterLoopA_eq : fenterLoopA = enterLoopA := by
  funext rnd s ps asg body; cases rnd <;> simp only [fenterLoopA, enterLoopA, flen_eq, fnth_eq] <;> rfl
noncomputable def xRange (f : Arg) (ps : List Nat) (asg body : ACode) (_ _ : FX) : FX := fun G b call lf rnd s =>
    match fenterLoopA rnd s ps asg body with
    | some (H, dfs) => match fevalA G s.env f with
      | .func g pre caps => match call (.func g pre caps) [.yield ((flen H) - 1)] H with
        | some (_, H') => match fnth H' ((flen H) - 1) with
          | some (.loop L) => if L.st = .busy then none else
            some (jumpEx L.pend, ⟨s.env, H'.set ((flen H) - 1) (.loop { L with st := .exhausted }), dfs⟩)
          | _ => none
        | none => none
      | _ => none
    | none => none
def xExit (id : Nat) : FX := fun _ _ _ _ _ s => some (.exit id, s)
def xRet : FX := fun _ _ _ _ _ s => some (.ret, s)

noncomputable def fexec (c : ACode) : FX := ACode.rec (motive := fun _ => FX) xSkip xReg xDreg xSeq xCond xBlock xLoop xRange xExit xRet c

theorem floopN_eq {f g : St → Option (Ex × St)} (h : ∀ s, f s = g s) (n : Nat) (s : St) : floopN f n s = loopN g n s := by
  induction n generalizing s with
  | zero => rfl
  | succ n ih =>
    show Option.rec (motive := fun _ => Option (Ex × St)) none (fun p => Prod.rec (motive := fun _ => Option (Ex × St)) (fun e s' => Ex.rec (motive := fun _ => Option (Ex × St)) (floopN f n s') (fun i => some (.exit i, s')) (some (.ret, s')) e) p) (f s) = _
    unfold loopN
    rw [h]
    cases g s with
    | none => rfl
    | some p => obtain ⟨e, s'⟩ := p; cases e <;> first | exact ih s' | rfl

theorem fexec_eq (G : Nat → Option (List D)) (b : Nat) (call : D → List D → Heap → Option (D × Heap)) (lf : Nat) (rnd : Option Nat) (c : ACode) (s : St) : fexec c G b call lf rnd s = exec G b call lf rnd c s := by
  induction c generalizing s with
  | skip => rfl
  | reg ops =>
    obtain ⟨env, H, dfs⟩ := s
    show Option.rec (motive := fun _ => Option (Ex × St)) none (fun p => Prod.rec (motive := fun _ => Option (Ex × St)) (fun e h => some (.normal, ⟨e, h, dfs⟩)) p) (frunOps ops G b call env H) = _
    unfold exec
    rw [frunOps_eq]
    cases runOps G b call ops env H <;> rfl
  | dreg ops =>
    obtain ⟨env, H, dfs⟩ := s
    show Option.rec (motive := fun _ => Option (Ex × St)) none (fun p => Prod.rec (motive := fun _ => Option (Ex × St)) (fun e q => Prod.rec (motive := fun _ => Option (Ex × St)) (fun h _ => some (.normal, ⟨e, h, dfs⟩)) q) p) (frunD ops G b call 0 [] env H) = _
    unfold exec
    rw [frunD_eq]
    cases runD G b call 0 ops [] env H <;> rfl
  | seq a c iha ihc =>
    show xSeq a c (fexec a) (fexec c) G b call lf rnd s = _
    unfold xSeq exec
    rw [iha]
    cases exec G b call lf rnd a s with
    | none => rfl
    | some p => obtain ⟨e, s'⟩ := p; cases e <;> first | exact ihc s' | rfl
  | cond x a c iha ihc =>
    show xCond x a c (fexec a) (fexec c) G b call lf rnd s = _
    obtain ⟨env, H, dfs⟩ := s
    unfold xCond exec
    rw [fevalA_eq, iha, ihc]
    show D.rec (motive_1 := fun _ => Option (Ex × St)) (motive_2 := fun _ => PUnit) _ _ _ _ _ _ _ _ _ _ _ _ _ _ _ _ _ _ _ _ _ (evalA G env x) = _
    cases evalA G env x with
    | bool v => cases v <;> rfl
    | _ => rfl
  | block id c ihc =>
    show xBlock id c (fexec c) G b call lf rnd s = _
    unfold xBlock exec
    rw [ihc]
    cases exec G b call lf rnd c s with
    | none => rfl
    | some p =>
      obtain ⟨e, s'⟩ := p
      cases e with
      | exit id' =>
        show Bool.rec (motive := fun _ => Option (Ex × St)) (some (.exit id', s')) (some (.normal, s')) (Nat.beq id' id) = (if id' = id then some (.normal, s') else some (.exit id', s'))
        by_cases h : id' = id
        · subst h; rw [if_pos rfl, show Nat.beq id' id' = true from Nat.beq_refl id']
        · rw [if_neg h, show Nat.beq id' id = false from by cases hb : Nat.beq id' id; rfl; exact absurd (Nat.eq_of_beq_eq_true hb) h]
      | _ => rfl
  | loop c ihc =>
    show floopN (fexec c G b call lf rnd) lf s = _
    unfold exec
    exact floopN_eq (fun s => ihc s) lf s
  | rangeF f ps asg body _ _ =>
    show xRange f ps asg body (fexec asg) (fexec body) G b call lf rnd s = _
    unfold xRange exec
    simp only [fenterLoopA_eq, fevalA_eq, fnth_eq, flen_eq]
    rfl
  | exit id => rfl
  | ret => rfl

/-! calls -/
noncomputable def fmapO (g : D → Option D) (l : List D) : Option (List D) := List.rec (motive := fun _ => Option (List D)) (some [])
  (fun d _ ih => Option.rec (motive := fun _ => Option (List D)) none (fun d' => Option.rec (motive := fun _ => Option (List D)) none (fun ds' => some (d' :: ds')) ih) (g d)) l
theorem fmapO_eq (g : D → Option D) (l : List D) : fmapO g l = mapO g l := by
  induction l with
  | nil => rfl
  | cons d l ih =>
    show Option.rec (motive := fun _ => Option (List D)) none (fun d' => Option.rec (motive := fun _ => Option (List D)) none (fun ds' => some (d' :: ds')) (fmapO g l)) (g d) = _
    unfold mapO
    rw [ih]
    cases g d with
    | none => rfl
    | some d' => cases mapO g l <;> rfl
noncomputable def ffz (H : Heap) (n : Nat) (f : Nat) : D → Option D := Nat.rec (motive := fun _ => D → Option D) (fun _ => none) (fun _ ih d => match d with
    | .undef => none
    | .ptr id off => if id < n then some (.ptr id off) else
      match (fnth H id) with
      | some (.box cs) => match fmapO ih (cs.drop off) with
        | some cs' => if funders 0 cs' && fones cs' then some (.fptr cs') else none
        | none => none
      | _ => none
    | .osl id hw off m => if id < n then some (.osl id hw off m) else
      match (fnth H id) with
      | some (.row es cs nil) =>
        if nil then (if m = 0 then some .nilsl else none) else
        if (flen cs) = hw ∧ off + m * es ≤ hw then
          match fmapO ih ((cs.drop off).take (m * es)) with
          | some cs' => if funders 0 cs' && fones cs' then some (.fsl cs' m) else none
          | none => none
        else none
      | _ => none
    | .agg cs => match fmapO ih cs with
      | some cs' => some (.agg cs')
      | none => none
    | .tup cs => match fmapO ih cs with
      | some cs' => some (.tup cs')
      | none => none
    | .func g ps cs => match fmapO ih ps, fmapO ih cs with
      | some ps', some cs' => some (.func g ps' cs')
      | _, _ => none
    | .rptr id hw off => if id < n then some (.rptr id hw off) else none
    | .yield id => if id < n then some (.yield id) else none
    | .mp id => if id < n then some (.mp id) else none
    | d => some d) f
theorem ffz_eq (H : Heap) (n f : Nat) : ffz H n f = fz H n f := by
  induction f with
  | zero => funext d; rfl
  | succ f ih =>
    funext d
    have : fmapO (ffz H n f) = mapO (fz H n f) := by rw [ih]; funext l; exact fmapO_eq _ l
    cases d <;> simp only [fz] <;> (try rfl) <;> (rw [← this]; first | rfl | (simp only [← flen_eq, ← fnth_eq, ← funders_eq, ← fones_eq]; rfl))

noncomputable def freadRes (env : Env) (H : Heap) (l : List ARes) : Option (List D) := List.rec (motive := fun _ => Option (List D)) (some [])
  (fun r _ ih => Option.rec (motive := fun _ => Option (List D)) none (fun ds => match r with
    | .tmp t => some (fget env t :: ds)
    | .cell t ag n => match fcellsAt H (fget env t) with
      | some cs => match loadD ag n cs with
        | some d => some (d :: ds)
        | none => none
      | none => none) ih) l
theorem freadRes_eq (env : Env) (H : Heap) (l : List ARes) : freadRes env H l = readRes env H l := by
  induction l with
  | nil => rfl
  | cons r l ih =>
    show Option.rec (motive := fun _ => Option (List D)) none (fun ds => _) (freadRes env H l) = _
    rw [ih, fget_eq, fcellsAt_eq]
    cases r with
    | tmp t => simp only [readRes]; cases readRes env H l <;> rfl
    | cell t ag n =>
      simp only [readRes]
      cases readRes env H l with
      | none => cases cellsAt H (env.get t) with
        | none => rfl
        | some cs => cases h : loadD ag n cs <;> simp [h]
      | some ds => cases cellsAt H (env.get t) with
        | none => rfl
        | some cs => cases h : loadD ag n cs <;> simp [h]

noncomputable def ffinishP (H : Heap) (n : Nat) (ds : List D) : Option (D × Heap) :=
  match fmapO (ffz H n 64) ds with
  | some ds' => if funders n ds' then fcS (ftake n H) (fun H' => fcD (pack ds') (fun d => some (d, H'))) else none
  | none => none
theorem ffinishP_eq : ffinishP = finishP := by funext H n ds; unfold ffinishP finishP; rw [fmapO_eq, ffz_eq]; simp only [funders_eq, fcS_eq, fcD_eq, ftake_eq]; rfl
noncomputable def ftakesA (H : Heap) (l : List Nat) : Option Heap := List.rec (motive := fun _ => Option Heap) (some H) (fun _ _ _ => takesA H l) l
theorem ftakesA_eq : ftakesA = takesA := by funext H l; cases l <;> rfl
noncomputable def ffinish (fn : AFunc) (n : Nat) (s : St) : Option (D × Heap) :=
  match ftakesA s.H s.dfs with
  | none => none
  | some H => match freadRes s.env H fn.results with
    | none => none
    | some ds => match fn.keep with
      | none => ffinishP H n ds
      | some j => if Nat.ble 1000 j then (if funders (flen H) ds then some (pack ds, H) else none) else match ds[j]? with
        | some (.osl id hw 0 m) =>
          if id < n then ffinishP H n ds else
          match (fnth H id) with
          | some (.row es cs nil) =>
            if funders n cs then
              match fmapO (ffz (H.set id (.dfr true)) n 64) (ds.set j .nilsl) with
              | some ds' => if funders n ds' && Nat.blt j ds.length then some (pack (ds'.set j (.osl n hw 0 m)), H.take n ++ [.row es cs nil]) else none
              | none => none
            else none
          | _ => none
        | _ => ffinishP H n ds
theorem ffinish_eq : ffinish = finish := by
  funext fn n s
  unfold ffinish finish
  simp only [ftakesA_eq, freadRes_eq, ffinishP_eq, ffz_eq, fmapO_eq, funders_eq, flen_eq, fnth_eq]
  rfl

noncomputable def froundA (G : Nat → Option (List D)) (call : D → List D → Heap → Option (D × Heap)) (lf : Nat) (l : Nat) (args : List D) (H : Heap) : Option (D × Heap) :=
  match (fnth H l) with
  | some (.loop L) =>
    if L.st = .ready ∧ args.length = L.params.length then
      match fexec L.assign G (flen H) call lf (some l) ⟨L.env.puts L.params args, H, []⟩ with
      | some (.normal, s1) => match (fnth s1.H l) with
        | some (.loop L1) =>
          if L1.st = .ready then
            match fexec L.body G (flen H) call lf (some l) ⟨s1.env, s1.H.set l (.loop { L1 with st := .busy }), s1.dfs⟩ with
            | some (ex, s2) => match (fnth s2.H l) with
              | some (.loop L2) => some ((endRoundA ex L2).1, s2.H.set l (.loop (endRoundA ex L2).2))
              | _ => none
            | none => none
          else none
        | _ => none
      | _ => none
    else none
  | _ => none
theorem froundA_eq : froundA = roundA := by
  funext G call lf l args H
  unfold froundA roundA
  simp only [fexec_eq, fnth_eq, flen_eq]
  rfl

noncomputable def fargs (e : Env) (l : List D) : Nat → Env := List.rec (motive := fun _ => Env → Nat → Env) (fun e _ => e) (fun d _ ih e i => fcD d (fun d => ih (fset 16 e i d) (Nat.succ i))) l e
theorem fargs_eq (e : Env) (l : List D) (i : Nat) : fargs e l i = e.ofArgs i l := by
  induction l generalizing e i with
  | nil => rfl
  | cons d l ih => show fcD d (fun d => fargs (fset 16 e i d) l (i + 1)) = _; rw [fcD_eq, ih, fset_eq]; rfl

noncomputable def fbody (X : Ctx) (k : Nat) (ih : D → List D → Heap → Option (D × Heap)) (fn : AFunc) (as : List D) (H : Heap) : Option (D × Heap) :=
  Option.rec (motive := fun _ => Option (D × Heap)) none (fun p => Prod.rec (motive := fun _ => Option (D × Heap)) (fun e s => Ex.rec (motive := fun _ => Option (D × Heap)) (ffinish fn (flen H) s) (fun _ => none) (ffinish fn (flen H) s) e) p)
    (fexec fn.body X.G (flen H) ih k none ⟨fargs .nil as 0, H, []⟩)

noncomputable def fcallN (X : Ctx) (k : Nat) : D → List D → Heap → Option (D × Heap) := Nat.rec (motive := fun _ => D → List D → Heap → Option (D × Heap)) (fun _ _ _ => none)
  (fun k ih f args H => match f with
    | .func f pre caps => match X.prims f (pre ++ args ++ caps) with
      | some d => some (d, H)
      | none => match X.fn f with
        | none => none
        | some fn => Bool.rec (motive := fun _ => Option (D × Heap)) none (fbody X k ih fn (pre ++ args ++ caps) H) (Nat.blt (flen (pre ++ args ++ caps)) 65535)
    | .yield l => froundA X.G ih k l args H
    | _ => none) k

theorem fcallN_eq (X : Ctx) (k : Nat) : fcallN X k = callN X k := by
  induction k with
  | zero => funext f args H; rfl
  | succ k ih =>
    funext f args H
    cases f with
    | func f pre caps =>
      show (match X.prims f (pre ++ args ++ caps) with
        | some d => some (d, H)
        | none => match X.fn f with
          | none => none
          | some fn => Bool.rec (motive := fun _ => Option (D × Heap)) none (fbody X k (fcallN X k) fn (pre ++ args ++ caps) H) (Nat.blt (flen (pre ++ args ++ caps)) 65535)) = _
      unfold callN
      rw [ih, flen_eq]
      cases X.prims f (pre ++ args ++ caps) with
      | some d => rfl
      | none =>
        cases X.fn f with
        | none => rfl
        | some fn =>
          simp only [fbody, fexec_eq, fargs_eq, flen_eq, ffinish_eq]
          cases Nat.blt (pre ++ args ++ caps).length 65535 with
          | false => rfl
          | true =>
            show _ = (if true = true then _ else _)
            rw [if_pos rfl]
            cases exec X.G H.length (callN X k) k none fn.body ⟨Env.nil.ofArgs 0 (pre ++ args ++ caps), H, []⟩ with
            | none => rfl
            | some p => obtain ⟨e, s⟩ := p; cases e <;> rfl
    | yield l => show froundA X.G (fcallN X k) k l args H = _; rw [ih, froundA_eq]; rfl
    | _ => rfl
end Go.AM
