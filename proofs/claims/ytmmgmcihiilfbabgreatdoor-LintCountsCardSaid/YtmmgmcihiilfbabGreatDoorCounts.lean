import Derived.Test.YtmmgmcihiilfbabGreatDoorCtx
import Derived.IntWalk
set_option linter.unusedVariables false
set_option linter.unusedSimpArgs false
set_option maxRecDepth 100000
namespace Go.AM.T

def ns1 : Type := Int × List UInt8 × Int
def cellsN : List (Int × List UInt8 × Int) → List D
  | [] => []
  | (k, s, a) :: r => .int .i64 k :: .str s :: .int .i64 a :: cellsN r

def bump (c : List Int) (j : Nat) : List Int := c.set j (IntKind.i64.wrap (c.getD j 0 + 1))
def cls (k : Int) : Nat := if k < 1 then 0 else if k > 6 then 0 else k.toNat

def cB1a : List AOper := [⟨some 10,none,.iaddr 3 (.t 6) (.t 8)⟩,⟨some 11,none,.load true 3 (.t 10)⟩,⟨some 5,none,.hole 3⟩,⟨some 5,none,.fill 3 ⟨.t 11, none⟩⟩]
def cB1b : List AOper := [⟨some 12,none,.faddr 0 (.t 5)⟩,⟨some 13,none,.load false 1 (.t 12)⟩,⟨some 14,none,.bin .lss (.t 13) (.c (j 1))⟩,⟨some 15,none,.mov (.t 14)⟩,⟨some 16,some (15,false),.faddr 0 (.t 5)⟩,⟨some 17,some (15,false),.load false 1 (.t 16)⟩,⟨some 18,some (15,false),.bin .gtr (.t 17) (.c (j 6))⟩,⟨some 19,none,.pick (.t 15) (.c (.bool true)) (.t 18)⟩]
def cA : List AOper := [⟨some 20,none,.iaddrA 7 1 (.t 3) (.c (j 0))⟩,⟨some 21,none,.load false 1 (.t 20)⟩,⟨some 22,none,.bin .add (.t 21) (.c (j 1))⟩,⟨some 23,none,.iaddrA 7 1 (.t 3) (.c (j 0))⟩,⟨none,none,.store 1 (.t 23) (.t 22)⟩]
def cB : List AOper := [⟨some 24,none,.faddr 0 (.t 5)⟩,⟨some 25,none,.load false 1 (.t 24)⟩,⟨some 26,none,.iaddrA 7 1 (.t 3) (.t 25)⟩,⟨some 27,none,.load false 1 (.t 26)⟩,⟨some 28,none,.bin .add (.t 27) (.c (j 1))⟩,⟨some 29,none,.iaddrA 7 1 (.t 3) (.t 25)⟩,⟨none,none,.store 1 (.t 29) (.t 28)⟩]
def cB2 : List AOper := [⟨some 30,none,.bin .add (.t 8) (.c (j 1))⟩,⟨some 8,none,.mov (.t 30)⟩]

section
variable {G : Nat → Option (List D)} {call : D → List D → Heap → Option (D × Heap)}

theorem st_b1a {e : Env} {H : Heap} {ns : List (Int × List UInt8 × Int)} {N i : Nat} {k : Int} {s : List UInt8} {a : Int} {rest : List D} (h6 : e.get 6 = .fsl (cellsN ns) N) (h8 : e.get 8 = .int .i64 (i : Int)) (hi : i < N) (hd : (cellsN ns).drop (i * 3) = .int .i64 k :: .str s :: .int .i64 a :: rest) :
    ∃ e', runOps G 0 call cB1a e H = some (e', H) ∧ e'.get 5 = .fptr [.int .i64 k, .str s, .int .i64 a] ∧ ∀ t, t ≠ 10 → t ≠ 11 → t ≠ 5 → e'.get t = e.get t := by
  simp [cB1a, runOps, runOp, wantedA, step, evalA, putO, Env.put_get, h6, h8, hi, hd, cellsAt, loadD, D.cells, D.unders, D.under, D.ones, D.one]
  intro t h1 h2 h3
  simp [h1, h2, h3]

theorem st_b1b {e : Env} {H : Heap} {k : Int} {s : List UInt8} {a : Int} (h5 : e.get 5 = .fptr [.int .i64 k, .str s, .int .i64 a]) :
    ∃ e', runOps G 0 call cB1b e H = some (e', H) ∧ e'.get 19 = .bool (decide (k < 1) || decide (k > 6)) ∧ ∀ t, ¬ (12 ≤ t ∧ t ≤ 19) → e'.get t = e.get t := by
  by_cases hk : k < 1
  · simp [cB1b, runOps, runOp, wantedA, step, evalA, putO, Env.put_get, h5, cellsAt, loadD, binD, binInt, j, hk]
    intro t ht
    simp [show t ≠ 12 by omega, show t ≠ 13 by omega, show t ≠ 14 by omega, show t ≠ 15 by omega, show t ≠ 16 by omega, show t ≠ 17 by omega, show t ≠ 18 by omega, show t ≠ 19 by omega]
  · simp [cB1b, runOps, runOp, wantedA, step, evalA, putO, Env.put_get, h5, cellsAt, loadD, binD, binInt, j, hk]
    intro t ht
    simp [show t ≠ 12 by omega, show t ≠ 13 by omega, show t ≠ 14 by omega, show t ≠ 15 by omega, show t ≠ 16 by omega, show t ≠ 17 by omega, show t ≠ 18 by omega, show t ≠ 19 by omega]

theorem st_A {e : Env} {z : Chunk} {c0 c1 c2 c3 c4 c5 c6 : Int} (h3 : e.get 3 = .ptr 1 0) :
    ∃ e', runOps G 0 call cA e [z, .box [.int .i64 c0, .int .i64 c1, .int .i64 c2, .int .i64 c3, .int .i64 c4, .int .i64 c5, .int .i64 c6]] =
      some (e', [z, .box [.int .i64 (IntKind.i64.wrap (c0 + 1)), .int .i64 c1, .int .i64 c2, .int .i64 c3, .int .i64 c4, .int .i64 c5, .int .i64 c6]]) ∧ ∀ t, ¬ (20 ≤ t ∧ t ≤ 23) → e'.get t = e.get t := by
  simp [cA, runOps, runOp, wantedA, step, evalA, putO, Env.put_get, h3, cellsAt, loadD, binD, binInt, j, storeD, storable, splice, D.cells, D.unders, D.under, D.ones, D.one]
  intro t ht
  simp [show t ≠ 20 by omega, show t ≠ 21 by omega, show t ≠ 22 by omega, show t ≠ 23 by omega]

theorem st_B {e : Env} {z : Chunk} {c0 c1 c2 c3 c4 c5 c6 : Int} {k : Int} {s : List UInt8} {a : Int} (h3 : e.get 3 = .ptr 1 0) (h5 : e.get 5 = .fptr [.int .i64 k, .str s, .int .i64 a]) (hk : 1 ≤ k ∧ k ≤ 6) :
    ∃ e', runOps G 0 call cB e [z, .box [.int .i64 c0, .int .i64 c1, .int .i64 c2, .int .i64 c3, .int .i64 c4, .int .i64 c5, .int .i64 c6]] =
      some (e', [z, .box ((bump [c0, c1, c2, c3, c4, c5, c6] k.toNat).map (D.int .i64))]) ∧ ∀ t, ¬ (24 ≤ t ∧ t ≤ 29) → e'.get t = e.get t := by
  have hc : k = 1 ∨ k = 2 ∨ k = 3 ∨ k = 4 ∨ k = 5 ∨ k = 6 := by omega
  rcases hc with rfl | rfl | rfl | rfl | rfl | rfl
  all_goals
    simp [cB, runOps, runOp, wantedA, step, evalA, putO, Env.put_get, h3, h5, cellsAt, loadD, binD, binInt, j, storeD, storable, splice, D.cells, D.unders, D.under, D.ones, D.one, bump]
    intro t ht
    simp [show t ≠ 24 by omega, show t ≠ 25 by omega, show t ≠ 26 by omega, show t ≠ 27 by omega, show t ≠ 28 by omega, show t ≠ 29 by omega]

theorem st_B2 {e : Env} {H : Heap} {i : Nat} (h8 : e.get 8 = .int .i64 (i : Int)) (hi : (i : Int) + 1 ≤ 9223372036854775807) :
    ∃ e', runOps G 0 call cB2 e H = some (e', H) ∧ e'.get 8 = .int .i64 ((i + 1 : Nat) : Int) ∧ ∀ t, t ≠ 8 → t ≠ 30 → e'.get t = e.get t := by
  have hw : IntKind.i64.wrap ((i : Int) + 1) = (i : Int) + 1 := Go.IntWalk.i64_in _ ⟨by omega, hi⟩
  simp [cB2, runOps, runOp, wantedA, step, evalA, putO, Env.put_get, h8, binD, binInt, j, hw]
  intro t h1 h2
  simp [h1, h2]

def cBd : ACode := .seq (.reg [⟨some 9,none,.bin .lss (.t 8) (.t 7)⟩]) (.seq (.cond (.t 9) (.skip) (.exit 0)) (.seq (.block 1 (.seq (.reg cB1a) (.seq (.reg cB1b) (.cond (.t 19) (.reg cA) (.reg cB))))) (.reg cB2)))

structure I4 (e : Env) (ns : List (Int × List UInt8 × Int)) (i : Nat) : Prop where
  h2 : e.get 2 = .ptr 0 0
  h3 : e.get 3 = .ptr 1 0
  h6 : e.get 6 = .fsl (cellsN ns) ns.length
  h7 : e.get 7 = .int .i64 (ns.length : Int)
  h8 : e.get 8 = .int .i64 (i : Int)

theorem cellsN_app (p q : List (Int × List UInt8 × Int)) : cellsN (p ++ q) = cellsN p ++ cellsN q := by
  induction p with
  | nil => rfl
  | cons x p ih => obtain ⟨k, s, a⟩ := x; simp [cellsN, ih]
theorem cellsN_len (p : List (Int × List UInt8 × Int)) : (cellsN p).length = p.length * 3 := by
  induction p with
  | nil => rfl
  | cons x p ih => obtain ⟨k, s, a⟩ := x; simp [cellsN, ih]; omega

theorem bump_len (c : List Int) (k : Nat) : (bump c k).length = c.length := by simp [bump]

theorem iter4 {lf : Nat} {e : Env} {z : Chunk} {C : List Int} (hC : C.length = 7) {pre rem : List (Int × List UInt8 × Int)} {k : Int} {s : List UInt8} {a : Int} (h : I4 e (pre ++ (k, s, a) :: rem) pre.length) (hN : ((pre ++ (k, s, a) :: rem).length : Int) ≤ 9223372036854775807) :
    ∃ e', exec G 0 call lf none cBd ⟨e, [z, .box (C.map (D.int .i64))], []⟩ = some (.normal, ⟨e', [z, .box ((bump C (cls k)).map (D.int .i64))], []⟩) ∧ I4 e' (pre ++ (k, s, a) :: rem) (pre.length + 1) := by
  obtain ⟨c0, c1, c2, c3, c4, c5, c6, rfl⟩ : ∃ c0 c1 c2 c3 c4 c5 c6, C = [c0, c1, c2, c3, c4, c5, c6] := by
    rcases C with _ | ⟨c0, _ | ⟨c1, _ | ⟨c2, _ | ⟨c3, _ | ⟨c4, _ | ⟨c5, _ | ⟨c6, _ | ⟨c7, r⟩⟩⟩⟩⟩⟩⟩⟩ <;> simp at hC
    exact ⟨c0, c1, c2, c3, c4, c5, c6, rfl⟩
  have hlt : pre.length < (pre ++ (k, s, a) :: rem).length := by simp
  have hd : (cellsN (pre ++ (k, s, a) :: rem)).drop (pre.length * 3) = .int .i64 k :: .str s :: .int .i64 a :: cellsN rem := by
    rw [cellsN_app, ← cellsN_len, List.drop_left]; rfl
  generalize hns : pre ++ (k, s, a) :: rem = ns at *
  have e0 : runOps G 0 call [⟨some 9,none,.bin .lss (.t 8) (.t 7)⟩] e [z, .box ([c0, c1, c2, c3, c4, c5, c6].map (D.int .i64))] = some (e.put 9 (.bool true), [z, .box ([c0, c1, c2, c3, c4, c5, c6].map (D.int .i64))]) := by
    simp [runOps, runOp, wantedA, step, evalA, putO, h.h8, h.h7, binD, binInt, hlt]
  obtain ⟨e1, g1, g2, g3⟩ := st_b1a (G := G) (call := call) (e := e.put 9 (.bool true)) (H := [z, .box ([c0, c1, c2, c3, c4, c5, c6].map (D.int .i64))]) (ns := ns) (N := ns.length) (i := pre.length) (by simp [Env.put_get, h.h6]) (by simp [Env.put_get, h.h8]) hlt hd
  obtain ⟨e2, f1, f2, f3⟩ := st_b1b (G := G) (call := call) (H := [z, .box ([c0, c1, c2, c3, c4, c5, c6].map (D.int .i64))]) g2
  have k1 : ∀ t, t < 9 → t ≠ 5 → e2.get t = e.get t := fun t ht h5 => by
    rw [f3 t (by omega), g3 t (by omega) (by omega) h5, Env.put_get _ _ (by omega), if_neg (by omega)]
  have main : ∃ e3, exec G 0 call lf none (.cond (.t 19) (.reg cA) (.reg cB)) ⟨e2, [z, .box ([c0, c1, c2, c3, c4, c5, c6].map (D.int .i64))], []⟩ = some (.normal, ⟨e3, [z, .box ((bump [c0, c1, c2, c3, c4, c5, c6] (cls k)).map (D.int .i64))], []⟩) ∧ ∀ t, t < 9 → e3.get t = e2.get t := by
    by_cases hk : k < 1 ∨ k > 6
    · obtain ⟨e3, p1, p2⟩ := st_A (G := G) (call := call) (e := e2) (z := z) (c0 := c0) (c1 := c1) (c2 := c2) (c3 := c3) (c4 := c4) (c5 := c5) (c6 := c6) (by rw [k1 3 (by omega) (by omega)]; exact h.h3)
      refine ⟨e3, ?_, fun t ht => p2 t (by omega)⟩
      have hb : e2.get 19 = .bool true := by rw [f2]; rcases hk with hk | hk <;> simp [hk]
      have hcl : cls k = 0 := by unfold cls; rcases hk with hk | hk <;> simp [hk]
      simp only [exec, evalA, hb, if_true, List.map_cons, List.map_nil, p1, hcl]
      rfl
    · have hk' : 1 ≤ k ∧ k ≤ 6 := by omega
      obtain ⟨e3, p1, p2⟩ := st_B (G := G) (call := call) (e := e2) (z := z) (c0 := c0) (c1 := c1) (c2 := c2) (c3 := c3) (c4 := c4) (c5 := c5) (c6 := c6) (k := k) (s := s) (a := a) (by rw [k1 3 (by omega) (by omega)]; exact h.h3) (by rw [f3 5 (by omega)]; exact g2) hk'
      refine ⟨e3, ?_, fun t ht => p2 t (by omega)⟩
      have hb : e2.get 19 = .bool false := by rw [f2]; simp; omega
      have hcl : cls k = k.toNat := by unfold cls; rw [if_neg (by omega), if_neg (by omega)]
      simp only [exec, evalA, hb, Bool.false_eq_true, if_false, List.map_cons, List.map_nil, p1, hcl]
  obtain ⟨e3, m1, m2⟩ := main
  obtain ⟨e4, q1, q2, q3⟩ := st_B2 (G := G) (call := call) (e := e3) (H := [z, .box ((bump [c0, c1, c2, c3, c4, c5, c6] (cls k)).map (D.int .i64))]) (i := pre.length) (by rw [m2 8 (by omega), k1 8 (by omega) (by omega)]; exact h.h8) (by omega)
  refine ⟨e4, ?_, ?_, ?_, ?_, ?_, ?_⟩
  · simp only [cBd, exec, e0, evalA, Env.put_get _ _ (show 9 < 65535 by omega), if_true, g1, f1]
    simp only [exec, evalA] at m1
    rw [m1]
    simp only [q1]
  · rw [q3 2 (by omega) (by omega), m2 2 (by omega), k1 2 (by omega) (by omega)]; exact h.h2
  · rw [q3 3 (by omega) (by omega), m2 3 (by omega), k1 3 (by omega) (by omega)]; exact h.h3
  · rw [q3 6 (by omega) (by omega), m2 6 (by omega), k1 6 (by omega) (by omega)]; exact h.h6
  · rw [q3 7 (by omega) (by omega), m2 7 (by omega), k1 7 (by omega) (by omega)]; exact h.h7
  · exact q2

theorem stop4 {lf : Nat} {e : Env} {H : Heap} {ns : List (Int × List UInt8 × Int)} (h : I4 e ns ns.length) : exec G 0 call lf none cBd ⟨e, H, []⟩ = some (.exit 0, ⟨e.put 9 (.bool false), H, []⟩) := by
  simp [cBd, exec, runOps, runOp, wantedA, step, evalA, putO, h.h8, h.h7, binD, binInt, Env.put_get]

def tally (C : List Int) (ns : List (Int × List UInt8 × Int)) : List Int := ns.foldl (fun c x => bump c (cls x.1)) C

theorem loop4 {lf : Nat} {z : Chunk} : ∀ (rem pre : List (Int × List UInt8 × Int)) (C : List Int) (e : Env) (fuel : Nat), rem.length < fuel → C.length = 7 → I4 e (pre ++ rem) pre.length → ((pre ++ rem).length : Int) ≤ 9223372036854775807 →
    ∃ e', loopN (exec G 0 call lf none cBd) fuel ⟨e, [z, .box (C.map (D.int .i64))], []⟩ = some (.exit 0, ⟨e', [z, .box ((tally C rem).map (D.int .i64))], []⟩) ∧ e'.get 2 = .ptr 0 0 ∧ e'.get 3 = .ptr 1 0 := by
  intro rem
  induction rem with
  | nil =>
    intro pre C e fuel hf hC h hN
    obtain ⟨f, rfl⟩ : ∃ f, fuel = f + 1 := ⟨fuel - 1, by simp at hf; omega⟩
    rw [List.append_nil] at h
    refine ⟨e.put 9 (.bool false), ?_, ?_, ?_⟩
    · rw [loopN, stop4 h]; rfl
    · rw [Env.put_get _ _ (by omega), if_neg (by omega)]; exact h.h2
    · rw [Env.put_get _ _ (by omega), if_neg (by omega)]; exact h.h3
  | cons x rem ih =>
    intro pre C e fuel hf hC h hN
    obtain ⟨k, s, a⟩ := x
    obtain ⟨f, rfl⟩ : ∃ f, fuel = f + 1 := ⟨fuel - 1, by simp at hf; omega⟩
    obtain ⟨e1, h1, h2⟩ := iter4 (G := G) (call := call) (lf := lf) (z := z) hC h hN
    have e2 : pre ++ (k, s, a) :: rem = (pre ++ [(k, s, a)]) ++ rem := by simp
    rw [e2] at h2 hN
    have e3 : (pre ++ [(k, s, a)]).length = pre.length + 1 := by simp
    rw [← e3] at h2
    obtain ⟨e', g1, g2, g3⟩ := ih (pre ++ [(k, s, a)]) (bump C (cls k)) e1 f (by simp at hf; omega) (by rw [bump_len, hC]) h2 hN
    refine ⟨e', ?_, g2, g3⟩
    rw [loopN, h1]
    exact g1

theorem tally_len (ns : List (Int × List UInt8 × Int)) : ∀ C : List Int, (tally C ns).length = C.length := by
  induction ns with
  | nil => intro C; rfl
  | cons x ns ih => intro C; show (tally (bump C (cls x.1)) ns).length = _; rw [ih, bump_len]

def zero7 : List Int := [0, 0, 0, 0, 0, 0, 0]
def cR0 : List AOper := [⟨some 2,none,.allocB (zero7.map (D.int .i64)) []⟩]
def cR1 : List AOper := [⟨some 3,none,.allocB (zero7.map (D.int .i64)) []⟩]
def cR2 : List AOper := [⟨some 6,none,.mov (.t 0)⟩,⟨some 7,none,.len false (.t 6)⟩,⟨some 8,none,.mov (.c (j 0))⟩]
def cR3 : List AOper := [⟨some 31,none,.load true 7 (.t 3)⟩,⟨none,none,.store 7 (.t 2) (.t 31)⟩]
theorem am4_body : am4.body = .seq (.reg cR0) (.seq (.reg cR1) (.seq (.seq (.reg cR2) (.block 0 (.loop cBd))) (.seq (.reg cR3) .ret))) := rfl
theorem am4_res : am4.results = [.cell 2 true 7] := rfl
theorem am4_keep : am4.keep = none := rfl

theorem counts_run {X : Ctx} {k : Nat} {ns : List (Int × List UInt8 × Int)} (hf : X.fn 4 = some am4) (hp : X.prims 4 [.fsl (cellsN ns) ns.length] = none) (hk : ns.length < k) (hN : (ns.length : Int) ≤ 9223372036854775807) :
    callN X (k + 1) (.func 4 [] []) [.fsl (cellsN ns) ns.length] [] = some (.agg ((tally zero7 ns).map (D.int .i64)), []) := by
  have r0 : runOps X.G 0 (callN X k) cR0 (Env.nil.ofArgs 0 [.fsl (cellsN ns) ns.length]) [] = some ((Env.nil.ofArgs 0 [.fsl (cellsN ns) ns.length]).put 2 (.ptr 0 0), [.box (zero7.map (D.int .i64))]) := by
    simp [cR0, runOps, runOp, wantedA, step, putO, reserve]
  generalize he0 : (Env.nil.ofArgs 0 [.fsl (cellsN ns) ns.length]).put 2 (.ptr 0 0) = e0 at r0
  have a0 : e0.get 0 = .fsl (cellsN ns) ns.length := by subst he0; rw [Env.put_get _ _ (by omega), if_neg (by omega)]; rfl
  have a2 : e0.get 2 = .ptr 0 0 := by subst he0; rw [Env.put_get _ _ (by omega), if_pos rfl]
  have r1 : runOps X.G 0 (callN X k) cR1 e0 [.box (zero7.map (D.int .i64))] = some (e0.put 3 (.ptr 1 0), [.box (zero7.map (D.int .i64)), .box (zero7.map (D.int .i64))]) := by
    simp [cR1, runOps, runOp, wantedA, step, putO, reserve]
  have r2 : ∃ e2, runOps X.G 0 (callN X k) cR2 (e0.put 3 (.ptr 1 0)) [.box (zero7.map (D.int .i64)), .box (zero7.map (D.int .i64))] = some (e2, [.box (zero7.map (D.int .i64)), .box (zero7.map (D.int .i64))]) ∧ I4 e2 ns 0 := by
    simp [cR2, runOps, runOp, wantedA, step, evalA, putO, Env.put_get, a0, j]
    exact ⟨by simp [Env.put_get, a2], by simp [Env.put_get], by simp [Env.put_get], by simp [Env.put_get], by simp [Env.put_get]⟩
  obtain ⟨e2, r2, hI⟩ := r2
  obtain ⟨e3, l1, l2, l3⟩ := loop4 (G := X.G) (call := callN X k) (lf := k) (z := .box (zero7.map (D.int .i64))) ns [] zero7 e2 k hk rfl hI hN
  have hl : ((tally zero7 ns).map (D.int .i64)).length = 7 := by rw [List.length_map, tally_len]; rfl
  obtain ⟨c0, c1, c2, c3, c4, c5, c6, hc⟩ : ∃ c0 c1 c2 c3 c4 c5 c6, tally zero7 ns = [c0, c1, c2, c3, c4, c5, c6] := by
    have hC := tally_len ns zero7
    rcases hh : tally zero7 ns with _ | ⟨c0, _ | ⟨c1, _ | ⟨c2, _ | ⟨c3, _ | ⟨c4, _ | ⟨c5, _ | ⟨c6, _ | ⟨c7, r⟩⟩⟩⟩⟩⟩⟩⟩ <;> rw [hh] at hC <;> simp [zero7] at hC
    exact ⟨c0, c1, c2, c3, c4, c5, c6, rfl⟩
  rw [hc] at l1
  have r3 : runOps X.G 0 (callN X k) cR3 e3 [.box (zero7.map (D.int .i64)), .box ([c0, c1, c2, c3, c4, c5, c6].map (D.int .i64))] =
      some (e3.put 31 (.agg ([c0, c1, c2, c3, c4, c5, c6].map (D.int .i64))), [.box ([c0, c1, c2, c3, c4, c5, c6].map (D.int .i64)), .box ([c0, c1, c2, c3, c4, c5, c6].map (D.int .i64))]) := by
    simp [cR3, runOps, runOp, wantedA, step, evalA, putO, Env.put_get, l2, l3, cellsAt, loadD, storeD, storable, splice, D.cells, D.unders, D.under, D.ones, D.one, zero7]
  have hex : exec X.G 0 (callN X k) k none am4.body ⟨Env.nil.ofArgs 0 [.fsl (cellsN ns) ns.length], [], []⟩ = some (.ret, ⟨e3.put 31 (.agg ([c0, c1, c2, c3, c4, c5, c6].map (D.int .i64))), [.box ([c0, c1, c2, c3, c4, c5, c6].map (D.int .i64)), .box ([c0, c1, c2, c3, c4, c5, c6].map (D.int .i64))], []⟩) := by
    rw [am4_body]
    simp only [exec, r0, r1, r2]
    rw [show loopN (exec X.G 0 (callN X k) k none cBd) k ⟨e2, [.box (zero7.map (D.int .i64)), .box (zero7.map (D.int .i64))], []⟩ = _ from l1]
    simp only [if_true, r3]
  show (match X.prims 4 ([] ++ [.fsl (cellsN ns) ns.length] ++ []) with
    | some d => some (d, [])
    | none => match X.fn 4 with
      | none => none
      | some fn => if Nat.blt ([] ++ [D.fsl (cellsN ns) ns.length] ++ []).length 65535 then
        match exec X.G 0 (callN X k) k none fn.body ⟨Env.nil.ofArgs 0 ([] ++ [D.fsl (cellsN ns) ns.length] ++ []), [], []⟩ with
        | some (.normal, s) => finish fn 0 s
        | some (.ret, s) => finish fn 0 s
        | _ => none
        else none) = _
  simp only [List.nil_append, List.append_nil, hp, hf, hex]
  rw [if_pos (show [D.fsl (cellsN ns) ns.length].length.blt 65535 = true from rfl)]
  simp [finish, takesA, readRes, am4_res, am4_keep, finishP, Env.put_get, l2, cellsAt, loadD, mapO, fz, pack, D.unders, D.under, hc]

/-! the law's own count -/
def dC : List AOper := [⟨some 9,none,.mov (.t 5)⟩,⟨some 10,none,.mov (.t 0)⟩,⟨some 11,none,.len false (.t 10)⟩,⟨some 12,none,.bin .lss (.t 9) (.t 11)⟩]
def dK : List AOper := [⟨some 15,none,.mov (.t 0)⟩,⟨some 16,none,.mov (.t 5)⟩,⟨some 17,none,.iaddr 3 (.t 15) (.t 16)⟩,⟨some 18,none,.faddr 0 (.t 17)⟩,⟨some 19,none,.load false 1 (.t 18)⟩,⟨some 6,none,.mov (.t 19)⟩]
def dQ : List AOper := [⟨some 20,none,.mov (.t 6)⟩,⟨some 21,none,.bin .lss (.t 20) (.c (j 1))⟩,⟨some 22,none,.mov (.t 21)⟩,⟨some 23,some (22,false),.mov (.t 6)⟩,⟨some 24,some (22,false),.bin .gtr (.t 23) (.c (j 6))⟩,⟨some 25,none,.pick (.t 22) (.c (.bool true)) (.t 24)⟩]
def dZ : List AOper := [⟨some 6,none,.mov (.c (j 0))⟩]
def dS : List AOper := [⟨some 26,none,.mov (.t 6)⟩,⟨some 27,none,.iaddrA 7 1 (.t 4) (.t 26)⟩,⟨some 28,none,.load false 1 (.t 27)⟩,⟨some 29,none,.bin .add (.t 28) (.c (j 1))⟩,⟨some 30,none,.iaddrA 7 1 (.t 4) (.t 26)⟩,⟨none,none,.store 1 (.t 30) (.t 29)⟩]
def dI : List AOper := [⟨some 13,none,.mov (.t 5)⟩,⟨some 14,none,.bin .add (.t 13) (.c (j 1))⟩,⟨some 5,none,.mov (.t 14)⟩]
def dBd : ACode := .seq (.seq (.reg dC) (.cond (.t 12) (.skip) (.exit 0))) (.seq (.block 1 (.seq (.reg dK) (.seq (.seq (.reg dQ) (.cond (.t 25) (.reg dZ) (.skip))) (.reg dS)))) (.reg dI))

structure I3 (e : Env) (ns : List (Int × List UInt8 × Int)) (i : Nat) (c3 : D) : Prop where
  h0 : e.get 0 = .fsl (cellsN ns) ns.length
  h3 : e.get 3 = c3
  h4 : e.get 4 = .ptr 0 0
  h5 : e.get 5 = .int .i64 (i : Int)

theorem sd_C {e : Env} {H : Heap} {ns : List (Int × List UInt8 × Int)} {i : Nat} {c3 : D} (h : I3 e ns i c3) :
    ∃ e', runOps G 0 call dC e H = some (e', H) ∧ e'.get 12 = .bool (decide (i < ns.length)) ∧ ∀ t, t < 9 → e'.get t = e.get t := by
  simp [dC, runOps, runOp, wantedA, step, evalA, putO, Env.put_get, h.h5, h.h0, binD, binInt]
  intro t ht
  simp [show t ≠ 9 by omega, show t ≠ 10 by omega, show t ≠ 11 by omega, show t ≠ 12 by omega]

theorem sd_K {e : Env} {H : Heap} {ns : List (Int × List UInt8 × Int)} {i : Nat} {c3 : D} (h : I3 e ns i c3) (hi : i < ns.length) {k : Int} {s : List UInt8} {a : Int} {rest : List D} (hd : (cellsN ns).drop (i * 3) = .int .i64 k :: .str s :: .int .i64 a :: rest) :
    ∃ e', runOps G 0 call dK e H = some (e', H) ∧ e'.get 6 = .int .i64 k ∧ ∀ t, t < 6 → e'.get t = e.get t := by
  simp [dK, runOps, runOp, wantedA, step, evalA, putO, Env.put_get, h.h5, h.h0, hi, hd, cellsAt, loadD]
  intro t ht
  simp [show t ≠ 6 by omega, show t ≠ 15 by omega, show t ≠ 16 by omega, show t ≠ 17 by omega, show t ≠ 18 by omega, show t ≠ 19 by omega]

theorem sd_Q {e : Env} {H : Heap} {k : Int} (h6 : e.get 6 = .int .i64 k) :
    ∃ e', runOps G 0 call dQ e H = some (e', H) ∧ e'.get 25 = .bool (decide (k < 1) || decide (k > 6)) ∧ ∀ t, t < 9 → e'.get t = e.get t := by
  by_cases hk : k < 1
  · simp [dQ, runOps, runOp, wantedA, step, evalA, putO, Env.put_get, h6, binD, binInt, j, hk]
    intro t ht
    simp [show t ≠ 20 by omega, show t ≠ 21 by omega, show t ≠ 22 by omega, show t ≠ 23 by omega, show t ≠ 24 by omega, show t ≠ 25 by omega]
  · simp [dQ, runOps, runOp, wantedA, step, evalA, putO, Env.put_get, h6, binD, binInt, j, hk]
    intro t ht
    simp [show t ≠ 20 by omega, show t ≠ 21 by omega, show t ≠ 22 by omega, show t ≠ 23 by omega, show t ≠ 24 by omega, show t ≠ 25 by omega]

theorem sd_S {e : Env} {c0 c1 c2 c3 c4 c5 c6 : Int} {q : Nat} (h4 : e.get 4 = .ptr 0 0) (h6 : e.get 6 = .int .i64 (q : Int)) (hq : q < 7) :
    ∃ e', runOps G 0 call dS e [.box ([c0, c1, c2, c3, c4, c5, c6].map (D.int .i64))] = some (e', [.box ((bump [c0, c1, c2, c3, c4, c5, c6] q).map (D.int .i64))]) ∧ ∀ t, t < 9 → e'.get t = e.get t := by
  have hc : q = 0 ∨ q = 1 ∨ q = 2 ∨ q = 3 ∨ q = 4 ∨ q = 5 ∨ q = 6 := by omega
  rcases hc with rfl | rfl | rfl | rfl | rfl | rfl | rfl
  all_goals
    simp [dS, runOps, runOp, wantedA, step, evalA, putO, Env.put_get, h4, h6, cellsAt, loadD, binD, binInt, j, storeD, storable, splice, D.cells, D.unders, D.under, D.ones, D.one, bump]
    intro t ht
    simp [show t ≠ 26 by omega, show t ≠ 27 by omega, show t ≠ 28 by omega, show t ≠ 29 by omega, show t ≠ 30 by omega]

theorem sd_I {e : Env} {H : Heap} {i : Nat} (h5 : e.get 5 = .int .i64 (i : Int)) (hi : (i : Int) + 1 ≤ 9223372036854775807) :
    ∃ e', runOps G 0 call dI e H = some (e', H) ∧ e'.get 5 = .int .i64 ((i + 1 : Nat) : Int) ∧ ∀ t, t < 5 → e'.get t = e.get t := by
  have hw : IntKind.i64.wrap ((i : Int) + 1) = (i : Int) + 1 := Go.IntWalk.i64_in _ ⟨by omega, hi⟩
  simp [dI, runOps, runOp, wantedA, step, evalA, putO, Env.put_get, h5, binD, binInt, j, hw]
  intro t ht
  simp [show t ≠ 5 by omega, show t ≠ 13 by omega, show t ≠ 14 by omega]

theorem iter3 {lf : Nat} {e : Env} {C : List Int} (hC : C.length = 7) {pre rem : List (Int × List UInt8 × Int)} {k : Int} {s : List UInt8} {a : Int} {c3 : D} (h : I3 e (pre ++ (k, s, a) :: rem) pre.length c3) (hN : ((pre ++ (k, s, a) :: rem).length : Int) ≤ 9223372036854775807) :
    ∃ e', exec G 0 call lf none dBd ⟨e, [.box (C.map (D.int .i64))], []⟩ = some (.normal, ⟨e', [.box ((bump C (cls k)).map (D.int .i64))], []⟩) ∧ I3 e' (pre ++ (k, s, a) :: rem) (pre.length + 1) c3 := by
  obtain ⟨c0, c1, c2, x3, c4, c5, c6, rfl⟩ : ∃ c0 c1 c2 c3 c4 c5 c6, C = [c0, c1, c2, c3, c4, c5, c6] := by
    rcases C with _ | ⟨c0, _ | ⟨c1, _ | ⟨c2, _ | ⟨c3, _ | ⟨c4, _ | ⟨c5, _ | ⟨c6, _ | ⟨c7, r⟩⟩⟩⟩⟩⟩⟩⟩ <;> simp at hC
    exact ⟨c0, c1, c2, c3, c4, c5, c6, rfl⟩
  have hlt : pre.length < (pre ++ (k, s, a) :: rem).length := by simp
  have hd : (cellsN (pre ++ (k, s, a) :: rem)).drop (pre.length * 3) = .int .i64 k :: .str s :: .int .i64 a :: cellsN rem := by
    rw [cellsN_app, ← cellsN_len, List.drop_left]; rfl
  generalize hns : pre ++ (k, s, a) :: rem = ns at *
  obtain ⟨e1, a1, a2, a3⟩ := sd_C (G := G) (call := call) (H := [.box ([c0, c1, c2, x3, c4, c5, c6].map (D.int .i64))]) h
  have i1 : I3 e1 ns pre.length c3 := ⟨by rw [a3 0 (by omega)]; exact h.h0, by rw [a3 3 (by omega)]; exact h.h3, by rw [a3 4 (by omega)]; exact h.h4, by rw [a3 5 (by omega)]; exact h.h5⟩
  obtain ⟨e2, b1, b2, b3⟩ := sd_K (G := G) (call := call) (H := [.box ([c0, c1, c2, x3, c4, c5, c6].map (D.int .i64))]) i1 hlt hd
  obtain ⟨e3, q1, q2, q3⟩ := sd_Q (G := G) (call := call) (H := [.box ([c0, c1, c2, x3, c4, c5, c6].map (D.int .i64))]) b2
  have main : ∃ e4, exec G 0 call lf none (.cond (.t 25) (.reg dZ) (.skip)) ⟨e3, [.box ([c0, c1, c2, x3, c4, c5, c6].map (D.int .i64))], []⟩ = some (.normal, ⟨e4, [.box ([c0, c1, c2, x3, c4, c5, c6].map (D.int .i64))], []⟩) ∧ e4.get 6 = .int .i64 ((cls k : Nat) : Int) ∧ ∀ t, t < 6 → e4.get t = e3.get t := by
    by_cases hk : k < 1 ∨ k > 6
    · have hb : e3.get 25 = .bool true := by rw [q2]; rcases hk with hk | hk <;> simp [hk]
      have hcl : cls k = 0 := by unfold cls; rcases hk with hk | hk <;> simp [hk]
      refine ⟨e3.put 6 (.int .i64 0), ?_, ?_, fun t ht => ?_⟩
      · simp [exec, evalA, hb, dZ, runOps, runOp, wantedA, step, putO, j]
      · rw [Env.put_get _ _ (by omega), if_pos rfl, hcl]; rfl
      · rw [Env.put_get _ _ (by omega), if_neg (by omega)]
    · have hb : e3.get 25 = .bool false := by rw [q2]; simp; omega
      have hcl : cls k = k.toNat := by unfold cls; rw [if_neg (by omega), if_neg (by omega)]
      refine ⟨e3, ?_, ?_, fun t ht => rfl⟩
      · simp [exec, evalA, hb]
      · rw [q3 6 (by omega), b2, hcl]
        congr 1
        omega
  obtain ⟨e4, m1, m2, m3⟩ := main
  have hcl7 : cls k < 7 := by unfold cls; split; omega; split <;> omega
  have k4 : ∀ t, t < 6 → e4.get t = e.get t := fun t ht => by rw [m3 t ht, q3 t (by omega), b3 t ht, a3 t (by omega)]
  obtain ⟨e5, s1, s2⟩ := sd_S (G := G) (call := call) (c0 := c0) (c1 := c1) (c2 := c2) (c3 := x3) (c4 := c4) (c5 := c5) (c6 := c6) (by rw [k4 4 (by omega)]; exact h.h4) m2 hcl7
  obtain ⟨e6, j1, j2, j3⟩ := sd_I (G := G) (call := call) (e := e5) (H := [.box ((bump [c0, c1, c2, x3, c4, c5, c6] (cls k)).map (D.int .i64))]) (i := pre.length) (by rw [s2 5 (by omega), k4 5 (by omega)]; exact h.h5) (by omega)
  have ha2 : e1.get 12 = .bool true := by rw [a2]; simp [hlt]
  refine ⟨e6, ?_, ?_, ?_, ?_, j2⟩
  · simp only [exec, evalA] at m1
    simp only [dBd, exec, a1, evalA, ha2, if_true, b1, q1]
    rw [m1]
    simp only [s1, j1]
  · rw [j3 0 (by omega), s2 0 (by omega), k4 0 (by omega)]; exact h.h0
  · rw [j3 3 (by omega), s2 3 (by omega), k4 3 (by omega)]; exact h.h3
  · rw [j3 4 (by omega), s2 4 (by omega), k4 4 (by omega)]; exact h.h4

theorem stop3 {lf : Nat} {e : Env} {H : Heap} {ns : List (Int × List UInt8 × Int)} {c3 : D} (h : I3 e ns ns.length c3) : ∃ e', exec G 0 call lf none dBd ⟨e, H, []⟩ = some (.exit 0, ⟨e', H, []⟩) ∧ ∀ t, t < 9 → e'.get t = e.get t := by
  obtain ⟨e1, a1, a2, a3⟩ := sd_C (G := G) (call := call) (H := H) h
  have ha2 : e1.get 12 = .bool false := by rw [a2]; simp
  refine ⟨e1, ?_, a3⟩
  simp only [dBd, exec, a1, evalA, ha2, Bool.false_eq_true, if_false]

theorem loop3 {lf : Nat} {c3 : D} : ∀ (rem pre : List (Int × List UInt8 × Int)) (C : List Int) (e : Env) (fuel : Nat), rem.length < fuel → C.length = 7 → I3 e (pre ++ rem) pre.length c3 → ((pre ++ rem).length : Int) ≤ 9223372036854775807 →
    ∃ e', loopN (exec G 0 call lf none dBd) fuel ⟨e, [.box (C.map (D.int .i64))], []⟩ = some (.exit 0, ⟨e', [.box ((tally C rem).map (D.int .i64))], []⟩) ∧ e'.get 3 = c3 ∧ e'.get 4 = .ptr 0 0 := by
  intro rem
  induction rem with
  | nil =>
    intro pre C e fuel hf hC h hN
    obtain ⟨f, rfl⟩ : ∃ f, fuel = f + 1 := ⟨fuel - 1, by simp at hf; omega⟩
    rw [List.append_nil] at h
    obtain ⟨e', h1, h2⟩ := stop3 (G := G) (call := call) (lf := lf) (H := [.box (C.map (D.int .i64))]) h
    refine ⟨e', ?_, ?_, ?_⟩
    · rw [loopN, h1]; rfl
    · rw [h2 3 (by omega)]; exact h.h3
    · rw [h2 4 (by omega)]; exact h.h4
  | cons x rem ih =>
    intro pre C e fuel hf hC h hN
    obtain ⟨k, s, a⟩ := x
    obtain ⟨f, rfl⟩ : ∃ f, fuel = f + 1 := ⟨fuel - 1, by simp at hf; omega⟩
    obtain ⟨e1, h1, h2⟩ := iter3 (G := G) (call := call) (lf := lf) hC h hN
    have e2 : pre ++ (k, s, a) :: rem = (pre ++ [(k, s, a)]) ++ rem := by simp
    rw [e2] at h2 hN
    have e3 : (pre ++ [(k, s, a)]).length = pre.length + 1 := by simp
    rw [← e3] at h2
    obtain ⟨e', g1, g2, g3⟩ := ih (pre ++ [(k, s, a)]) (bump C (cls k)) e1 f (by simp at hf; omega) (by rw [bump_len, hC]) h2 hN
    refine ⟨e', ?_, g2, g3⟩
    rw [loopN, h1]
    exact g1

def uA : List AOper := [⟨some 2,none,.mov (.c (.bool false))⟩]
def uB : List AOper := [⟨some 7,none,.mov (.t 0)⟩,⟨some 8,none,.call (.c (.func 4 [] [])) [.t 7]⟩,⟨some 3,none,.hole 7⟩,⟨some 3,none,.fill 7 ⟨.t 8, none⟩⟩]
def uC : List AOper := [⟨some 4,none,.allocB (zero7.map (D.int .i64)) []⟩]
def uD : List AOper := [⟨some 5,none,.mov (.c (j 0))⟩]
def uE : List AOper := [⟨some 31,none,.load true 7 (.t 3)⟩,⟨some 32,none,.load true 7 (.t 4)⟩,⟨some 33,none,.eqA false [.i,.i,.i,.i,.i,.i,.i] (.t 31) (.t 32)⟩,⟨some 34,none,.mov (.t 33)⟩,⟨some 35,some (34,true),.call (.c (.func 5 [] [])) []⟩,⟨some 36,none,.pick (.t 34) (.t 35) (.c (.bool false))⟩,⟨some 2,none,.mov (.t 36)⟩]
theorem am3_body : am3.body = .seq (.reg uA) (.seq (.reg uB) (.seq (.reg uC) (.seq (.seq (.reg uD) (.block 0 (.loop dBd))) (.seq (.reg uE) .ret)))) := rfl
theorem am3_res : am3.results = [.tmp 2] := rfl
theorem am3_keep : am3.keep = none := rfl

theorem lint_run {X : Ctx} {k : Nat} {ns : List (Int × List UInt8 × Int)} (hf3 : X.fn 3 = some am3) (hf : X.fn 4 = some am4) (hp3 : X.prims 3 [.fsl (cellsN ns) ns.length] = none) (hp : X.prims 4 [.fsl (cellsN ns) ns.length] = none) (hp5 : X.prims 5 [] = some (.bool true))
    (hk : ns.length < k) (hN : (ns.length : Int) ≤ 9223372036854775807) : callN X (k + 2) (.func 3 [] []) [.fsl (cellsN ns) ns.length] [] = some (.bool true, []) := by
  have hcr := counts_run hf hp hk hN
  obtain ⟨c0, c1, c2, c3, c4, c5, c6, hc⟩ : ∃ c0 c1 c2 c3 c4 c5 c6, tally zero7 ns = [c0, c1, c2, c3, c4, c5, c6] := by
    have hC := tally_len ns zero7
    rcases hh : tally zero7 ns with _ | ⟨c0, _ | ⟨c1, _ | ⟨c2, _ | ⟨c3, _ | ⟨c4, _ | ⟨c5, _ | ⟨c6, _ | ⟨c7, r⟩⟩⟩⟩⟩⟩⟩⟩ <;> rw [hh] at hC <;> simp [zero7] at hC
    exact ⟨c0, c1, c2, c3, c4, c5, c6, rfl⟩
  rw [hc] at hcr
  generalize hF : D.fsl (cellsN ns) ns.length = F at *
  have hal : ∀ H : Heap, callN X (k + 1) (.func 5 [] []) [] H = some (.bool true, H) := fun H => by
    show (match X.prims 5 ([] ++ [] ++ []) with
      | some d => some (d, H)
      | none => _) = _
    simp only [List.append_nil, hp5]
  have rA : runOps X.G 0 (callN X (k + 1)) uA (Env.nil.ofArgs 0 [F]) [] = some ((Env.nil.ofArgs 0 [F]).put 2 (.bool false), []) := by
    simp [uA, runOps, runOp, wantedA, step, evalA, putO]
  generalize he0 : (Env.nil.ofArgs 0 [F]).put 2 (.bool false) = e0 at rA
  have a0 : e0.get 0 = F := by subst he0; rw [Env.put_get _ _ (by omega), if_neg (by omega)]; rfl
  have hFn : F ≠ .undef := by rw [← hF]; simp
  have rB : ∃ e1, runOps X.G 0 (callN X (k + 1)) uB e0 [] = some (e1, []) ∧ e1.get 0 = F ∧ e1.get 3 = .fptr ([c0, c1, c2, c3, c4, c5, c6].map (D.int .i64)) := by
    simp [uB, runOps, runOp, wantedA, step, evalA, evalAs, putO, Env.put_get, a0, ← hF]
    rw [hF, hcr]
    simp [D.cells, D.unders, D.under, D.ones, D.one, Env.put_get, a0, hF]
  obtain ⟨e1, rB, b0, b3⟩ := rB
  have rC : runOps X.G 0 (callN X (k + 1)) uC e1 [] = some (e1.put 4 (.ptr 0 0), [.box (zero7.map (D.int .i64))]) := by
    simp [uC, runOps, runOp, wantedA, step, putO, reserve]
  have rD : runOps X.G 0 (callN X (k + 1)) uD (e1.put 4 (.ptr 0 0)) [.box (zero7.map (D.int .i64))] = some ((e1.put 4 (.ptr 0 0)).put 5 (.int .i64 0), [.box (zero7.map (D.int .i64))]) := by
    simp [uD, runOps, runOp, wantedA, step, evalA, putO, j]
  have hI : I3 ((e1.put 4 (.ptr 0 0)).put 5 (.int .i64 0)) ns 0 (.fptr ([c0, c1, c2, c3, c4, c5, c6].map (D.int .i64))) :=
    ⟨by simp [Env.put_get, b0, hF], by simp [Env.put_get, b3], by simp [Env.put_get], by simp [Env.put_get]⟩
  obtain ⟨e3, l1, l3, l4⟩ := loop3 (G := X.G) (call := callN X (k + 1)) (lf := k + 1) ns [] zero7 _ (k + 1) (by omega) rfl hI hN
  rw [hc] at l1
  have rE : ∃ e5, runOps X.G 0 (callN X (k + 1)) uE e3 [.box ([c0, c1, c2, c3, c4, c5, c6].map (D.int .i64))] = some (e5, [.box ([c0, c1, c2, c3, c4, c5, c6].map (D.int .i64))]) ∧ e5.get 2 = .bool true := by
    simp [uE, runOps, runOp, wantedA, step, evalA, evalAs, putO, Env.put_get, l3, l4, cellsAt, loadD, eqKs, eqK, hal]
  obtain ⟨e5, rE, e52⟩ := rE
  have hex : exec X.G 0 (callN X (k + 1)) (k + 1) none am3.body ⟨Env.nil.ofArgs 0 [F], [], []⟩ = some (.ret, ⟨e5, [.box ([c0, c1, c2, c3, c4, c5, c6].map (D.int .i64))], []⟩) := by
    rw [am3_body]
    simp only [exec, rA, rB, rC, rD]
    rw [show loopN (exec X.G 0 (callN X (k + 1)) (k + 1) none dBd) (k + 1) ⟨(e1.put 4 (.ptr 0 0)).put 5 (.int .i64 0), [.box (zero7.map (D.int .i64))], []⟩ = _ from l1]
    simp only [if_true, rE]
  show (match X.prims 3 ([] ++ [F] ++ []) with
    | some d => some (d, [])
    | none => match X.fn 3 with
      | none => none
      | some fn => if Nat.blt ([] ++ [F] ++ []).length 65535 then
        match exec X.G 0 (callN X (k + 1)) (k + 1) none fn.body ⟨Env.nil.ofArgs 0 ([] ++ [F] ++ []), [], []⟩ with
        | some (.normal, s) => finish fn 0 s
        | some (.ret, s) => finish fn 0 s
        | _ => none
        else none) = _
  simp only [List.nil_append, List.append_nil, hp3, hf3, hex]
  rw [if_pos (show [F].length.blt 65535 = true from rfl)]
  simp [finish, takesA, readRes, am3_res, am3_keep, finishP, e52, mapO, fz, pack, D.unders, D.under]
end
end Go.AM.T
