/- What an argument holds. -/
import Derived.Test.YtjcnlakifipmgaaGreatDoorProg
import Derived.Test.YtjcnlakifipmgaaGreatDoorAmI
import Derived.Test.YtjcnlakifipmgaaGreatDoorAmK
import Derived.WalkKit
import Derived.ProofKit
import Derived.OpenShut
import Derived.ChangeMaps5
import Derived.Deep.Slices
import Derived.Carry
import Derived.Deep.DeepHandedRow
import Derived.Test.YtjcnlakifipmgaaGreatDoorSpec
import Derived.KernelRfl
import Derived.Test.YtjcnlakifipmgaaGreatDoorWalkH
set_option linter.unusedVariables false
set_option linter.unusedSimpArgs false
set_option linter.unnecessarySimpa false
set_option maxRecDepth 100000
/- What an argument holds: slices opened, of any elements. -/
namespace Go.AM
open Go Go.Proofs Go.Deep
theorem FRs.append : ∀ {a b : List D} {Φ : Fz} {cur : Array Value} {o : Nat}, FRs a Φ cur o → FRs b Φ cur (o + a.length) → FRs (a ++ b) Φ cur o
  | [], b, _, _, _, _, h => by simpa using h
  | d :: a, b, _, _, o, h, h' => by
    simp only [FRs] at h
    simp only [List.cons_append, FRs]
    refine ⟨h.1, FRs.append h.2 ?_⟩
    rw [show o + 1 + a.length = o + (d :: a).length by simp; omega]; exact h'
theorem VRs.len : ∀ {ds : List D} {β : Bk} {Φ : Fz} {vs : List Value}, VRs ds β Φ vs → vs.length = ds.length
  | [], _, _, _, h => by simp only [VRs] at h; subst h; rfl
  | d :: ds, _, _, _, h => by
    simp only [VRs] at h
    obtain ⟨v, r, rfl, _, h⟩ := h
    simp [VRs.len h]
theorem VRs.app : ∀ {a b : List D} {β : Bk} {Φ : Fz} {us vs : List Value}, VRs a β Φ us → VRs b β Φ vs → VRs (a ++ b) β Φ (us ++ vs)
  | [], _, _, _, _, _, h, h' => by simp only [VRs] at h; subst h; exact h'
  | d :: a, _, _, _, _, _, h, h' => by
    simp only [VRs] at h
    obtain ⟨v, r, rfl, h1, h2⟩ := h
    simp only [List.cons_append, VRs]
    exact ⟨v, _, rfl, h1, VRs.app h2 h'⟩
theorem frs_flat {α : Type} {cells : α → List D} {k : Nat} {Φ : Fz} {cur : Array Value} : ∀ (l : List α) (o : Nat), (∀ (i : Nat) y, l[i]? = some y → (cells y).length = k ∧ FRs (cells y) Φ cur (o + i * k)) → FRs (l.flatMap cells) Φ cur o
  | [], o, h => by simp [FRs]
  | y :: l, o, h => by
    obtain ⟨h1, h2⟩ := h 0 y rfl
    simp only [List.flatMap_cons]
    refine FRs.append (by simpa using h2) (frs_flat (k := k) l _ fun i z hz => ?_)
    obtain ⟨g1, g2⟩ := h (i + 1) z (by simpa using hz)
    refine ⟨g1, ?_⟩
    rw [h1, show o + k + i * k = o + (i + 1) * k by rw [Nat.add_mul]; omega]
    exact g2
section
variable {H : Type} {enc : TypeId × Value → H} {P : Program} {W : World} {spare : Nat → Bool} {held : Bool}
theorem open_sl {α : Type} [Inhabited α] (cells : α → List D) (Q : α → Prop) {t te : TypeId} {k fuel : Nat} {cs : List Value} {x : DataW H × List MemPlace} (ht : P.underlying t = some (.slice te)) (hk : P.cellsOf te = k) (hk0 : 0 < k)
    (hel : ∀ n cs' x, n < fuel → DataW.trod enc P W 0 spare held n te cs' = some x → ∃ y, Q y ∧ VRs (cells y) Bk.none (Fz.all W) cs' ∧ D.unders 0 (cells y) = true)
    (hf : DataW.trod enc P W 0 spare held fuel t cs = some x) :
    ∃ (f : Nl) (l : List α) (v : Value), cs = [v] ∧ VR (SL f (l.flatMap cells) l.length) Bk.none (Fz.all W) v ∧ (∀ y ∈ l, Q y) ∧ (l.length : Int) ≤ 9223372036854775807 ∧ f ≠ .emp := by
  rcases DataW.trod_slice ht hf with ⟨rfl, _⟩ | ⟨a, len, cap, elems, rest, n, rfl, rfl, _, _, hl, hm, hlen, he, _, _⟩
  · exact ⟨.nil, [], _, rfl, by simp [SL, VR], by simp, by simp, by simp⟩
  · have each : ∀ i, i < len → ∃ y : α, Q y ∧ D.unders 0 (cells y) = true ∧ (cells y).length = k ∧ ∃ cs' : List Value, VRs (cells y) Bk.none (Fz.all W) cs' ∧ ∀ j, j < k → W.cell? ((a.add (i * k)).add j) = cs'[j]? := by
      intro i hi
      have h1 := he i hi
      rw [List.getElem?_eq_getElem (by omega)] at h1
      obtain ⟨cs', g1, g2⟩ := Option.bind_eq_some_iff.1 h1
      obtain ⟨_, q1, q2⟩ := World.cells?_some g1
      obtain ⟨y, r1, r2, r3⟩ := hel n cs' _ (Nat.lt_succ_self n) g2
      rw [hk] at q1 q2
      exact ⟨y, r1, r3, by rw [← VRs.len r2]; exact q1, cs', r2, q2⟩
    obtain ⟨f, hf'⟩ := choose_lt each
    refine ⟨.full, (List.range len).map f, _, rfl, ?_, ?_, by simp; unfold maxLen at hm; omega, by simp⟩
    · have key : VR (.fsl (((List.range len).map f).flatMap cells) len) Bk.none (Fz.all W) (.slice (some a) len cap) := by
        simp only [VR]
        refine ⟨a, cap, hl, rfl, ?_⟩
        by_cases h0 : len = 0
        · left; subst h0; rfl
        · right
          obtain ⟨b, off, spot⟩ := a
          obtain ⟨_, _, c1, cs', c2, c3⟩ := hf' 0 (by omega)
          have c0 := c3 0 hk0
          rw [List.getElem?_eq_getElem (by rw [VRs.len c2, c1]; exact hk0)] at c0
          have hspot : spot = none := by simpa [Addr.add] using World.cell?_spot c0
          subst hspot
          cases hh : W.heap[b]? with
          | none => simp [Addr.add, World.cell?, hh] at c0
          | some o =>
            cases o with
            | cells cur e fr =>
              refine ⟨cur, e, fr, hh, rfl, frs_flat (k := k) _ _ fun i y hy => ?_⟩
              have hi : i < len := by
                have := (List.getElem?_eq_some_iff.1 hy).1
                simpa using this
              have hy' : y = f i := by
                rw [List.getElem?_map, List.getElem?_range hi] at hy
                simpa using hy.symm
              subst hy'
              obtain ⟨_, d0, d1, cs2, d2, d3⟩ := hf' i hi
              refine ⟨d1, FRs_of_VRs d2 d0 fun j u hu => ?_⟩
              have hj : j < k := by
                have := (List.getElem?_eq_some_iff.1 hu).1
                rw [VRs.len d2, d1] at this
                exact this
              have d4 := d3 j hj
              have hadd : ((⟨b, off, none⟩ : Addr).add (i * k)).add j = ⟨b, off + i * k + j, none⟩ := by
                by_cases h1 : i * k = 0
                · by_cases h2 : j = 0
                  · simp [Addr.add, h1, h2]
                  · simp [Addr.add, h1, h2]
                · by_cases h2 : j = 0
                  · simp [Addr.add, h1, h2]
                  · simp [Addr.add, h1, h2]
              rw [hadd, hu] at d4
              simp only [World.cell?, hh] at d4
              simpa using d4
            | _ => simp [Addr.add, World.cell?, hh] at c0
      have : ((List.range len).map f).length = len := by simp
      rw [this]
      cases hl0 : len with
      | zero => rw [hl0] at key; exact key
      | succ m => rw [hl0] at key; exact key
    · intro y hy
      obtain ⟨i, hi, rfl⟩ := List.mem_map.1 hy
      exact (hf' i (List.mem_range.1 hi)).1
end
end Go.AM
/- What an argument holds: a code. -/
namespace Go.AM.T
open Go Go.AM Go.Proofs Go.Deep
section
variable {H : Type} {enc : TypeId × Value → H} {W : World} {spare : Nat → Bool} {held : Bool}
theorem cells3 : Tryz.prog.cellsOf 3 = 1 := by kernel_rfl
theorem cells4 : Tryz.prog.cellsOf 4 = 1 := by kernel_rfl
theorem cells9 : Tryz.prog.cellsOf 9 = 1 := by kernel_rfl
theorem cells82 : Tryz.prog.cellsOf 82 = 1 := by kernel_rfl
theorem cells22 : Tryz.prog.cellsOf 22 = 1 := by kernel_rfl
theorem cells23 : Tryz.prog.cellsOf 23 = 1 := by kernel_rfl
theorem cells34 : Tryz.prog.cellsOf 34 = 1 := by kernel_rfl
theorem cells37 : Tryz.prog.cellsOf 37 = 1 := by kernel_rfl
theorem cells32 : Tryz.prog.cellsOf 32 = 3 := by kernel_rfl
theorem cells36 : Tryz.prog.cellsOf 36 = 3 := by kernel_rfl
theorem cells39 : Tryz.prog.cellsOf 39 = 7 := by kernel_rfl
theorem cells25 : Tryz.prog.cellsOf 25 = 2 := by kernel_rfl
instance : Inhabited Instr := ⟨.mk 0 0 0⟩
instance : Inhabited Val := ⟨.mk 0 (.mk false .nil [] 0) [] .nil [] .nil []⟩
theorem flat_instr : ∀ l : List Instr, l.flatMap Instr.cells = Instr.cellsL l
  | [] => rfl
  | x :: r => by rw [List.flatMap_cons, flat_instr r]; rfl
theorem flat_val : ∀ l : List Val, l.flatMap Val.cells = Val.cellsL l
  | [] => rfl
  | x :: r => by rw [List.flatMap_cons, flat_val r]; rfl
theorem flat_one {α : Type} (g : α → D) (l : List α) : l.flatMap (fun y => [g y]) = l.map g := by
  induction l with
  | nil => rfl
  | cons x r ih => simp [ih]
theorem list3 {α : Type} {l : List α} (h : l.length = 3) : ∃ a b c, l = [a, b, c] := by
  match l, h with
  | [a, b, c], _ => exact ⟨a, b, c, rfl⟩
theorem open_instr {n : Nat} {cs : List Value} {x : DataW H × List MemPlace} (h : DataW.trod enc Tryz.prog W 0 spare held n 32 cs = some x) :
    ∃ y : Instr, True ∧ VRs y.cells Bk.none (Fz.all W) cs ∧ D.unders 0 y.cells = true := by
  obtain ⟨xs, k, _, _, hl, hxl, hfs⟩ := DataW.trod_struct Tryz.underlying32 h
  rw [cells32] at hl
  obtain ⟨v0, v1, v2, rfl⟩ := list3 hl
  obtain ⟨x0, x1, x2, rfl⟩ := list3 hxl
  have g0 := hfs 0 _ rfl
  have g1 := hfs 1 _ rfl
  have g2 := hfs 2 _ rfl
  simp [cells3] at g0 g1 g2
  obtain ⟨z0, q0, _, _⟩ := DataW.trod_int Tryz.underlying3 g0
  obtain ⟨z1, q1, _, _⟩ := DataW.trod_int Tryz.underlying3 g1
  obtain ⟨z2, q2, _, _⟩ := DataW.trod_int Tryz.underlying3 g2
  simp at q0 q1 q2
  subst q0 q1 q2
  exact ⟨.mk z0 z1 z2, trivial, by rw [Instr.cells_eq]; simp [VRs, VR, Instr.op, Instr.a, Instr.b], Instr.unders _ _⟩
theorem u32_rng {n : Int} (h : (Lit.int .u32 n).wf = true) : 0 ≤ n ∧ n < 4294967296 := by
  simp [Lit.wf] at h
  have h1 : IntKind.u32.min = 0 := by decide
  have h2 : IntKind.u32.max = 4294967295 := by decide
  rw [h1, h2] at h
  omega
theorem open_dec {n : Nat} {cs : List Value} {x : DataW H × List MemPlace} (h : DataW.trod enc Tryz.prog W 0 spare held n 36 cs = some x) :
    ∃ y : Dec, (y.wf ∧ y.coefF ≠ .emp) ∧ VRs y.cells Bk.none (Fz.all W) cs := by
  obtain ⟨xs, k, _, _, hl, hxl, hfs⟩ := DataW.trod_struct Tryz.underlying36 h
  rw [cells36] at hl
  obtain ⟨v0, v1, v2, rfl⟩ := list3 hl
  obtain ⟨x0, x1, x2, rfl⟩ := list3 hxl
  have g0 := hfs 0 _ rfl
  have g1 := hfs 1 _ rfl
  have g2 := hfs 2 _ rfl
  simp [cells3, cells4, cells34] at g0 g1 g2
  obtain ⟨z0, q0, _⟩ := DataW.trod_bool Tryz.underlying4 g0
  obtain ⟨f, l, v, q1, r1, r2, r3, r4⟩ := open_sl (fun y : Int => [D.int .u32 y]) (fun y => 0 ≤ y ∧ y < 4294967296) Tryz.underlying34 cells82 (by omega) (fun n cs' x _ hx => by
    obtain ⟨z, q, _, qw⟩ := DataW.trod_int Tryz.underlying82 hx
    subst q
    exact ⟨z, u32_rng qw, by simp [VRs, VR], by simp [D.unders, D.under]⟩) g1
  obtain ⟨z2, q2, _, _⟩ := DataW.trod_int Tryz.underlying3 g2
  simp at q0 q1 q2
  subst q0 q1 q2
  rw [flat_one] at r1
  refine ⟨.mk z0 f l z2, ⟨⟨r2, r3⟩, r4⟩, ?_⟩
  rw [Dec.cells_eq]
  simp only [Dec.neg, Dec.coefF, Dec.coef, Dec.exp, List.cons_append, List.nil_append, VRs]
  exact ⟨_, _, rfl, by simp [VR], _, _, rfl, r1, _, _, rfl, by simp [VR], rfl⟩
theorem list7 {α : Type} {l : List α} (h : l.length = 7) : ∃ a b c d e f g, l = [a, b, c, d, e, f, g] := by
  match l, h with
  | [a, b, c, d, e, f, g], _ => exact ⟨a, b, c, d, e, f, g, rfl⟩
theorem list5 {α : Type} {l : List α} (h : l.length = 5) : ∃ a b c d e, l = [a, b, c, d, e] := by
  match l, h with
  | [a, b, c, d, e], _ => exact ⟨a, b, c, d, e, rfl⟩
theorem open_val : ∀ (n : Nat) (cs : List Value) (x : DataW H × List MemPlace), DataW.trod enc Tryz.prog W 0 spare held n 39 cs = some x →
    ∃ y : Val, (y.wf ∧ nE y) ∧ VRs y.cells Bk.none (Fz.all W) cs ∧ D.unders 0 y.cells = true := by
  intro n
  induction n using Nat.strongRecOn with
  | ind n ih =>
    intro cs x h
    obtain ⟨xs, k, hk, _, hl, hxl, hfs⟩ := DataW.trod_struct Tryz.underlying39 h
    rw [cells39] at hl
    obtain ⟨v0, v1, v2, v3, v4, v5, v6, rfl⟩ := list7 hl
    obtain ⟨x0, x1, x2, x3, x4, rfl⟩ := list5 hxl
    have g0 := hfs 0 _ rfl
    have g1 := hfs 1 _ rfl
    have g2 := hfs 2 _ rfl
    have g3 := hfs 3 _ rfl
    have g4 := hfs 4 _ rfl
    simp [cells3, cells9, cells23, cells36, cells37] at g0 g1 g2 g3 g4
    obtain ⟨z0, q0, _, _⟩ := DataW.trod_int Tryz.underlying3 g0
    obtain ⟨dn, ⟨dw, dw2⟩, dv⟩ := open_dec g1
    obtain ⟨z2, q2, _, w2⟩ := DataW.trod_string Tryz.underlying9 g2
    obtain ⟨lf, l, v, q3, r1, r2, r3, r4⟩ := open_sl Val.cells (fun v => v.wf ∧ nE v) Tryz.underlying23 cells39 (by omega) (fun m cs' x hm hx => ih m (by omega) cs' x hx) g3
    obtain ⟨kf, ks, v', q4, s1, s2, s3, s4⟩ := open_sl (fun y : List UInt8 => [D.str y]) (fun y => (y.length : Int) ≤ 9223372036854775807) Tryz.underlying37 cells9 (by omega) (fun n cs' x _ hx => by
      obtain ⟨z, q, _, qw⟩ := DataW.trod_string Tryz.underlying9 hx
      subst q
      refine ⟨z.data.toList, ?_, by simp [VRs, VR], by simp [D.unders, D.under]⟩
      unfold maxLen at qw
      have : z.data.toList.length = z.size := by rw [Array.length_toList]; rfl
      omega) g4
    simp at q0 q2 q3 q4
    subst q0 q2 q3 q4
    rw [flat_one] at s1
    rw [flat_val] at r1
    refine ⟨.mk z0 dn z2.data.toList lf l kf ks, ⟨⟨dw, ?_, r3, s3, s2, Val.wfL_iff.2 fun v hv => (r2 v hv).1⟩, dw2, r4, s4, nEL_iff.2 fun v hv => (r2 v hv).2⟩, ?_, Val.unders _ _⟩
    · unfold maxLen at w2
      have : z2.data.toList.length = z2.size := by rw [Array.length_toList]; rfl
      omega
    · have e0 : VRs [D.int .i64 z0] Bk.none (Fz.all W) [.int .i64 z0] := by simp [VRs, VR]
      have e2 : VRs [D.str z2.data.toList] Bk.none (Fz.all W) [.string z2] := by simp [VRs, VR]
      have e3 : VRs [SL lf (Val.cellsL l) l.length] Bk.none (Fz.all W) [v5] := ⟨_, _, rfl, r1, rfl⟩
      have e4 : VRs [SL kf (ks.map D.str) ks.length] Bk.none (Fz.all W) [v6] := ⟨_, _, rfl, s1, rfl⟩
      have := ((((e0.app dv).app e2).app e3).app e4)
      simpa only [Val.cells, List.cons_append, List.nil_append, List.append_assoc] using this
theorem list2 {α : Type} {l : List α} (h : l.length = 2) : ∃ a b, l = [a, b] := by
  match l, h with
  | [a, b], _ => exact ⟨a, b, rfl⟩
theorem open_code {n : Nat} {cs : List Value} {x : DataW H × List MemPlace} (h : DataW.trod enc Tryz.prog W 0 spare held n 25 cs = some x) :
    ∃ y : Code, (((y.instrs.length : Int) ≤ 9223372036854775807 ∧ (y.consts.length : Int) ≤ 9223372036854775807 ∧ ∀ x ∈ y.consts, x.wf) ∧ y.instrsF ≠ .emp ∧ y.constsF ≠ .emp ∧ ∀ x ∈ y.consts, nE x) ∧ VRs y.cells Bk.none (Fz.all W) cs := by
  obtain ⟨xs, k, _, _, hl, hxl, hfs⟩ := DataW.trod_struct Tryz.underlying25 h
  rw [cells25] at hl
  obtain ⟨v0, v1, rfl⟩ := list2 hl
  obtain ⟨x0, x1, rfl⟩ := list2 hxl
  have g0 := hfs 0 _ rfl
  have g1 := hfs 1 _ rfl
  simp [cells22, cells23] at g0 g1
  obtain ⟨lf, l, v, q0, r1, r2, r3, r4⟩ := open_sl Instr.cells (fun _ => True) Tryz.underlying22 cells32 (by omega) (fun m cs' x hm hx => open_instr hx) g0
  obtain ⟨kf, ks, v', q1, s1, s2, s3, s4⟩ := open_sl Val.cells (fun v => v.wf ∧ nE v) Tryz.underlying23 cells39 (by omega) (fun m cs' x hm hx => open_val m cs' x hx) g1
  simp at q0 q1
  subst q0 q1
  rw [flat_instr] at r1
  rw [flat_val] at s1
  refine ⟨.mk lf l kf ks, ⟨⟨r3, s3, fun v hv => (s2 v hv).1⟩, r4, s4, fun v hv => (s2 v hv).2⟩, ?_⟩
  rw [Code.cells_eq]
  exact ⟨_, _, rfl, r1, _, _, rfl, s1, rfl⟩
end
end Go.AM.T
/- What an argument holds: a core. -/
namespace Go.AM.T
open Go Go.AM Go.Proofs Go.Deep
section
variable {H : Type} {enc : TypeId × Value → H} {W : World} {spare : Nat → Bool} {held : Bool}
theorem cells54 : Tryz.prog.cellsOf 54 = 1 := by kernel_rfl
theorem cells56 : Tryz.prog.cellsOf 56 = 12 := by kernel_rfl
instance : Inhabited Core := ⟨.mk 0 0 0 [] (.mk 0 (.mk false .nil [] 0) [] .nil [] .nil []) .nil []⟩
theorem flat_core : ∀ l : List Core, l.flatMap Core.cells = Core.cellsL l
  | [] => rfl
  | x :: r => by rw [List.flatMap_cons, flat_core r]; rfl
theorem list12 {α : Type} {l : List α} (h : l.length = 12) : ∃ a b c d e f g h i j k m, l = [a, b, c, d, e, f, g, h, i, j, k, m] := by
  match l, h with
  | [a, b, c, d, e, f, g, h, i, j, k, m], _ => exact ⟨a, b, c, d, e, f, g, h, i, j, k, m, rfl⟩
theorem list6 {α : Type} {l : List α} (h : l.length = 6) : ∃ a b c d e f, l = [a, b, c, d, e, f] := by
  match l, h with
  | [a, b, c, d, e, f], _ => exact ⟨a, b, c, d, e, f, rfl⟩
theorem open_core : ∀ (n : Nat) (cs : List Value) (x : DataW H × List MemPlace), DataW.trod enc Tryz.prog W 0 spare held n 56 cs = some x →
    ∃ y : Core, Core.wf y ∧ VRs y.cells Bk.none (Fz.all W) cs ∧ D.unders 0 y.cells = true := by
  intro n
  induction n using Nat.strongRecOn with
  | ind n ih =>
    intro cs x h
    obtain ⟨xs, k, hk, _, hl, hxl, hfs⟩ := DataW.trod_struct Tryz.underlying56 h
    rw [cells56] at hl
    obtain ⟨v0, v1, v2, v3, v4, v5, v6, v7, v8, v9, v10, v11, rfl⟩ := list12 hl
    obtain ⟨x0, x1, x2, x3, x4, x5, rfl⟩ := list6 hxl
    have g0 := hfs 0 _ rfl
    have g1 := hfs 1 _ rfl
    have g2 := hfs 2 _ rfl
    have g3 := hfs 3 _ rfl
    have g4 := hfs 4 _ rfl
    have g5 := hfs 5 _ rfl
    simp [cells3, cells9, cells39, cells54] at g0 g1 g2 g3 g4 g5
    obtain ⟨z0, q0, _, _⟩ := DataW.trod_int Tryz.underlying3 g0
    obtain ⟨z1, q1, _, _⟩ := DataW.trod_int Tryz.underlying3 g1
    obtain ⟨z2, q2, _, _⟩ := DataW.trod_int Tryz.underlying3 g2
    obtain ⟨z3, q3, _, w3⟩ := DataW.trod_string Tryz.underlying9 g3
    obtain ⟨vn, ⟨vw, _⟩, vv, _⟩ := open_val _ _ _ g4
    obtain ⟨lf, l, v, q5, r1, r2, r3, r4⟩ := open_sl Core.cells Core.wf Tryz.underlying54 cells56 (by omega) (fun m cs' x hm hx => ih m (by omega) cs' x hx) g5
    simp at q0 q1 q2 q3 q5
    subst q0 q1 q2 q3 q5
    rw [flat_core] at r1
    refine ⟨.mk z0 z1 z2 z3.data.toList vn lf l, Core.wf_iff.2 ⟨vw, ?_, r3, r2⟩, ?_, Core.unders _ _⟩
    · show ((z3.data.toList.length : Nat) : Int) ≤ _
      unfold maxLen at w3
      have : z3.data.toList.length = z3.size := by rw [Array.length_toList]; rfl
      omega
    · have e0 : VRs [D.int .i64 z0] Bk.none (Fz.all W) [.int .i64 z0] := by simp [VRs, VR]
      have e1 : VRs [D.int .i64 z1] Bk.none (Fz.all W) [.int .i64 z1] := by simp [VRs, VR]
      have e2 : VRs [D.int .i64 z2] Bk.none (Fz.all W) [.int .i64 z2] := by simp [VRs, VR]
      have e3 : VRs [D.str z3.data.toList] Bk.none (Fz.all W) [.string z3] := by simp [VRs, VR]
      have e5 : VRs [SL lf (Core.cellsL l) l.length] Bk.none (Fz.all W) [v11] := ⟨_, _, rfl, r1, rfl⟩
      have := (((((e0.app e1).app e2).app e3).app vv).app e5)
      simpa only [Core.cells, List.cons_append, List.nil_append, List.append_assoc] using this
end
end Go.AM.T
