/- Slices that are read; rows of the heap; the program's structs. -/
import Derived.Test.YtjcnlakifipmgaaGreatDoorAmJ
set_option linter.unusedVariables false
set_option linter.unusedSimpArgs false
set_option linter.unnecessarySimpa false
set_option maxRecDepth 100000
/- Slices that are read; short forms of steps; lists of structs. -/
namespace Go.AM
section
variable {G : Nat → Option (List D)} {b : Nat} {c : Cl} {e : Env} {H : Heap}

/-- How a slice that has nothing is written. -/
inductive Nl where
  | full | nil | emp
/-- A slice that is read. -/
def SL (f : Nl) (cs : List D) (n : Nat) : D := match n with
  | 0 => match f with
    | .nil => .nilsl
    | .emp => .esl
    | .full => .fsl cs 0
  | n + 1 => .fsl cs (n + 1)
theorem SL_cases (f : Nl) (cs : List D) (n : Nat) : (n = 0 ∧ SL f cs n = .nilsl) ∨ (n = 0 ∧ SL f cs n = .esl) ∨ SL f cs n = .fsl cs n := by
  cases n with
  | zero => cases f <;> simp [SL]
  | succ n => simp [SL]
theorem SL_succ {f : Nl} {cs : List D} {n : Nat} : SL f cs (n + 1) = .fsl cs (n + 1) := rfl
theorem SL_pos {f : Nl} {cs : List D} {n : Nat} (h : 0 < n) : SL f cs n = .fsl cs n := by
  cases n with
  | zero => omega
  | succ n => rfl
theorem SL_full {cs : List D} {n : Nat} : SL .full cs n = .fsl cs n := by cases n <;> rfl

def lenK (st : Bool) (d : D) (H : Heap) : Option (D × Heap) := match st, d with
    | true, .str s => some (.int .i64 s.length, H)
    | false, .nilsl => some (.int .i64 0, H)
    | false, .esl => some (.int .i64 0, H)
    | false, .fsl _ n => some (.int .i64 n, H)
    | false, .osl _ _ _ n => some (.int .i64 n, H)
    | _, _ => none
theorem step_len {st : Bool} {x : Arg} : step G b c e H (.len st x) = lenK st (evalA G e x) H := rfl
theorem lenK_str {s : List UInt8} : lenK true (.str s) H = some (.int .i64 s.length, H) := rfl
theorem lenK_nil : lenK false .nilsl H = some (.int .i64 0, H) := rfl
theorem lenK_esl : lenK false .esl H = some (.int .i64 0, H) := rfl
theorem lenK_fsl {cs : List D} {n : Nat} : lenK false (.fsl cs n) H = some (.int .i64 n, H) := rfl
theorem lenK_osl {i h o n : Nat} : lenK false (.osl i h o n) H = some (.int .i64 n, H) := rfl
theorem lenK_SL {f : Nl} {cs : List D} {n : Nat} : lenK false (SL f cs n) H = some (.int .i64 n, H) := by
  rcases SL_cases f cs n with ⟨rfl, h⟩ | ⟨rfl, h⟩ | h <;> rw [h] <;> rfl

def iaddrK (es : Nat) (s i : D) (H : Heap) : Option (D × Heap) := match s, i with
    | .fsl cs n, .int _ j => if 0 ≤ j ∧ j < n then some (.fptr (cs.drop (j.toNat * es)), H) else none
    | .osl id hw off n, .int _ j => if 0 ≤ j ∧ j < n then some (.rptr id hw (off + j.toNat * es), H) else none
    | _, _ => none
theorem step_iaddr {es : Nat} {s i : Arg} : step G b c e H (.iaddr es s i) = iaddrK es (evalA G e s) (evalA G e i) H := rfl
theorem iaddrK_fsl {es n : Nat} {cs : List D} {k : IntKind} {j : Int} : iaddrK es (.fsl cs n) (.int k j) H = if 0 ≤ j ∧ j < n then some (.fptr (cs.drop (j.toNat * es)), H) else none := rfl
theorem iaddrK_osl {es i h o n : Nat} {k : IntKind} {j : Int} : iaddrK es (.osl i h o n) (.int k j) H = if 0 ≤ j ∧ j < n then some (.rptr i h (o + j.toNat * es), H) else none := rfl
theorem iaddrK_SL {es n : Nat} {f : Nl} {cs : List D} {k : IntKind} {j : Int} : iaddrK es (SL f cs n) (.int k j) H = if 0 ≤ j ∧ j < n then some (.fptr (cs.drop (j.toNat * es)), H) else none := by
  rcases SL_cases f cs n with ⟨rfl, h⟩ | ⟨rfl, h⟩ | h
  · rw [h, if_neg (by omega)]; rfl
  · rw [h, if_neg (by omega)]; rfl
  · rw [h]; rfl

theorem under_SL {f : Nl} {cs : List D} {n m : Nat} : (SL f cs n).under m = true := by
  rcases SL_cases f cs n with ⟨rfl, h⟩ | ⟨rfl, h⟩ | h <;> rw [h] <;> rfl
theorem one_SL {f : Nl} {cs : List D} {n : Nat} : (SL f cs n).one = true := by
  rcases SL_cases f cs n with ⟨rfl, h⟩ | ⟨rfl, h⟩ | h <;> rw [h] <;> rfl
theorem cells_SL {f : Nl} {cs : List D} {n : Nat} : (SL f cs n).cells = [SL f cs n] := by
  rcases SL_cases f cs n with ⟨rfl, h⟩ | ⟨rfl, h⟩ | h <;> rw [h] <;> rfl
theorem fz_SL {f : Nl} {cs : List D} {n g m : Nat} : fz H m (g + 1) (SL f cs n) = some (SL f cs n) := by
  rcases SL_cases f cs n with ⟨rfl, h⟩ | ⟨rfl, h⟩ | h <;> rw [h] <;> rfl
theorem elems_SL {es n : Nat} {f : Nl} {cs : List D} (h : cs.length = n * es) : elems H es (SL f cs n) = some (cs, n) := by
  rcases SL_cases f cs n with ⟨rfl, h'⟩ | ⟨rfl, h'⟩ | h'
  · rw [h']; simp at h; subst h; rfl
  · rw [h']; simp at h; subst h; rfl
  · rw [h']; simp [elems, h]
/-! What is known goes on. -/
def okD (d : D) (H : Heap) : Option (D × Heap) := match d with
  | .undef => none
  | d => some (d, H)
theorem okD_bool {x : Bool} : okD (.bool x) H = some ((.bool x), H) := rfl
theorem okD_int {k : IntKind} {n : Int} : okD (.int k n) H = some ((.int k n), H) := rfl
theorem okD_str {s : List UInt8} : okD (.str s) H = some ((.str s), H) := rfl
theorem okD_nilp  : okD .nilp H = some (.nilp, H) := rfl
theorem okD_nilsl  : okD .nilsl H = some (.nilsl, H) := rfl
theorem okD_nilf  : okD .nilf H = some (.nilf, H) := rfl
theorem okD_esl  : okD .esl H = some (.esl, H) := rfl
theorem okD_fptr {cs : List D} : okD (.fptr cs) H = some ((.fptr cs), H) := rfl
theorem okD_fsl {cs : List D} {n : Nat} : okD (.fsl cs n) H = some ((.fsl cs n), H) := rfl
theorem okD_ptr {i o : Nat} : okD (.ptr i o) H = some ((.ptr i o), H) := rfl
theorem okD_rptr {i h o : Nat} : okD (.rptr i h o) H = some ((.rptr i h o), H) := rfl
theorem okD_osl {i h o n : Nat} : okD (.osl i h o n) H = some ((.osl i h o n), H) := rfl
theorem okD_func {f : Nat} {p q : List D} : okD (.func f p q) H = some ((.func f p q), H) := rfl
theorem okD_yield {i : Nat} : okD (.yield i) H = some ((.yield i), H) := rfl
theorem okD_agg {cs : List D} : okD (.agg cs) H = some ((.agg cs), H) := rfl
theorem okD_tup {cs : List D} : okD (.tup cs) H = some ((.tup cs), H) := rfl
theorem okD_sym {s : List UInt8} {l : List (List UInt8)} : okD (.sym s l) H = some ((.sym s l), H) := rfl
theorem okD_mp {i : Nat} : okD (.mp i) H = some ((.mp i), H) := rfl
theorem okD_SL {f : Nl} {cs : List D} {n : Nat} : okD (SL f cs n) H = some (SL f cs n, H) := by
  rcases SL_cases f cs n with ⟨rfl, h⟩ | ⟨rfl, h⟩ | h <;> rw [h] <;> rfl
theorem okD_ite {p : Prop} [Decidable p] {x y : D} : okD (if p then x else y) H = if p then okD x H else okD y H := by split <;> rfl
theorem okD_of {d : D} (h : d ≠ .undef) : okD d H = some (d, H) := by
  unfold okD; split
  · exact absurd rfl h
  · rfl
theorem step_mov {x : Arg} : step G b c e H (.mov x) = okD (evalA G e x) H := rfl
theorem step_pick {q x y : Arg} : step G b c e H (.pick q x y) = match evalA G e q with
    | .bool p => okD (if p then evalA G e x else evalA G e y) H
    | _ => none := rfl
theorem step_load {ag : Bool} {n : Nat} {p : Arg} : step G b c e H (.load ag n p) = match cellsAt H (evalA G e p) with
    | some cs => match loadD ag n cs with
      | some d => okD d H
      | none => none
    | none => none := by
  simp only [step]
  cases cellsAt H (evalA G e p) with
  | none => rfl
  | some cs => cases h : loadD ag n cs with
    | none => simp only [h]
    | some d => simp only [h]; cases d <;> rfl
theorem step_field {ag : Bool} {off n : Nat} {x : Arg} : step G b c e H (.field ag off n x) = match evalA G e x with
    | .agg cs => match loadD ag n (cs.drop off) with
      | some d => okD d H
      | none => none
    | _ => none := by
  simp only [step]
  cases evalA G e x with
  | agg cs => cases h : loadD ag n (cs.drop off) with
    | none => simp only [h]
    | some d => simp only [h]; cases d <;> rfl
  | _ => rfl
theorem step_extract {x : Arg} {i : Nat} : step G b c e H (.extract x i) = match evalA G e x with
    | .tup vs => match vs[i]? with
      | some d => okD d H
      | none => none
    | _ => none := by
  simp only [step]
  cases evalA G e x with
  | tup vs => cases h : vs[i]? with
    | none => simp only [h]
    | some d => simp only [h]; cases d <;> rfl
  | _ => rfl
end
section
variable {H : Heap} {m g : Nat}
theorem one_bool {x : Bool} : D.one (.bool x) = true := rfl
theorem cells_bool {x : Bool} : D.cells (.bool x) = [.bool x] := rfl
theorem under_bool {x : Bool} : D.under m (.bool x) = true := rfl
theorem fz_bool {x : Bool} : fz H m (g + 1) (.bool x) = some (.bool x) := rfl
theorem one_int {k : IntKind} {x : Int} : D.one (.int k x) = true := rfl
theorem cells_int {k : IntKind} {x : Int} : D.cells (.int k x) = [.int k x] := rfl
theorem under_int {k : IntKind} {x : Int} : D.under m (.int k x) = true := rfl
theorem fz_int {k : IntKind} {x : Int} : fz H m (g + 1) (.int k x) = some (.int k x) := rfl
theorem one_str {x : List UInt8} : D.one (.str x) = true := rfl
theorem cells_str {x : List UInt8} : D.cells (.str x) = [.str x] := rfl
theorem under_str {x : List UInt8} : D.under m (.str x) = true := rfl
theorem fz_str {x : List UInt8} : fz H m (g + 1) (.str x) = some (.str x) := rfl
theorem one_nilp  : D.one .nilp = true := rfl
theorem cells_nilp  : D.cells .nilp = [.nilp] := rfl
theorem under_nilp  : D.under m .nilp = true := rfl
theorem fz_nilp  : fz H m (g + 1) .nilp = some .nilp := rfl
theorem one_nilsl  : D.one .nilsl = true := rfl
theorem cells_nilsl  : D.cells .nilsl = [.nilsl] := rfl
theorem under_nilsl  : D.under m .nilsl = true := rfl
theorem fz_nilsl  : fz H m (g + 1) .nilsl = some .nilsl := rfl
theorem one_nilf  : D.one .nilf = true := rfl
theorem cells_nilf  : D.cells .nilf = [.nilf] := rfl
theorem under_nilf  : D.under m .nilf = true := rfl
theorem fz_nilf  : fz H m (g + 1) .nilf = some .nilf := rfl
theorem one_esl  : D.one .esl = true := rfl
theorem cells_esl  : D.cells .esl = [.esl] := rfl
theorem under_esl  : D.under m .esl = true := rfl
theorem fz_esl  : fz H m (g + 1) .esl = some .esl := rfl
theorem one_fptr {cs : List D} : D.one (.fptr cs) = true := rfl
theorem cells_fptr {cs : List D} : D.cells (.fptr cs) = [.fptr cs] := rfl
theorem under_fptr {cs : List D} : D.under m (.fptr cs) = true := rfl
theorem fz_fptr {cs : List D} : fz H m (g + 1) (.fptr cs) = some (.fptr cs) := rfl
theorem one_fsl {cs : List D} {n : Nat} : D.one (.fsl cs n) = true := rfl
theorem cells_fsl {cs : List D} {n : Nat} : D.cells (.fsl cs n) = [.fsl cs n] := rfl
theorem under_fsl {cs : List D} {n : Nat} : D.under m (.fsl cs n) = true := rfl
theorem fz_fsl {cs : List D} {n : Nat} : fz H m (g + 1) (.fsl cs n) = some (.fsl cs n) := rfl
theorem one_ptr {i o : Nat} : D.one (.ptr i o) = true := rfl
theorem cells_ptr {i o : Nat} : D.cells (.ptr i o) = [.ptr i o] := rfl
theorem one_rptr {i h o : Nat} : D.one (.rptr i h o) = true := rfl
theorem cells_rptr {i h o : Nat} : D.cells (.rptr i h o) = [.rptr i h o] := rfl
theorem one_osl {i h o n : Nat} : D.one (.osl i h o n) = true := rfl
theorem cells_osl {i h o n : Nat} : D.cells (.osl i h o n) = [.osl i h o n] := rfl
theorem one_func {f : Nat} {p q : List D} : D.one (.func f p q) = true := rfl
theorem cells_func {f : Nat} {p q : List D} : D.cells (.func f p q) = [.func f p q] := rfl
theorem one_yield {i : Nat} : D.one (.yield i) = true := rfl
theorem cells_yield {i : Nat} : D.cells (.yield i) = [.yield i] := rfl
theorem one_mp {i : Nat} : D.one (.mp i) = true := rfl
theorem cells_mp {i : Nat} : D.cells (.mp i) = [.mp i] := rfl
theorem cells_agg {cs : List D} : D.cells (.agg cs) = cs := rfl
theorem under_agg {cs : List D} : D.under m (.agg cs) = D.unders m cs := rfl
theorem under_ptr {i o : Nat} : D.under m (.ptr i o) = Nat.blt i m := rfl
theorem under_osl {i h o n : Nat} : D.under m (.osl i h o n) = Nat.blt i m := rfl
theorem under_rptr {i h o : Nat} : D.under m (.rptr i h o) = Nat.blt i m := rfl
theorem under_mp {i : Nat} : D.under m (.mp i) = Nat.blt i m := rfl
theorem under_yield {i : Nat} : D.under m (.yield i) = Nat.blt i m := rfl
theorem under_func {f : Nat} {p q : List D} : D.under m (.func f p q) = (D.unders m p && D.unders m q) := rfl
theorem under_tup {cs : List D} : D.under m (.tup cs) = D.unders m cs := rfl
theorem unders_nil : D.unders m [] = true := rfl
theorem unders_cons {d : D} {r : List D} : D.unders m (d :: r) = (d.under m && D.unders m r) := rfl
theorem ones_nil : D.ones [] = true := rfl
theorem ones_cons {d : D} {r : List D} : D.ones (d :: r) = (d.one && D.ones r) := rfl
theorem fz_agg {cs : List D} : fz H m (g + 1) (.agg cs) = match mapO (fz H m g) cs with
    | some cs' => some (.agg cs')
    | none => none := rfl
theorem fz_ptr {i o : Nat} : fz H m (g + 1) (.ptr i o) = if i < m then some (.ptr i o) else
      match H[i]? with
      | some (.box cs) => match mapO (fz H m g) (cs.drop o) with
        | some cs' => if D.unders 0 cs' && D.ones cs' then some (.fptr cs') else none
        | none => none
      | _ => none := rfl
theorem fz_osl {i h o n : Nat} : fz H m (g + 1) (.osl i h o n) = if i < m then some (.osl i h o n) else
      match H[i]? with
      | some (.row es cs nil) =>
        if nil then (if n = 0 then some .nilsl else none) else
        if cs.length = h ∧ o + n * es ≤ h then
          match mapO (fz H m g) ((cs.drop o).take (n * es)) with
          | some cs' => if D.unders 0 cs' && D.ones cs' then some (.fsl cs' n) else none
          | none => none
        else none
      | _ => none := rfl
theorem fz_yield {i : Nat} : fz H m (g + 1) (.yield i) = if i < m then some (.yield i) else none := rfl
theorem fz_mp {i : Nat} : fz H m (g + 1) (.mp i) = if i < m then some (.mp i) else none := rfl
theorem fz_func {f : Nat} {p q : List D} : fz H m (g + 1) (.func f p q) = match mapO (fz H m g) p, mapO (fz H m g) q with
      | some p', some q' => some (.func f p' q')
      | _, _ => none := rfl
end
/-! Operations under a test. -/
def gd (v c : Bool) (o : Option (D × Heap)) (H : Heap) : Option (D × Heap) := if c = v then o else some (.tup [], H)
def gD (v c : Bool) (d : D) : D := if c = v then d else .tup []
def gdD (v : Bool) (d : D) (o : Option (D × Heap)) (H : Heap) : Option (D × Heap) := match d with
  | .bool c => gd v c o H
  | .tup [] => some (.tup [], H)
  | _ => none
/-- One of two. -/
def pkD (c : Bool) (x y : D) : D := if c then x else y
section
variable {G : Nat → Option (List D)} {b : Nat} {call : Cl} {e : Env} {H : Heap} {v w c : Bool} {o : Option (D × Heap)} {d x y : D}
theorem runOp_n {dst : Option Nat} {op : AOp} : runOp G b call e H ⟨dst, none, op⟩ = step G b call e H op := rfl
theorem runOp_g {dst : Option Nat} {op : AOp} {t : Nat} : runOp G b call e H ⟨dst, some (t, v), op⟩ = gdD v (e.get t) (step G b call e H op) H := by
  unfold runOp wantedA gdD
  simp only
  cases h : e.get t with
  | bool c => cases c <;> cases v <;> rfl
  | tup l => cases l <;> rfl
  | _ => rfl
theorem gdD_bool : gdD v (.bool c) o H = gd v c o H := rfl
theorem gdD_tup : gdD v (.tup []) o H = some (.tup [], H) := rfl
theorem gd_tt : gd true true o H = o := rfl
theorem gd_ff : gd false false o H = o := rfl
theorem gd_tf : gd true false o H = some (.tup [], H) := rfl
theorem gd_ft : gd false true o H = some (.tup [], H) := rfl
theorem gd_some : gd v c (some (d, H)) H = some (gD v c d, H) := by unfold gd gD; split <;> rfl
theorem gD_tt : gD true true d = d := rfl
theorem gD_ff : gD false false d = d := rfl
theorem gD_tf : gD true false d = .tup [] := rfl
theorem gD_ft : gD false true d = .tup [] := rfl
theorem gD_in : gD v c (gD v c d) = gD v c d := by unfold gD; split <;> rfl
theorem gd_congr {v' c' : Bool} {o' : Option (D × Heap)} {H' : Heap} (hv : v = v') (hc : c = c') (hH : H = H') (ho : c' = v' → o = o') : gd v c o H = gd v' c' o' H' := by
  subst hv hc hH; unfold gd; split
  · rename_i h; exact ho h
  · rfl
theorem pkD_t : pkD true x y = x := rfl
theorem pkD_f : pkD false x y = y := rfl
theorem pkD_gt : pkD c (gD true c x) y = pkD c x y := by cases c <;> rfl
theorem pkD_gf : pkD c x (gD false c y) = pkD c x y := by cases c <;> rfl
theorem pkD_and {a : Bool} : pkD c (.bool a) (.bool false) = .bool (c && a) := by cases c <;> rfl
theorem pkD_or {a : Bool} : pkD c (.bool true) (.bool a) = .bool (c || a) := by cases c <;> rfl
theorem okD_pkD : okD (pkD c x y) H = if c then okD x H else okD y H := by cases c <;> rfl
theorem okD_gD (h : d ≠ .undef) : okD (gD v c d) H = some (gD v c d, H) := by
  unfold gD; split
  · exact okD_of h
  · rfl
theorem gdD_gD {a : Bool} : gdD w (gD v c (.bool a)) o H = gd v c (gd w a o H) H := by
  unfold gD gd; by_cases h : c = v
  · simp [h, gdD, gd]
  · simp [h, gdD]
theorem step_pickP {q x y : Arg} : step G b call e H (.pick q x y) = match evalA G e q with
    | .bool p => okD (pkD p (evalA G e x) (evalA G e y)) H
    | _ => none := by
  rw [step_pick]
  cases evalA G e q with
  | bool p => cases p <;> rfl
  | _ => rfl
end
/-! Each operation as a function of what it reads. -/
def boxO (o : Option Chunk) : Option (List D) := match o with
  | some (.box cs) => some cs
  | _ => none
def rowO (o : Option Chunk) : Option (List D) := match o with
  | some (.row _ cs false) => some cs
  | _ => none
def rowE (o : Option Chunk) : Nat := match o with
  | some (.row es _ _) => es
  | _ => 0
def optK (o : Option D) (H : Heap) : Option (D × Heap) := match o with
  | some d => some (d, H)
  | none => none
def optH (o : Option Heap) : Option (D × Heap) := match o with
  | some H' => some (.tup [], H')
  | none => none
def bindO {α β : Type} (o : Option α) (f : α → Option β) : Option β := match o with
  | some x => f x
  | none => none
theorem bindO_some {α β : Type} {x : α} {f : α → Option β} : bindO (some x) f = f x := rfl
theorem bindO_none {α β : Type} {f : α → Option β} : bindO none f = none := rfl
def pickK (q x y : D) (H : Heap) : Option (D × Heap) := match q with
  | .bool p => okD (pkD p x y) H
  | _ => none
def faddrK (off : Nat) (p : D) (H : Heap) : Option (D × Heap) := match p with
    | .ptr i o => some (.ptr i (o + off), H)
    | .rptr i h o => some (.rptr i h (o + off), H)
    | .fptr cs => some (.fptr (cs.drop off), H)
    | _ => none
def nilchkK (p : D) (H : Heap) : Option (D × Heap) := match p with
    | .ptr i o => some (.ptr i o, H)
    | .rptr i h o => some (.rptr i h o, H)
    | .fptr cs => some (.fptr cs, H)
    | _ => none
def eqBK (neg : Bool) (x y : D) (H : Heap) : Option (D × Heap) := match x, y with
    | .bool a, .bool b => some (.bool (neg != (a == b)), H)
    | _, _ => none
def eqPK (neg : Bool) (o : Option Bool) (H : Heap) : Option (D × Heap) := match o with
    | some b => some (.bool (neg != b), H)
    | none => none
def convIK (k : IntKind) (x : D) (H : Heap) : Option (D × Heap) := match x with
    | .int _ n => some (.int k (k.wrap n), H)
    | _ => none
def convSBK (x : D) (H : Heap) : Option (D × Heap) := match x with
    | .str s => if s.length ≤ maxBytes then some (.fsl (strBytes s) s.length, H) else none
    | _ => none
def convISK (x : D) (H : Heap) : Option (D × Heap) := match x with
    | .int _ n => if 0 ≤ n ∧ n < 128 then some (.str [UInt8.ofNat n.toNat], H) else none
    | _ => none
def sliceSK (x : D) (lo hi : Option D) (H : Heap) : Option (D × Heap) := match x with
    | .str s => optK (sliceStr s lo hi) H
    | _ => none
def fieldK (ag : Bool) (off n : Nat) (x : D) (H : Heap) : Option (D × Heap) := match x with
    | .agg cs => bindO (loadD ag n (cs.drop off)) fun d => okD d H
    | _ => none
def indexSK (x i : D) (H : Heap) : Option (D × Heap) := match x, i with
    | .str s, .int _ j => if 0 ≤ j then bindO s[j.toNat]? fun b => some (.int .u8 b.toNat, H) else none
    | _, _ => none
def extractK (x : D) (i : Nat) (H : Heap) : Option (D × Heap) := match x with
    | .tup vs => bindO vs[i]? fun d => okD d H
    | _ => none
def iaddrAK (n es : Nat) (p i : D) (H : Heap) : Option (D × Heap) := match p, i with
    | .fptr cs, .int _ j => if 0 ≤ j ∧ j < n then some (.fptr (cs.drop (j.toNat * es)), H) else none
    | .ptr id off, .int _ j => if 0 ≤ j ∧ j < n then some (.ptr id (off + j.toNat * es), H) else none
    | _, _ => none
def appendSK (b : Nat) (bytes : Nat) (x y : D) (H : Heap) : Option (D × Heap) := match y with
    | .str s => appendD b H 1 bytes x (strBytes s) s.length
    | _ => none
def mslK (es bytes : Nat) (z : List D) (l c : D) (H : Heap) : Option (D × Heap) := match l, c with
    | .int .i64 l, .int .i64 c => if 0 ≤ l ∧ l ≤ c ∧ c.toNat * bytes ≤ maxBytes ∧ c.toNat ≤ maxBytes then
        some (.osl H.length (l.toNat * es) 0 l.toNat, H ++ [.row es (copies z l.toNat) false]) else none
    | _, _ => none
def boxFK (n : Nat) (cs : List D) (H : Heap) : Option (D × Heap) := if cs.length = n ∧ D.unders 0 cs ∧ D.ones cs then some (.fptr cs, H) else none
def boxRK (b : Nat) (o : Option (Heap × List D)) : Option (D × Heap) := match o with
  | some (H', cs) => if storable b H' H'.length cs then some (.ptr H'.length 0, H' ++ [.box cs]) else none
  | none => none
def allocK (o : Option (Heap × List D)) : Option (D × Heap) := match o with
  | some (H', cs) => some (.ptr H'.length 0, H' ++ [.box cs])
  | none => none
def appZK (es : Nat) (zs : List D) (x : D) (q : Nat) (H : Heap) : Option (D × Heap) := match x with
      | .nilsl => if q = 0 then some (.nilsl, H) else some (.osl H.length (q * es) 0 q, H ++ [.row es (copies zs q) false])
      | .esl => if q = 0 then some (.esl, H) else some (.osl H.length (q * es) 0 q, H ++ [.row es (copies zs q) false])
      | _ => none
def mgetK (m k : D) (H : Heap) : Option (D × Heap) := match m, k with
    | .mp id, .int .i64 n => match H[id]? with
      | some (.map es) => some (.bool (mapGet n es), H)
      | _ => none
    | _, _ => none
def msetK (m k v : D) (H : Heap) : Option (D × Heap) := match m, k, v with
    | .mp id, .int .i64 n, .bool x => match H[id]? with
      | some (.map es) => some (.tup [], H.set id (.map (mapSet n x es)))
      | _ => none
    | _, _, _ => none
section
variable {G : Nat → Option (List D)} {b : Nat} {call : Cl} {e : Env} {H : Heap}
theorem optK_some {d : D} : optK (some d) H = some (d, H) := rfl
theorem optK_ite {p : Prop} [Decidable p] {x y : Option D} : optK (if p then x else y) H = if p then optK x H else optK y H := by split <;> rfl
theorem optH_some {H' : Heap} : optH (some H') = some (.tup [], H') := rfl
theorem k_pick {q x y : Arg} : step G b call e H (.pick q x y) = pickK (evalA G e q) (evalA G e x) (evalA G e y) H := by rw [step_pickP]; rfl
theorem pickK_b {p : Bool} {x y : D} : pickK (.bool p) x y H = okD (pkD p x y) H := rfl
theorem k_load {ag : Bool} {n : Nat} {p : Arg} : step G b call e H (.load ag n p) = bindO (cellsAt H (evalA G e p)) fun cs => bindO (loadD ag n cs) fun d => okD d H := by
  rw [step_load]
  cases cellsAt H (evalA G e p) with
  | none => rfl
  | some cs => simp only [bindO]; cases loadD ag n cs <;> rfl
theorem cellsAt_fptr {cs : List D} : cellsAt H (.fptr cs) = some cs := rfl
theorem cellsAt_ptr {i o : Nat} : cellsAt H (.ptr i o) = bindO (boxO H[i]?) fun cs => some (cs.drop o) := by
  simp only [cellsAt]
  cases H[i]? with
  | none => rfl
  | some c => cases c <;> rfl
theorem cellsAt_rptr {i hw o : Nat} : cellsAt H (.rptr i hw o) = bindO (rowO H[i]?) fun cs => if cs.length = hw then some (cs.drop o) else none := by
  simp only [cellsAt]
  cases H[i]? with
  | none => rfl
  | some c => cases c with
    | row es cs nil => cases nil <;> rfl
    | _ => rfl
theorem boxO_box {cs : List D} : boxO (some (.box cs)) = some cs := rfl
theorem rowO_row {es : Nat} {cs : List D} : rowO (some (.row es cs false)) = some cs := rfl
theorem k_faddr {off : Nat} {p : Arg} : step G b call e H (.faddr off p) = faddrK off (evalA G e p) H := rfl
theorem faddrK_fptr {off : Nat} {cs : List D} : faddrK off (.fptr cs) H = some (.fptr (cs.drop off), H) := rfl
theorem faddrK_ptr {off i o : Nat} : faddrK off (.ptr i o) H = some (.ptr i (o + off), H) := rfl
theorem faddrK_rptr {off i h o : Nat} : faddrK off (.rptr i h o) H = some (.rptr i h (o + off), H) := rfl
theorem k_nilchk {p : Arg} : step G b call e H (.nilchk p) = nilchkK (evalA G e p) H := rfl
theorem nilchkK_fptr {cs : List D} : nilchkK (.fptr cs) H = some (.fptr cs, H) := rfl
theorem nilchkK_ptr {i o : Nat} : nilchkK (.ptr i o) H = some (.ptr i o, H) := rfl
theorem nilchkK_rptr {i h o : Nat} : nilchkK (.rptr i h o) H = some (.rptr i h o, H) := rfl
theorem k_bin {op : BinOp} {x y : Arg} : step G b call e H (.bin op x y) = optK (binD op (evalA G e x) (evalA G e y)) H := rfl
theorem k_un {op : UnOp} {x : Arg} : step G b call e H (.un op x) = optK (unD op (evalA G e x)) H := rfl
theorem k_eqB {neg : Bool} {x y : Arg} : step G b call e H (.eqB neg x y) = eqBK neg (evalA G e x) (evalA G e y) H := rfl
theorem eqBK_b {neg p q : Bool} : eqBK neg (.bool p) (.bool q) H = some (.bool (neg != (p == q)), H) := rfl
theorem k_eqP {neg : Bool} {x y : Arg} : step G b call e H (.eqP neg x y) = eqPK neg (eqPtr (evalA G e x) (evalA G e y)) H := rfl
theorem k_eqS {neg : Bool} {x y : Arg} : step G b call e H (.eqS neg x y) = eqPK neg (eqSl (evalA G e x) (evalA G e y)) H := rfl
theorem eqPK_some {neg p : Bool} : eqPK neg (some p) H = some (.bool (neg != p), H) := rfl
theorem k_convI {k : IntKind} {x : Arg} : step G b call e H (.convI k x) = convIK k (evalA G e x) H := rfl
theorem convIK_int {k k' : IntKind} {n : Int} : convIK k (.int k' n) H = some (.int k (k.wrap n), H) := rfl
theorem k_convSB {x : Arg} : step G b call e H (.convSB x) = convSBK (evalA G e x) H := rfl
theorem convSBK_str {s : List UInt8} : convSBK (.str s) H = if s.length ≤ maxBytes then some (.fsl (strBytes s) s.length, H) else none := rfl
theorem k_convIS {x : Arg} : step G b call e H (.convIS x) = convISK (evalA G e x) H := rfl
theorem convISK_int {k : IntKind} {n : Int} : convISK (.int k n) H = if 0 ≤ n ∧ n < 128 then some (.str [UInt8.ofNat n.toNat], H) else none := rfl
theorem k_convBS {x : Arg} : step G b call e H (.convBS x) = bindO (elems H 1 (evalA G e x)) fun q => bindO (bytesStr q.1) fun s => some (.str s, H) := by
  simp only [step]
  cases elems H 1 (evalA G e x) with
  | none => rfl
  | some q => obtain ⟨cs, n⟩ := q; simp only [bindO]; cases bytesStr cs <;> rfl
theorem k_sliceS {x : Arg} {lo hi : Option Arg} : step G b call e H (.sliceS x lo hi) = sliceSK (evalA G e x) (evalO G e lo) (evalO G e hi) H := rfl
theorem sliceSK_str {s : List UInt8} {lo hi : Option D} : sliceSK (.str s) lo hi H = optK (sliceStr s lo hi) H := rfl
theorem k_sliceL {es : Nat} {x : Arg} {lo hi mx : Option Arg} : step G b call e H (.sliceL es x lo hi mx) = optK (sliceD es (evalA G e x) (evalO G e lo) (evalO G e hi) (evalO G e mx)) H := rfl
theorem k_field {ag : Bool} {off n : Nat} {x : Arg} : step G b call e H (.field ag off n x) = fieldK ag off n (evalA G e x) H := by
  rw [step_field]
  cases evalA G e x with
  | agg cs => simp only [fieldK, bindO]; cases loadD ag n (cs.drop off) <;> rfl
  | _ => rfl
theorem fieldK_agg {ag : Bool} {off n : Nat} {cs : List D} : fieldK ag off n (.agg cs) H = bindO (loadD ag n (cs.drop off)) fun d => okD d H := rfl
theorem k_indexS {x i : Arg} : step G b call e H (.indexS x i) = indexSK (evalA G e x) (evalA G e i) H := by
  simp only [step, indexSK]
  cases evalA G e x with
  | str s => cases evalA G e i with
    | int k j =>
      simp only
      by_cases h : 0 ≤ j
      · rw [if_pos h, if_pos h]; cases s[j.toNat]? <;> rfl
      · rw [if_neg h, if_neg h]
    | _ => rfl
  | _ => rfl
theorem indexSK_str {s : List UInt8} {k : IntKind} {j : Int} : indexSK (.str s) (.int k j) H = if 0 ≤ j then bindO s[j.toNat]? fun b => some (.int .u8 b.toNat, H) else none := rfl
theorem k_extract {x : Arg} {i : Nat} : step G b call e H (.extract x i) = extractK (evalA G e x) i H := by
  rw [step_extract]
  cases evalA G e x with
  | tup vs => simp only [extractK, bindO]; cases vs[i]? <;> rfl
  | _ => rfl
theorem extractK_tup {vs : List D} {i : Nat} : extractK (.tup vs) i H = bindO vs[i]? fun d => okD d H := rfl
theorem k_iaddrA {n es : Nat} {p i : Arg} : step G b call e H (.iaddrA n es p i) = iaddrAK n es (evalA G e p) (evalA G e i) H := rfl
theorem iaddrAK_fptr {n es : Nat} {cs : List D} {k : IntKind} {j : Int} : iaddrAK n es (.fptr cs) (.int k j) H = if 0 ≤ j ∧ j < n then some (.fptr (cs.drop (j.toNat * es)), H) else none := rfl
theorem iaddrAK_ptr {n es id off : Nat} {k : IntKind} {j : Int} : iaddrAK n es (.ptr id off) (.int k j) H = if 0 ≤ j ∧ j < n then some (.ptr id (off + j.toNat * es), H) else none := rfl
theorem k_append {es bytes : Nat} {x y : Arg} : step G b call e H (.append es bytes x y) = bindO (elems H es (evalA G e y)) fun q => appendD b H es bytes (evalA G e x) q.1 q.2 := by
  simp only [step]
  cases elems H es (evalA G e y) <;> rfl
theorem k_appendS {bytes : Nat} {x y : Arg} : step G b call e H (.appendS bytes x y) = appendSK b bytes (evalA G e x) (evalA G e y) H := rfl
theorem appendSK_str {bytes : Nat} {x : D} {s : List UInt8} : appendSK b bytes x (.str s) H = appendD b H 1 bytes x (strBytes s) s.length := rfl
theorem k_msl {es bytes : Nat} {z : List D} {l c : Arg} : step G b call e H (.msl es bytes z l c) = mslK es bytes z (evalA G e l) (evalA G e c) H := rfl
theorem mslK_int {es bytes : Nat} {z : List D} {l c : Int} : mslK es bytes z (.int .i64 l) (.int .i64 c) H = if 0 ≤ l ∧ l ≤ c ∧ c.toNat * bytes ≤ maxBytes ∧ c.toNat ≤ maxBytes then
        some (.osl H.length (l.toNat * es) 0 l.toNat, H ++ [.row es (copies z l.toNat) false]) else none := rfl
theorem k_boxF {n : Nat} {x : Arg} : step G b call e H (.boxF n x) = boxFK n (evalA G e x).cells H := rfl
theorem boxFK_ok {n : Nat} {cs : List D} (h1 : cs.length = n) (h2 : D.unders 0 cs = true) (h3 : D.ones cs = true) : boxFK n cs H = some (.fptr cs, H) := by unfold boxFK; rw [if_pos ⟨h1, h2, h3⟩]
theorem k_boxB {n : Nat} {x : Arg} {res : List (Nat × Nat)} : step G b call e H (.boxB n x res) = if (evalA G e x).cells.length = n then boxRK b (reserve H (evalA G e x).cells res) else none := by
  simp only [step]
  split <;> first | rfl | (unfold boxRK; cases reserve H (evalA G e x).cells res <;> rfl)
theorem boxRK_some {H' : Heap} {cs : List D} : boxRK b (some (H', cs)) = if storable b H' H'.length cs then some (.ptr H'.length 0, H' ++ [.box cs]) else none := rfl
theorem k_allocB {zs : List D} {res : List (Nat × Nat)} : step G b call e H (.allocB zs res) = allocK (reserve H zs res) := by
  simp only [step]; unfold allocK; cases reserve H zs res <;> rfl
theorem allocK_some {H' : Heap} {cs : List D} : allocK (some (H', cs)) = some (.ptr H'.length 0, H' ++ [.box cs]) := rfl
theorem reserve_nil {cs : List D} : reserve H cs [] = some (H, cs) := rfl
theorem k_build {zs : List D} {ps : List (Nat × Nat × Arg)} : step G b call e H (.build zs ps) = bindO (fillD zs (evalPs G e ps)) fun cs => if D.ones cs then some (.agg cs, H) else none := by
  simp only [step]; cases fillD zs (evalPs G e ps) <;> rfl
theorem k_bslF {zs : List D} {n : Nat} {ps : List (Nat × Nat × Arg)} : step G b call e H (.bslF zs n ps) = bindO (fillD zs (evalPs G e ps)) fun cs => if D.unders 0 cs ∧ D.ones cs then some (.fsl cs n, H) else none := by
  simp only [step]; cases fillD zs (evalPs G e ps) <;> rfl
theorem k_bslR {es : Nat} {zs : List D} {n : Nat} {ps : List (Nat × Nat × Arg)} : step G b call e H (.bslR es zs n ps) = bindO (fillD zs (evalPs G e ps)) fun cs => if storable b H H.length cs then some (.osl H.length (n * es) 0 n, H ++ [.row es cs false]) else none := by
  simp only [step]; cases fillD zs (evalPs G e ps) <;> rfl
theorem fillD_nil {cs : List D} : fillD cs [] = some cs := rfl
theorem fillD_cons {cs : List D} {o n : Nat} {v : D} {r : List (Nat × Nat × D)} : fillD cs ((o, n, v) :: r) = if v.cells.length = n ∧ o + n ≤ cs.length ∧ D.ones v.cells = true then fillD (splice cs o v.cells) r else none := rfl
theorem k_store {n : Nat} {p v : Arg} : step G b call e H (.store n p v) = optH (storeD b H n (evalA G e p) (evalA G e v)) := by
  simp only [step]; cases storeD b H n (evalA G e p) (evalA G e v) <;> rfl
theorem storeD_ptr {n i o : Nat} {v : D} : storeD b H n (.ptr i o) v = if v.cells.length = n then bindO (boxO H[i]?) fun cs => if o + n ≤ cs.length then (if storable b H i v.cells = true then some (H.set i (.box (splice cs o v.cells))) else none) else none else none := by
  simp only [storeD]
  split
  · cases H[i]? with
    | none => rfl
    | some c => cases c <;> rfl
  · rfl
theorem storeD_rptr {n i hw o : Nat} {v : D} : storeD b H n (.rptr i hw o) v = if v.cells.length = n then bindO (rowO H[i]?) fun cs => if cs.length = hw then (if o + n ≤ cs.length then (if storable b H i v.cells = true then some (H.set i (.row (rowE H[i]?) (splice cs o v.cells) false)) else none) else none) else none else none := by
  simp only [storeD]
  split
  · cases H[i]? with
    | none => rfl
    | some c => cases c with
      | row es cs nil => cases nil <;> rfl
      | _ => rfl
  · rfl
theorem rowE_row {es : Nat} {cs : List D} {nil : Bool} : rowE (some (.row es cs nil)) = es := rfl
theorem optH_ite {p : Prop} [Decidable p] {x y : Option Heap} : optH (if p then x else y) = if p then optH x else optH y := by split <;> rfl
theorem bindO_ite {α β : Type} {p : Prop} [Decidable p] {x y : Option α} {f : α → Option β} : bindO (if p then x else y) f = if p then bindO x f else bindO y f := by split <;> rfl
theorem k_resv {es : Nat} : step G b call e H (.resv es) = if 0 < es then some (.osl H.length 0 0 0, H ++ [.row es [] true]) else none := rfl
theorem k_maxs {x : Arg} {xs : List Arg} : step G b call e H (.maxs x xs) = optK (maxD (evalA G e x) (evalAs G e xs)) H := rfl
theorem k_mins {x : Arg} {xs : List Arg} : step G b call e H (.mins x xs) = optK (minD (evalA G e x) (evalAs G e xs)) H := rfl
theorem maxD_nil {d : D} : maxD d [] = some d := by cases d <;> rfl
theorem maxD_cons {k : IntKind} {x y : Int} {r : List D} : maxD (.int k x) (.int k y :: r) = maxD (.int k (max x y)) r := by
  simp only [maxD, if_true]; congr 2; split <;> omega
theorem minD_nil {d : D} : minD d [] = some d := by cases d <;> rfl
theorem minD_cons {k : IntKind} {x y : Int} {r : List D} : minD (.int k x) (.int k y :: r) = minD (.int k (min x y)) r := by
  simp only [minD, if_true]; congr 2; split <;> omega
theorem k_hole {n : Nat} : step G b call e H (.hole n) = some (.undef, H) := rfl
theorem k_fill {n : Nat} {x : Arg} : step G b call e H (.fill n ⟨x, none⟩) = boxFK n (evalA G e x).cells H := rfl
theorem k_fillB {n : Nat} {x : Arg} {res : List (Nat × Nat)} : step G b call e H (.fill n ⟨x, some res⟩) = if (evalA G e x).cells.length = n then boxRK b (reserve H (evalA G e x).cells res) else none := by
  simp only [step]
  split <;> first | rfl | (unfold boxRK; cases reserve H (evalA G e x).cells res <;> rfl)
theorem k_call {f : Arg} {args : List Arg} : step G b call e H (.call f args) = call (evalA G e f) (evalAs G e args) H := rfl
theorem k_mkf {f : Nat} {pre caps : List Arg} : step G b call e H (.mkf f pre caps) = if D.defd (evalAs G e pre) && D.defd (evalAs G e caps) then some (.func f (evalAs G e pre) (evalAs G e caps), H) else none := rfl
theorem k_mkmap : step G b call e H .mkmap = some (.mp H.length, H ++ [.map []]) := rfl
theorem k_mget {m k : Arg} : step G b call e H (.mget m k) = mgetK (evalA G e m) (evalA G e k) H := rfl
theorem k_mset {m k v : Arg} : step G b call e H (.mset m k v) = msetK (evalA G e m) (evalA G e k) (evalA G e v) H := rfl
theorem mgetK_mp {i : Nat} {n : Int} {es : List (Int × Bool)} (h : H[i]? = some (.map es)) : mgetK (.mp i) (.int .i64 n) H = some (.bool (mapGet n es), H) := by simp only [mgetK, h]
theorem msetK_mp {i : Nat} {n : Int} {x : Bool} {es : List (Int × Bool)} (h : H[i]? = some (.map es)) : msetK (.mp i) (.int .i64 n) (.bool x) H = some (.tup [], H.set i (.map (mapSet n x es))) := by simp only [msetK, h]
theorem k_dfrop {f g : Nat} {x : Arg} {p q : List D} (h : evalA G e x = .func g p q) : step G b call e H (.dfrop f x) = if Nat.beq g f then some (.tup [], H) else none := by simp only [step, h]
theorem k_eqA {neg : Bool} {ks : List PK} {x y : Arg} {p q : List D} (h : evalA G e x = .agg p) (h' : evalA G e y = .agg q) : step G b call e H (.eqA neg ks x y) = eqPK neg (eqKs ks p q) H := by
  simp only [step, h, h']; cases eqKs ks p q <;> rfl
theorem eqKs_i {ks : List PK} {k : IntKind} {x y : Int} {p q : List D} : eqKs (.i :: ks) (.int k x :: p) (.int k y :: q) = if x = y then eqKs ks p q else some false := by
  simp only [eqKs, eqK, if_true]; by_cases h : x = y
  · simp [h]
  · rw [if_neg h, beq_eq_false_iff_ne.2 h]
theorem eqKs_s {ks : List PK} {x y : List UInt8} {p q : List D} : eqKs (.s :: ks) (.str x :: p) (.str y :: q) = if x = y then eqKs ks p q else some false := by
  simp only [eqKs, eqK]; by_cases h : x = y
  · simp [h]
  · rw [if_neg h, beq_eq_false_iff_ne.2 h]
theorem bin_ii {op : BinOp} {k : IntKind} {x y : Int} : binD op (.int k x) (.int k y) = match op with
    | .shl => if y < 0 then none else some (.int k (k.wrap (x * 2 ^ (min y.toNat k.bits))))
    | .shr => if y < 0 then none else some (.int k (x.fdiv (2 ^ (min y.toNat k.bits))))
    | _ => binInt op k x y := by cases op <;> simp [binD]
theorem bin_add {k : IntKind} {x y : Int} : binD .add (.int k x) (.int k y) = some (.int k (k.wrap (x + y))) := by simp [binD, binInt]
theorem bin_sub {k : IntKind} {x y : Int} : binD .sub (.int k x) (.int k y) = some (.int k (k.wrap (x - y))) := by simp [binD, binInt]
theorem bin_mul {k : IntKind} {x y : Int} : binD .mul (.int k x) (.int k y) = some (.int k (k.wrap (x * y))) := by simp [binD, binInt]
theorem bin_quo {k : IntKind} {x y : Int} : binD .quo (.int k x) (.int k y) = if y = 0 then none else some (.int k (k.wrap (x.tdiv y))) := by simp [binD, binInt]
theorem bin_rem {k : IntKind} {x y : Int} : binD .rem (.int k x) (.int k y) = if y = 0 then none else some (.int k (x.tmod y)) := by simp [binD, binInt]
theorem bin_eql {k : IntKind} {x y : Int} : binD .eql (.int k x) (.int k y) = some (.bool (decide (x = y))) := by simp only [binD, binInt, if_true]; by_cases h : x = y <;> simp [h]
theorem bin_neq {k : IntKind} {x y : Int} : binD .neq (.int k x) (.int k y) = some (.bool (!decide (x = y))) := by simp only [binD, binInt, if_true]; by_cases h : x = y <;> simp [h]
theorem bin_lss {k : IntKind} {x y : Int} : binD .lss (.int k x) (.int k y) = some (.bool (decide (x < y))) := by simp [binD, binInt]
theorem bin_leq {k : IntKind} {x y : Int} : binD .leq (.int k x) (.int k y) = some (.bool (decide (x ≤ y))) := by simp [binD, binInt]
theorem bin_gtr {k : IntKind} {x y : Int} : binD .gtr (.int k x) (.int k y) = some (.bool (decide (y < x))) := by simp [binD, binInt]
theorem bin_geq {k : IntKind} {x y : Int} : binD .geq (.int k x) (.int k y) = some (.bool (decide (y ≤ x))) := by simp [binD, binInt]
theorem bin_shl {k k' : IntKind} {x y : Int} : binD .shl (.int k x) (.int k' y) = if y < 0 then none else some (.int k (k.wrap (x * 2 ^ (min y.toNat k.bits)))) := rfl
theorem bin_shr {k k' : IntKind} {x y : Int} : binD .shr (.int k x) (.int k' y) = if y < 0 then none else some (.int k (x.fdiv (2 ^ (min y.toNat k.bits)))) := rfl
theorem bin_sadd {x y : List UInt8} : binD .add (.str x) (.str y) = if x.length + y.length ≤ 9223372036854775807 then some (.str (x ++ y)) else none := rfl
theorem bin_seql {x y : List UInt8} : binD .eql (.str x) (.str y) = some (.bool (decide (x = y))) := by simp only [binD, binStr]; by_cases h : x = y <;> simp [h]
theorem bin_sneq {x y : List UInt8} : binD .neq (.str x) (.str y) = some (.bool (!decide (x = y))) := by simp only [binD, binStr]; by_cases h : x = y <;> simp [h]
theorem bin_slss {x y : List UInt8} : binD .lss (.str x) (.str y) = some (.bool (Op.bytesLess x y)) := rfl
theorem bin_sleq {x y : List UInt8} : binD .leq (.str x) (.str y) = some (.bool (Op.bytesLess x y || x == y)) := rfl
theorem un_not {x : Bool} : unD .not (.bool x) = some (.bool !x) := rfl
theorem un_neg {k : IntKind} {x : Int} : unD .neg (.int k x) = some (.int k (k.wrap (0 - x))) := rfl
end
theorem beqI {a b : Int} : (a == b) = decide (a = b) := by by_cases h : a = b <;> simp [h]
theorem bneI {a b : Int} : (a != b) = !decide (a = b) := by by_cases h : a = b <;> simp [h]
theorem beqT {a b : List UInt8} : (a == b) = decide (a = b) := by by_cases h : a = b <;> simp [h]
theorem bneT {a b : List UInt8} : (a != b) = !decide (a = b) := by by_cases h : a = b <;> simp [h]
theorem loadD_one {d : D} {r : List D} : loadD false 1 (d :: r) = some d := rfl
theorem loadD_map {α : Type} {f : α → D} {l : List α} {k : Nat} (hk : k < l.length) : loadD false 1 ((l.map f).drop k) = some (f l[k]) := by
  rw [List.drop_eq_getElem_cons (by simpa using hk)]; simp [loadD]
theorem mapO_append {g : D → Option D} {b : List D} : ∀ {a : List D}, mapO g (a ++ b) = match mapO g a with
    | some a' => match mapO g b with
      | some b' => some (a' ++ b')
      | none => none
    | none => none
  | [] => by simp [mapO]; cases mapO g b <;> rfl
  | x :: a => by
    simp only [List.cons_append, mapO, mapO_append (a := a)]
    cases g x with
    | none => rfl
    | some y => cases mapO g a with
      | none => rfl
      | some a' => cases mapO g b <;> rfl
theorem mapO_map {α : Type} {g : D → Option D} {f : α → D} (h : ∀ x, g (f x) = some (f x)) : ∀ (l : List α), mapO g (l.map f) = some (l.map f)
  | [] => rfl
  | x :: l => by simp only [List.map_cons, mapO, h, mapO_map h l]
theorem unders_map {α : Type} {f : α → D} {n : Nat} (h : ∀ x, (f x).under n = true) : ∀ (l : List α), D.unders n (l.map f) = true
  | [] => rfl
  | x :: l => by simp only [List.map_cons, D.unders, h, unders_map h l]; rfl
theorem ones_map {α : Type} {f : α → D} (h : ∀ x, (f x).one = true) : ∀ (l : List α), D.ones (l.map f) = true
  | [] => rfl
  | x :: l => by simp only [List.map_cons, D.ones, h, ones_map h l]; rfl
end Go.AM
/- Heaps that grow; ranges over functions, by rewriting. -/
namespace Go.AM
section
variable {α : Type} {H l : List α} {k : Nat} {x : α}
theorem getH : (H ++ l)[H.length + k]? = l[k]? := by rw [List.getElem?_append_right (by omega)]; congr 1; omega
theorem getH0 : (H ++ l)[H.length]? = l[0]? := by rw [List.getElem?_append_right (by omega)]; congr 1; omega
theorem setH : (H ++ l).set (H.length + k) x = H ++ l.set k x := by
  rw [List.set_append_right _ _ (by omega)]; congr 2; omega
theorem setH0 : (H ++ l).set H.length x = H ++ l.set 0 x := by
  rw [List.set_append_right _ _ (by omega)]; congr 2; omega
theorem takeH : (H ++ l).take H.length = H := by rw [List.take_append_of_le_length (by omega), List.take_length]
theorem getHlt (h : k < H.length) : (H ++ l)[k]? = H[k]? := List.getElem?_append_left h
theorem setHlt (h : k < H.length) : (H ++ l).set k x = H.set k x ++ l := List.set_append_left _ _ h
end
theorem storable_U {b : Nat} {H : Heap} {id : Nat} {vs : List D} (h1 : ∀ n, D.unders n vs = true) (h2 : D.ones vs = true) : storable b H id vs = true := by
  unfold storable; rw [h1, h2]; rfl
theorem storable_i {b : Nat} {H : Heap} {id : Nat} {k : IntKind} {n : Int} : storable b H id [.int k n] = true := rfl
theorem storable_b {b : Nat} {H : Heap} {id : Nat} {x : Bool} : storable b H id [.bool x] = true := rfl
theorem storable_s {b : Nat} {H : Heap} {id : Nat} {x : List UInt8} : storable b H id [.str x] = true := rfl
theorem storable_SL {b : Nat} {H : Heap} {id n : Nat} {f : Nl} {cs : List D} : storable b H id [SL f cs n] = true := by
  refine storable_U (fun m => ?_) ?_
  · simp [unders_cons, under_SL, unders_nil]
  · simp [ones_cons, one_SL, ones_nil]
theorem evalA_g {G : Nat → Option (List D)} {e : Env} {n : Nat} {cs : List D} (h : G n = some cs) : evalA G e (.g n) = .fptr cs := by simp only [evalA, h]

theorem sliceStr_from {s : List UInt8} {k : Nat} (h : k ≤ s.length) : sliceStr s (some (.int .i64 (k : Int))) none = some (.str (s.drop k)) := by
  simp [sliceStr, natArg, h]
theorem sliceStr_to {s : List UInt8} {k : Nat} (h : k ≤ s.length) : sliceStr s none (some (.int .i64 (k : Int))) = some (.str (s.take k)) := by
  simp [sliceStr, natArg, h]
theorem sliceStr_ft {s : List UInt8} {j k : Nat} (h : k ≤ s.length) (h' : j ≤ k) : sliceStr s (some (.int .i64 (j : Int))) (some (.int .i64 (k : Int))) = some (.str ((s.take k).drop j)) := by
  simp [sliceStr, natArg, h, h']
theorem loadD_t1 {a : D} {r : List D} : loadD true 1 (a :: r) = some (.agg [a]) := by simp [loadD]
theorem loadD_t2 {a b : D} {r : List D} : loadD true 2 (a :: b :: r) = some (.agg [a, b]) := by simp [loadD]
theorem loadD_t3 {a b c : D} {r : List D} : loadD true 3 (a :: b :: c :: r) = some (.agg [a, b, c]) := by simp [loadD]
theorem loadD_t4 {a b c d : D} {r : List D} : loadD true 4 (a :: b :: c :: d :: r) = some (.agg [a, b, c, d]) := by simp [loadD]
def andI (k : IntKind) (x y : Int) : Int := k.wrap (BitVec.ofInt k.bits x &&& BitVec.ofInt k.bits y).toNat
def orI (k : IntKind) (x y : Int) : Int := k.wrap (BitVec.ofInt k.bits x ||| BitVec.ofInt k.bits y).toNat
def xorI (k : IntKind) (x y : Int) : Int := k.wrap (BitVec.ofInt k.bits x ^^^ BitVec.ofInt k.bits y).toNat
def andNotI (k : IntKind) (x y : Int) : Int := k.wrap (BitVec.ofInt k.bits x &&& ~~~BitVec.ofInt k.bits y).toNat
theorem bin_and {k : IntKind} {x y : Int} : binD .and (.int k x) (.int k y) = some (.int k (andI k x y)) := by simp [binD, binInt, andI]
theorem bin_or {k : IntKind} {x y : Int} : binD .or (.int k x) (.int k y) = some (.int k (orI k x y)) := by simp [binD, binInt, orI]
theorem bin_xor {k : IntKind} {x y : Int} : binD .xor (.int k x) (.int k y) = some (.int k (xorI k x y)) := by simp [binD, binInt, xorI]
theorem bin_andNot {k : IntKind} {x y : Int} : binD .andNot (.int k x) (.int k y) = some (.int k (andNotI k x y)) := by simp [binD, binInt, andNotI]
theorem andI_u8 {x m : Int} (h : 0 ≤ m ∧ m < 256) : 0 ≤ andI .u8 x m ∧ andI .u8 x m ≤ m := by
  unfold andI IntKind.wrap
  have h1 : (BitVec.ofInt 8 x &&& BitVec.ofInt 8 m).toNat ≤ m.toNat := by
    rw [BitVec.toNat_and]
    refine Nat.le_trans Nat.and_le_right ?_
    rw [BitVec.toNat_ofInt]
    have : m % (2 ^ 8 : Nat) = m := Int.emod_eq_of_lt h.1 (by omega)
    rw [this]; omega
  have hb : IntKind.u8.bits = 8 := rfl
  have hs : IntKind.u8.signed = false := rfl
  rw [hb, hs] at *
  simp only [Bool.false_and, Bool.false_eq_true, if_false]
  have e : ((BitVec.ofInt 8 x &&& BitVec.ofInt 8 m).toNat : Int) % 2 ^ 8 = ((BitVec.ofInt 8 x &&& BitVec.ofInt 8 m).toNat : Int) := Int.emod_eq_of_lt (by omega) (by have := (BitVec.ofInt 8 x &&& BitVec.ofInt 8 m).isLt; omega)
  rw [e]; omega
theorem wrap_i32 {n : Int} (h : 0 ≤ n) (h' : n < 2147483648) : IntKind.i32.wrap n = n := by
  unfold IntKind.wrap
  have hb : IntKind.i32.bits = 32 := rfl
  have hs : IntKind.i32.signed = true := rfl
  simp only [hb, hs]
  rw [show (2 : Int) ^ 32 = 4294967296 from rfl, show (2 : Int) ^ (32 - 1) = 2147483648 from rfl]
  simp only [Bool.true_and, decide_eq_true_eq]
  split <;> omega
theorem wrap_u8 {n : Int} (h : 0 ≤ n) (h' : n < 256) : IntKind.u8.wrap n = n := by
  unfold IntKind.wrap
  have hb : IntKind.u8.bits = 8 := rfl
  have hs : IntKind.u8.signed = false := rfl
  simp only [hb, hs]
  rw [show (2 : Int) ^ 8 = 256 from rfl]
  simp only [Bool.false_and, Bool.false_eq_true, if_false]
  omega
theorem wrap_u32 {n : Int} (h : 0 ≤ n) (h' : n < 4294967296) : IntKind.u32.wrap n = n := by
  unfold IntKind.wrap
  have hb : IntKind.u32.bits = 32 := rfl
  have hs : IntKind.u32.signed = false := rfl
  simp only [hb, hs]
  rw [show (2 : Int) ^ 32 = 4294967296 from rfl]
  simp only [Bool.false_and, Bool.false_eq_true, if_false]
  omega
theorem wrap_u64 {n : Int} (h : 0 ≤ n) (h' : n < 18446744073709551616) : IntKind.u64.wrap n = n := by
  unfold IntKind.wrap
  have hb : IntKind.u64.bits = 64 := rfl
  have hs : IntKind.u64.signed = false := rfl
  simp only [hb, hs]
  rw [show (2 : Int) ^ 64 = 18446744073709551616 from rfl]
  simp only [Bool.false_and, Bool.false_eq_true, if_false]
  omega
theorem orI_i32 {x y : Int} (hx : 0 ≤ x ∧ x < 1073741824) (hy : 0 ≤ y ∧ y < 1073741824) : 0 ≤ orI .i32 x y ∧ orI .i32 x y < 1073741824 := by
  unfold orI
  have hb : IntKind.i32.bits = 32 := rfl
  rw [hb]
  have e1 : (BitVec.ofInt 32 x).toNat = x.toNat := by
    rw [BitVec.toNat_ofInt, show x % (2 ^ 32 : Nat) = x from Int.emod_eq_of_lt hx.1 (by omega)]
  have e2 : (BitVec.ofInt 32 y).toNat = y.toNat := by
    rw [BitVec.toNat_ofInt, show y % (2 ^ 32 : Nat) = y from Int.emod_eq_of_lt hy.1 (by omega)]
  have h1 : (BitVec.ofInt 32 x ||| BitVec.ofInt 32 y).toNat < 2 ^ 30 := by
    rw [BitVec.toNat_or, e1, e2]
    exact Nat.or_lt_two_pow (by omega) (by omega)
  rw [wrap_i32 (by omega) (by omega)]
  omega
section
variable {X : Ctx} {b : Nat} {rnd : Option Nat} {K : List Fr} {Q : Ex → St → Prop} {e : Env} {H : Heap} {dfs : List Nat}

/-- A range over a function, of the function's own code. -/
theorem YS_rangeF (n m : Nat) {f : Arg} {ps : List Nat} {asg body : ACode} {g : Nat} {pre caps : List D} {d : D} {H' : Heap} (L : ALoop) (hn : H.length = n) (hm : n + 1 = m) (hf : evalA X.G e f = .func g pre caps)
    (hc : callΩ X (.func g pre caps) [.yield m] (H ++ [.dfr false, .loop ⟨e, ps, asg, body, .ready, none, n⟩]) = some (d, H'))
    (hl : H'[m]? = some (.loop L)) (hs : L.st ≠ .busy)
    (h : YX X b none (jumpEx L.pend) K ⟨e, H'.set m (.loop { L with st := .exhausted }), n :: dfs⟩ Q) : YS X b none (.rangeF f ps asg body) K ⟨e, H, dfs⟩ Q := by
  subst hn hm
  unfold YS
  rw [execΩ_rangeF]
  have e0 : H ++ [Chunk.dfr false] ++ [Chunk.loop ⟨e, ps, asg, body, .ready, none, H.length⟩] = H ++ [.dfr false, .loop ⟨e, ps, asg, body, .ready, none, H.length⟩] := by simp
  have e1 : (H ++ [Chunk.dfr false, Chunk.loop ⟨e, ps, asg, body, .ready, none, H.length⟩]).length - 1 = H.length + 1 := by simp
  simp only [enterLoopA, e0, hf, e1, hc, hl, if_neg hs]
  exact h

theorem callΩ_yield {l : Nat} {args : List D} {L : ALoop} (h : H[l]? = some (.loop L)) (hr : L.st = .ready) (ha : args.length = L.params.length) : callΩ X (.yield l) args H = match execΩ X H.length (some l) L.assign ⟨L.env.puts L.params args, H, []⟩ with
      | some (.normal, s1) => match s1.H[l]? with
        | some (.loop L1) =>
          if L1.st = .ready then
            match execΩ X H.length (some l) L.body ⟨s1.env, s1.H.set l (.loop { L1 with st := .busy }), s1.dfs⟩ with
            | some (ex, s2) => match s2.H[l]? with
              | some (.loop L2) => some ((endRoundA ex L2).1, s2.H.set l (.loop (endRoundA ex L2).2))
              | _ => none
            | none => none
          else none
        | _ => none
      | _ => none := by
  have key : ∀ k, callN X (k + 1) (.yield l) args H = match exec X.G H.length (callN X k) k (some l) L.assign ⟨L.env.puts L.params args, H, []⟩ with
      | some (.normal, s1) => match s1.H[l]? with
        | some (.loop L1) =>
          if L1.st = .ready then
            match exec X.G H.length (callN X k) k (some l) L.body ⟨s1.env, s1.H.set l (.loop { L1 with st := .busy }), s1.dfs⟩ with
            | some (ex, s2) => match s2.H[l]? with
              | some (.loop L2) => some ((endRoundA ex L2).1, s2.H.set l (.loop (endRoundA ex L2).2))
              | _ => none
            | none => none
          else none
        | _ => none
      | _ => none := fun k => by
    show roundA X.G (callN X k) k l args H = _
    unfold roundA
    rw [h]
    simp only [hr, ha, and_self, if_true]
    rfl
  have hnone : ∀ (o : D × Heap → Prop), (∀ k, callN X (k + 1) (.yield l) args H = none) → callΩ X (.yield l) args H = none := fun _ hk => by
    show lim _ = _
    rw [show (fun m => callN X m (.yield l) args H) = fun _ => none from funext fun m => by
      cases m with
      | zero => rfl
      | succ k => exact hk k, lim_const]
  rcases (up_exec (X := X) (b := H.length) (rnd := some l) L.assign ⟨L.env.puts L.params args, H, []⟩).cases with hn | ⟨⟨ex, s1⟩, n, hn⟩
  · rw [show execΩ X H.length (some l) L.assign ⟨L.env.puts L.params args, H, []⟩ = none by
      show lim _ = _
      rw [show (fun m => exec X.G H.length (callN X m) m (some l) L.assign ⟨L.env.puts L.params args, H, []⟩) = fun _ => none from funext hn, lim_const]]
    exact hnone (fun _ => True) fun k => by rw [key, hn k]
  · rw [show execΩ X H.length (some l) L.assign ⟨L.env.puts L.params args, H, []⟩ = some (ex, s1) from lim_iff.2 ⟨n, hn⟩]
    have big : ∀ o : Option (D × Heap), (∃ n', ∀ m, n' ≤ m → callN X m (.yield l) args H = o) → callΩ X (.yield l) args H = o := fun o ⟨n', h'⟩ => by
      show lim _ = _
      rw [lim_ev n' (g' := fun _ => o) h', lim_const]
    cases ex with
    | exit i =>
      refine big _ ⟨n + 1, fun m hm => ?_⟩
      obtain ⟨k, rfl⟩ : ∃ k, m = k + 1 := ⟨m - 1, by omega⟩
      rw [key, hn k (by omega)]
    | ret =>
      refine big _ ⟨n + 1, fun m hm => ?_⟩
      obtain ⟨k, rfl⟩ : ∃ k, m = k + 1 := ⟨m - 1, by omega⟩
      rw [key, hn k (by omega)]
    | normal =>
      simp only
      cases hs : s1.H[l]? with
      | none =>
        refine big _ ⟨n + 1, fun m hm => ?_⟩
        obtain ⟨k, rfl⟩ : ∃ k, m = k + 1 := ⟨m - 1, by omega⟩
        rw [key, hn k (by omega)]; simp only [hs]
      | some c =>
        cases c with
        | loop L1 =>
          simp only
          by_cases hL : L1.st = .ready
          · simp only [hL, if_true]
            rcases (up_exec (X := X) (b := H.length) (rnd := some l) L.body ⟨s1.env, s1.H.set l (.loop { L1 with st := .busy }), s1.dfs⟩).cases with hn2 | ⟨⟨ex2, s2⟩, n2, hn2⟩
            · have e2 : execΩ X H.length (some l) L.body ⟨s1.env, s1.H.set l (.loop { L1 with st := .busy }), s1.dfs⟩ = none := by
                show lim _ = _
                rw [show (fun m => exec X.G H.length (callN X m) m (some l) L.body ⟨s1.env, s1.H.set l (.loop { L1 with st := .busy }), s1.dfs⟩) = fun _ => none from funext hn2, lim_const]
              rw [e2]
              refine big _ ⟨n + 1, fun m hm => ?_⟩
              obtain ⟨k, rfl⟩ : ∃ k, m = k + 1 := ⟨m - 1, by omega⟩
              rw [key, hn k (by omega)]; simp only [hs, hL, if_true, hn2 k]
            · rw [show execΩ X H.length (some l) L.body ⟨s1.env, s1.H.set l (.loop { L1 with st := .busy }), s1.dfs⟩ = some (ex2, s2) from lim_iff.2 ⟨n2, hn2⟩]
              refine big _ ⟨max n n2 + 1, fun m hm => ?_⟩
              obtain ⟨k, rfl⟩ : ∃ k, m = k + 1 := ⟨m - 1, by omega⟩
              rw [key, hn k (by omega)]; simp only [hs, hL, if_true, hn2 k (by omega)]
          · simp only [hL, if_false]
            refine big _ ⟨n + 1, fun m hm => ?_⟩
            obtain ⟨k, rfl⟩ : ∃ k, m = k + 1 := ⟨m - 1, by omega⟩
            rw [key, hn k (by omega)]; simp only [hs, hL, if_false]
        | _ =>
          refine big _ ⟨n + 1, fun m hm => ?_⟩
          obtain ⟨k, rfl⟩ : ∃ k, m = k + 1 := ⟨m - 1, by omega⟩
          rw [key, hn k (by omega)]; simp only [hs]

/-- A round of a range over a function. -/
theorem yield_by {l : Nat} {args : List D} {L : ALoop} {r : D × Heap} (h : H[l]? = some (.loop L)) (hr : L.st = .ready) (ha : args.length = L.params.length)
    (h1 : YS X H.length (some l) L.assign [] ⟨L.env.puts L.params args, H, []⟩ fun ex s1 => ex = .normal ∧ ∃ L1, s1.H[l]? = some (.loop L1) ∧ L1.st = .ready ∧
      YS X H.length (some l) L.body [] ⟨s1.env, s1.H.set l (.loop { L1 with st := .busy }), s1.dfs⟩ fun ex s2 => ∃ L2, s2.H[l]? = some (.loop L2) ∧ ((endRoundA ex L2).1, s2.H.set l (.loop (endRoundA ex L2).2)) = r) : callΩ X (.yield l) args H = some r := by
  rw [callΩ_yield h hr ha]
  unfold YS at h1
  simp only [feed] at h1
  cases hx : execΩ X H.length (some l) L.assign ⟨L.env.puts L.params args, H, []⟩ with
  | none => rw [hx] at h1; exact h1.elim
  | some x =>
    obtain ⟨ex, s1⟩ := x
    rw [hx] at h1
    obtain ⟨rfl, L1, g1, g2, g3⟩ := h1
    simp only [g1, g2, if_true]
    cases hy : execΩ X H.length (some l) L.body ⟨s1.env, s1.H.set l (.loop { L1 with st := .busy }), s1.dfs⟩ with
    | none => rw [hy] at g3; exact g3.elim
    | some y =>
      obtain ⟨ex2, s2⟩ := y
      rw [hy] at g3
      obtain ⟨L2, k1, k2⟩ := g3
      simp only [k1, k2]
end
end Go.AM
namespace Go.AM
/-! Regions whose order is open, where what reads memory stands apart from what turns it. -/
def eIdx : Nat → List (AOper × Nat × Nat) → List Nat
  | _, [] => []
  | i, (o, _, _) :: r => if o.op.isE then i :: eIdx (i + 1) r else eIdx (i + 1) r
def allLt (lo : Nat) : List Nat → Bool
  | [] => true
  | j :: r => decide (j < lo) && allLt lo r
def allGe (hi : Nat) : List Nat → Bool
  | [] => true
  | j :: r => decide (hi ≤ j) && allGe hi r
def statD : Nat → List (AOper × Nat × Nat) → List Nat → Bool
  | _, [], _ => true
  | i, (o, lo, hi) :: r, past =>
    if o.op.isE then statD (i + 1) r (i :: past) else
    if o.op.isL then (allLt lo past && (allGe hi (eIdx (i + 1) r) && statD (i + 1) r past)) else statD (i + 1) r past
section
variable {G : Nat → Option (List D)} {b : Nat} {c : Cl}
theorem samePast_lt {e : Env} {o : AOper} {d : D} {lo : Nat} : ∀ {past : List (Nat × Heap)}, allLt lo (past.map (·.1)) = true → samePast G b c e o d lo past = true
  | [], _ => rfl
  | (j, H) :: r, h => by
    simp only [List.map_cons, allLt, Bool.and_eq_true, decide_eq_true_eq] at h
    have h1 : Nat.blt j lo = true := by rw [Nat.blt_eq]; exact h.1
    simp only [samePast, h1, Bool.true_or, Bool.true_and]
    exact samePast_lt h.2
theorem sameFut_ge {e : Env} {o : AOper} {d : D} {hi : Nat} : ∀ {fut : List (Nat × Heap)}, allGe hi (fut.map (·.1)) = true → sameFut G b c e o d hi fut = true
  | [], _ => rfl
  | (j, H) :: r, h => by
    simp only [List.map_cons, allGe, Bool.and_eq_true, decide_eq_true_eq] at h
    have h1 : Nat.ble hi j = true := by rw [Nat.ble_eq]; exact h.1
    simp only [sameFut, h1, Bool.true_or, Bool.true_and]
    exact sameFut_ge h.2
theorem runD_fut : ∀ {l : List (AOper × Nat × Nat)} {i : Nat} {past : List (Nat × Heap)} {e : Env} {H : Heap} {r : Env × Heap × List (Nat × Heap)}, runD G b c i l past e H = some r → r.2.2.map (·.1) = eIdx i l
  | [], _, _, _, _, r, h => by simp [runD] at h; subst h; rfl
  | (o, lo, hi) :: l, i, past, e, H, r, h => by
    unfold runD at h
    split at h
    · split at h
      · rename_i hE
        split at h
        · rename_i hr
          cases h
          simp only [eIdx, hE, if_true, List.map_cons]
          rw [← runD_fut hr]
        · cases h
      · rename_i hE
        split at h
        · rename_i hr
          simp only [eIdx, hE]
          split at h
          · split at h
            · cases h; exact runD_fut hr
            · cases h
          · cases h; exact runD_fut hr
        · cases h
    · cases h
theorem runD_stat : ∀ {l : List (AOper × Nat × Nat)} {i : Nat} {past : List (Nat × Heap)} {e : Env} {H : Heap}, statD i l (past.map (·.1)) = true → (runD G b c i l past e H).map (fun r => (r.1, r.2.1)) = runOps G b c (strip l) e H
  | [], _, _, _, _, _ => rfl
  | (o, lo, hi) :: l, i, past, e, H, hs => by
    unfold statD at hs
    unfold runD
    simp only [strip, runOps]
    cases ho : runOp G b c e H o with
    | none => rfl
    | some x =>
      obtain ⟨d, H'⟩ := x
      simp only
      by_cases hE : o.op.isE = true
      · rw [if_pos hE] at hs ⊢
        have ih := runD_stat (l := l) (i := i + 1) (past := (i, H) :: past) (e := putO e o.dst d) (H := H') (by simpa using hs)
        rw [← ih]
        cases runD G b c (i + 1) l ((i, H) :: past) (putO e o.dst d) H' <;> rfl
      · rw [if_neg hE] at hs ⊢
        by_cases hL : o.op.isL = true
        · rw [if_pos hL] at hs
          simp only [Bool.and_eq_true] at hs
          have ih := runD_stat (l := l) (i := i + 1) (past := past) (e := putO e o.dst d) (H := H') hs.2.2
          rw [← ih]
          cases hr : runD G b c (i + 1) l past (putO e o.dst d) H' with
          | none => rfl
          | some r =>
            have hf := runD_fut hr
            have h2 : sameFut G b c e o d hi r.2.2 = true := sameFut_ge (by rw [hf]; exact hs.2.1)
            simp only [hL, if_true, samePast_lt hs.1, h2, Bool.and_self]
        · rw [if_neg hL] at hs
          have ih := runD_stat (l := l) (i := i + 1) (past := past) (e := putO e o.dst d) (H := H') hs
          rw [← ih]
          cases hr : runD G b c (i + 1) l past (putO e o.dst d) H' with
          | none => rfl
          | some r => simp only [hL]; rfl
end
section
variable {X : Ctx} {b : Nat} {rnd : Option Nat} {K : List Fr} {Q : Ex → St → Prop} {e : Env} {H : Heap} {dfs : List Nat}
theorem YS_dregS {l : List (AOper × Nat × Nat)} (hp : statD 0 l [] = true) : YS X b rnd (.dreg l) K ⟨e, H, dfs⟩ Q = YO X b rnd (strip l) K e H dfs Q := by
  have h1 : execΩ X b rnd (.dreg l) ⟨e, H, dfs⟩ = match runOps X.G b (callΩ X) (strip l) e H with
      | some (e', H') => some (.normal, ⟨e', H', dfs⟩)
      | none => none := by
    have hst := runD_stat (G := X.G) (b := b) (c := callΩ X) (l := l) (i := 0) (past := []) (e := e) (H := H) hp
    cases h : runD X.G b (callΩ X) 0 l [] e H with
    | some x =>
      obtain ⟨e', H', fut⟩ := x
      rw [h] at hst
      rw [← hst, execΩ_dreg (s := ⟨e, H, dfs⟩) h]
      rfl
    | none =>
      rw [h] at hst
      rw [← hst]
      refine (lim_ev 0 fun m _ => ?_).trans (lim_const none)
      simp only [exec]
      cases hm : runD X.G b (callN X m) 0 l [] e H with
      | none => rfl
      | some x =>
        exfalso
        have hle : Cl.le (callN X m) (callΩ X) := fun f a H r hr => callΩ_of hr
        have := runD_mono hle hm
        rw [h] at this
        cases this
  unfold YS YO
  rw [h1]
  rfl
/-- What turns the heap, calls aside. -/
def AOp.isR : AOp → Bool
  | .call _ _ => false
  | o => o.isE
def rIdx : Nat → List (AOper × Nat × Nat) → List Nat
  | _, [] => []
  | i, (o, _, _) :: r => if o.op.isR then i :: rIdx (i + 1) r else rIdx (i + 1) r
def statM : Nat → List (AOper × Nat × Nat) → List Nat → Bool
  | _, [], _ => true
  | i, (o, lo, hi) :: r, past =>
    if o.op.isR then statM (i + 1) r (i :: past) else
    if o.op.isL then (allLt lo past && (allGe hi (rIdx (i + 1) r) && statM (i + 1) r past)) else statM (i + 1) r past
open Classical in
noncomputable def runM (X : Ctx) (b : Nat) : List AOper → Env → Heap → Option (Env × Heap)
  | [], e, H => some (e, H)
  | o :: r, e, H => match runOp X.G b (callΩ X) e H o with
    | some (d, H') => if o.op.isR = true ∨ H' = H then runM X b r (putO e o.dst d) H' else none
    | none => none
theorem allLt_iff {lo : Nat} : ∀ {l : List Nat}, allLt lo l = true ↔ ∀ j ∈ l, j < lo
  | [] => by simp [allLt]
  | j :: r => by simp [allLt, allLt_iff (l := r)]
theorem allGe_iff {hi : Nat} : ∀ {l : List Nat}, allGe hi l = true ↔ ∀ j ∈ l, hi ≤ j
  | [] => by simp [allGe]
  | j :: r => by simp [allGe, allGe_iff (l := r)]
theorem isR_isE {o : AOp} (h : o.isR = true) : o.isE = true := by cases o <;> first | exact h | cases h
theorem rIdx_ge : ∀ {l : List (AOper × Nat × Nat)} {i : Nat}, ∀ j ∈ rIdx i l, i ≤ j
  | [], i, j, h => by simp [rIdx] at h
  | (o, lo, hi) :: r, i, j, h => by
    simp only [rIdx] at h
    split at h
    · rcases List.mem_cons.1 h with rfl | h
      · omega
      · have := rIdx_ge j h; omega
    · have := rIdx_ge j h; omega
theorem runD_M : ∀ {l : List (AOper × Nat × Nat)} {i : Nat} {past : List (Nat × Heap)} {real : List Nat} {e : Env} {H : Heap} {r : Env × Heap}, runM X b (strip l) e H = some r → statM i l real = true →
    (∀ x ∈ past, x.1 < i ∧ ((∃ s ∈ real, x.1 ≤ s) ∨ x.2 = H)) → (∀ s ∈ real, s < i) →
    ∃ fut, runD X.G b (callΩ X) i l past e H = some (r.1, r.2, fut) ∧ ∀ x ∈ fut, i ≤ x.1 ∧ ((∃ s ∈ rIdx i l, s ≤ x.1) ∨ x.2 = H)
  | [], i, past, real, e, H, r, h, _, _, _ => by cases h; exact ⟨[], rfl, by simp⟩
  | (o, lo, hi) :: l, i, past, real, e, H, r, h, hs, hp, hr => by
    simp only [strip, runM] at h
    split at h
    · rename_i d H' ho
      split at h
      · rename_i hh
        unfold statM at hs
        unfold runD
        rw [ho]
        simp only
        by_cases hR : o.op.isR = true
        · rw [if_pos hR] at hs
          obtain ⟨fut, g1, g2⟩ := runD_M (i := i + 1) (past := (i, H) :: past) (real := i :: real) h hs (fun x hx => by
            rcases List.mem_cons.1 hx with rfl | hx
            · exact ⟨by simp, .inl ⟨i, by simp, Nat.le_refl _⟩⟩
            · obtain ⟨q1, q2⟩ := hp x hx
              exact ⟨by omega, .inl ⟨i, by simp, by omega⟩⟩) (fun s hs' => by
            rcases List.mem_cons.1 hs' with rfl | hs'
            · omega
            · have := hr s hs'; omega)
          rw [if_pos (isR_isE hR), g1]
          refine ⟨_, rfl, fun x hx => ?_⟩
          have e1 : rIdx i ((o, lo, hi) :: l) = i :: rIdx (i + 1) l := by simp [rIdx, hR]
          rw [e1]
          rcases List.mem_cons.1 hx with rfl | hx
          · exact ⟨Nat.le_refl _, .inl ⟨i, by simp, Nat.le_refl _⟩⟩
          · exact ⟨by have := (g2 x hx).1; omega, .inl ⟨i, by simp, by have := (g2 x hx).1; omega⟩⟩
        · have hH : H' = H := hh.resolve_left hR
          subst hH
          rw [if_neg hR] at hs
          have e1 : rIdx i ((o, lo, hi) :: l) = rIdx (i + 1) l := by simp [rIdx, hR]
          rw [e1]
          have hst : statM (i + 1) l real = true := by
            split at hs
            · simp only [Bool.and_eq_true] at hs; exact hs.2.2
            · exact hs
          by_cases hE : o.op.isE = true
          · obtain ⟨fut, g1, g2⟩ := runD_M (i := i + 1) (past := (i, H') :: past) (real := real) h hst (fun x hx => by
              rcases List.mem_cons.1 hx with rfl | hx
              · exact ⟨by simp, .inr rfl⟩
              · obtain ⟨q1, q2⟩ := hp x hx
                exact ⟨by omega, q2⟩) (fun s hs' => by have := hr s hs'; omega)
            rw [if_pos hE, g1]
            refine ⟨_, rfl, fun x hx => ?_⟩
            rcases List.mem_cons.1 hx with rfl | hx
            · exact ⟨Nat.le_refl _, .inr rfl⟩
            · exact ⟨by have := (g2 x hx).1; omega, (g2 x hx).2⟩
          · obtain ⟨fut, g1, g2⟩ := runD_M (i := i + 1) (past := past) (real := real) h hst (fun x hx => by
              obtain ⟨q1, q2⟩ := hp x hx
              exact ⟨by omega, q2⟩) (fun s hs' => by have := hr s hs'; omega)
            rw [if_neg hE, g1]
            simp only
            by_cases hL : o.op.isL = true
            · rw [if_pos hL] at hs ⊢
              simp only [Bool.and_eq_true] at hs
              have h1 := allLt_iff.1 hs.1
              have h2 := allGe_iff.1 hs.2.1
              have hsame : sameAt X.G b (callΩ X) e o d H' = true := by unfold sameAt; rw [ho]; exact D.beq_self d
              have sp : samePast X.G b (callΩ X) e o d lo past = true := by
                clear g1 g2 h hst
                induction past with
                | nil => rfl
                | cons x r ih =>
                  obtain ⟨j, Hj⟩ := x
                  have hx := hp (j, Hj) (by simp)
                  simp only [samePast]
                  rw [Bool.and_eq_true]
                  refine ⟨?_, ih fun y hy => hp y (List.mem_cons_of_mem _ hy)⟩
                  by_cases hj : j < lo
                  · rw [Bool.or_eq_true]; left; rw [Nat.blt_eq]; exact hj
                  · rcases hx.2 with ⟨s, hs1, hs2⟩ | hx2
                    · have := h1 s hs1; simp only at hs2; omega
                    · simp only at hx2; subst hx2; rw [hsame, Bool.or_true]
              have sf : sameFut X.G b (callΩ X) e o d hi fut = true := by
                clear g1 h hst
                induction fut with
                | nil => rfl
                | cons x r ih =>
                  obtain ⟨j, Hj⟩ := x
                  have hx := g2 (j, Hj) (by simp)
                  simp only [sameFut]
                  rw [Bool.and_eq_true]
                  refine ⟨?_, ih fun y hy => g2 y (List.mem_cons_of_mem _ hy)⟩
                  by_cases hj : hi ≤ j
                  · rw [Bool.or_eq_true]; left; rw [Nat.ble_eq]; exact hj
                  · rcases hx.2 with ⟨s, hs1, hs2⟩ | hx2
                    · have := h2 s hs1; simp only at hs2; omega
                    · simp only at hx2; subst hx2; rw [hsame, Bool.or_true]
              rw [sp, sf]
              exact ⟨fut, rfl, fun x hx => ⟨by have := (g2 x hx).1; omega, (g2 x hx).2⟩⟩
            · rw [if_neg hL]
              exact ⟨fut, rfl, fun x hx => ⟨by have := (g2 x hx).1; omega, (g2 x hx).2⟩⟩
      · cases h
    · cases h

/-- Operations in their order, of which calls leave the heap as it is; else what is left to show. -/
def YM (X : Ctx) (b : Nat) (rnd : Option Nat) (ops : List AOper) (K : List Fr) (e : Env) (H : Heap) (dfs : List Nat) (Q : Ex → St → Prop) (Z : Prop) : Prop := match runM X b ops e H with
  | some (e', H') => YX X b rnd .normal K ⟨e', H', dfs⟩ Q
  | none => Z
open Classical in
noncomputable def YM1 (X : Ctx) (b : Nat) (rnd : Option Nat) (R : Bool) (o : Option (D × Heap)) (dst : Option Nat) (r : List AOper) (K : List Fr) (e : Env) (H : Heap) (dfs : List Nat) (Q : Ex → St → Prop) (Z : Prop) : Prop := match o with
  | some (d, H') => if R = true ∨ H' = H then YM X b rnd r K (putO e dst d) H' dfs Q Z else Z
  | none => Z
theorem YS_dregI {l : List (AOper × Nat × Nat)} : YS X b rnd (.dreg l) K ⟨e, H, dfs⟩ Q = if statM 0 l [] = true then YM X b rnd (strip l) K e H dfs Q (YSd X b rnd l K e H dfs Q) else YZ X b rnd (strip l) K e H dfs Q (YSd X b rnd l K e H dfs Q) := by
  split
  · rename_i hs
    unfold YM YSd
    cases hr : runM X b (strip l) e H with
    | none => rfl
    | some r =>
      obtain ⟨fut, g1, _⟩ := runD_M (i := 0) (past := []) (real := []) hr hs (by simp) (by simp)
      unfold YS
      rw [execΩ_dreg (s := ⟨e, H, dfs⟩) g1]
      rfl
  · exact YS_dregZ
variable {Z : Prop} {o : AOper} {r : List AOper} {d : D} {dst : Option Nat} {R : Bool}
theorem YM_nil : YM X b rnd [] K e H dfs Q Z = YX X b rnd .normal K ⟨e, H, dfs⟩ Q := rfl
open Classical in
theorem YM_cons : YM X b rnd (o :: r) K e H dfs Q Z = YM1 X b rnd o.op.isR (runOp X.G b (callΩ X) e H o) o.dst r K e H dfs Q Z := by
  unfold YM YM1
  simp only [runM]
  cases runOp X.G b (callΩ X) e H o with
  | none => rfl
  | some x =>
    obtain ⟨d, H'⟩ := x
    simp only
    by_cases h : o.op.isR = true ∨ H' = H
    · rw [if_pos h, if_pos h]; rfl
    · rw [if_neg h, if_neg h]
theorem YM1_some : YM1 X b rnd R (some (d, H)) dst r K e H dfs Q Z = YM X b rnd r K (putO e dst d) H dfs Q Z := by
  simp [YM1]
theorem YM1_R {H' : Heap} : YM1 X b rnd true (some (d, H')) dst r K e H dfs Q Z = YM X b rnd r K (putO e dst d) H' dfs Q Z := by
  simp [YM1]
theorem YM1_ite {c : Prop} [Decidable c] {x y : Option (D × Heap)} : YM1 X b rnd R (if c then x else y) dst r K e H dfs Q Z = if c then YM1 X b rnd R x dst r K e H dfs Q Z else YM1 X b rnd R y dst r K e H dfs Q Z := by
  split <;> rfl
theorem YS_gen {p : ACode} (P : Env → Prop) (h0 : P e) (h : ∀ e', P e' → YS X b rnd p K ⟨e', H, dfs⟩ Q) : YS X b rnd p K ⟨e, H, dfs⟩ Q := h e h0
/-- A range over a function that ends by itself; what the rounds turn is H1. -/
theorem YS_rangeN (n m : Nat) (H1 : Heap) {f : Arg} {ps : List Nat} {asg body : ACode} {g : Nat} {pre caps : List D} {d : D} (hn : H.length = n) (hm : n + 1 = m) (h1 : H1.length = n) (hf : evalA X.G e f = .func g pre caps)
    (hc : ∀ L : ALoop, L = ⟨e, ps, asg, body, .ready, none, n⟩ → callΩ X (.func g pre caps) [.yield m] (H ++ [.dfr false, .loop L]) = some (d, H1 ++ [.dfr false, .loop L]))
    (h : YX X b none .normal K ⟨e, H1 ++ [.dfr false, .loop ⟨e, ps, asg, body, .exhausted, none, n⟩], n :: dfs⟩ Q) : YS X b none (.rangeF f ps asg body) K ⟨e, H, dfs⟩ Q := by
  refine YS_rangeF n m ⟨e, ps, asg, body, .ready, none, n⟩ hn hm hf (hc _ rfl) ?_ (by simp) ?_
  · rw [← hm, ← h1]; simp [getH]
  · rw [← hm, ← h1] at *
    simp only [setH, List.set_cons_succ, List.set_cons_zero, jumpEx]
    exact h
/-- A range over a function that is left. -/
theorem YS_rangeB (n m : Nat) (H1 : Heap) (jp : AJump) {f : Arg} {ps : List Nat} {asg body : ACode} {g : Nat} {pre caps : List D} {d : D} (hn : H.length = n) (hm : n + 1 = m) (h1 : H1.length = n) (hf : evalA X.G e f = .func g pre caps)
    (hc : ∀ L : ALoop, L = ⟨e, ps, asg, body, .ready, none, n⟩ → callΩ X (.func g pre caps) [.yield m] (H ++ [.dfr false, .loop L]) = some (d, H1 ++ [.dfr false, .loop { L with st := .done, pend := some jp }]))
    (h : YX X b none (jumpEx (some jp)) K ⟨e, H1 ++ [.dfr false, .loop ⟨e, ps, asg, body, .exhausted, some jp, n⟩], n :: dfs⟩ Q) : YS X b none (.rangeF f ps asg body) K ⟨e, H, dfs⟩ Q := by
  refine YS_rangeF n m ⟨e, ps, asg, body, .done, some jp, n⟩ hn hm hf (hc _ rfl) ?_ (by simp) ?_
  · rw [← hm, ← h1]; simp [getH]
  · rw [← hm, ← h1] at *
    simp only [setH, List.set_cons_succ, List.set_cons_zero]
    exact h
theorem YS_code {p q : ACode} {s : St} (h : p = q) (h' : YS X b rnd q K s Q) : YS X b rnd p K s Q := h ▸ h'
end
theorem mapO_ints {H : Heap} {n f : Nat} {k : IntKind} (l : List Int) : mapO (fz H n (f + 1)) (l.map (D.int k)) = some (l.map (D.int k)) := mapO_map (g := fz H n (f + 1)) (fun x => by rfl) l
theorem mapO_strs {H : Heap} {n f : Nat} (l : List (List UInt8)) : mapO (fz H n (f + 1)) (l.map D.str) = some (l.map D.str) := mapO_map (g := fz H n (f + 1)) (fun x => by rfl) l
theorem mapO_bools {H : Heap} {n f : Nat} (l : List Bool) : mapO (fz H n (f + 1)) (l.map D.bool) = some (l.map D.bool) := mapO_map (g := fz H n (f + 1)) (fun x => by rfl) l
theorem unders_ints {n : Nat} {k : IntKind} (l : List Int) : D.unders n (l.map (D.int k)) = true := unders_map (fun _ => rfl) l
theorem unders_strs {n : Nat} (l : List (List UInt8)) : D.unders n (l.map D.str) = true := unders_map (fun _ => rfl) l
theorem unders_bools {n : Nat} (l : List Bool) : D.unders n (l.map D.bool) = true := unders_map (fun _ => rfl) l
theorem ones_ints {k : IntKind} (l : List Int) : D.ones (l.map (D.int k)) = true := ones_map (fun _ => rfl) l
theorem ones_strs (l : List (List UInt8)) : D.ones (l.map D.str) = true := ones_map (fun _ => rfl) l
theorem ones_bools (l : List Bool) : D.ones (l.map D.bool) = true := ones_map (fun _ => rfl) l
theorem mapO_intsT {H : Heap} {n f m : Nat} {k : IntKind} (l : List Int) : mapO (fz H n (f + 1)) ((l.map (D.int k)).take m) = some ((l.map (D.int k)).take m) := by rw [← List.map_take]; exact mapO_ints _
theorem unders_intsT {n m : Nat} {k : IntKind} (l : List Int) : D.unders n ((l.map (D.int k)).take m) = true := by rw [← List.map_take]; exact unders_ints _
theorem ones_intsT {m : Nat} {k : IntKind} (l : List Int) : D.ones ((l.map (D.int k)).take m) = true := by rw [← List.map_take]; exact ones_ints _
theorem under_ite {p : Prop} [Decidable p] {x y : D} {n : Nat} : (if p then x else y).under n = if p then x.under n else y.under n := by split <;> rfl
theorem splice_set {cs : List D} {i : Nat} {x : D} (h : i < cs.length) : cs.take i ++ ([x] ++ cs.drop (i + 1)) = cs.set i x := by
  rw [List.set_eq_take_append_cons_drop, if_pos h]; rfl
theorem appendD_full {b : Nat} {H : Heap} {id hw es bytes m : Nat} {cs ys : List D} {nil : Bool} {n : Nat} (h : H[id]? = some (.row es cs nil)) (hc : cs.length = hw) (hn : n * es = hw) (hnil : nil = true → n = 0) (h1 : (n + m) * bytes ≤ maxBytes) (h2 : n + m ≤ maxBytes) (hs : storable b H id ys = true) (hm : m ≠ 0) :
    appendD b H es bytes (.osl id hw 0 n) ys m = some (.osl id (hw + m * es) 0 (n + m), H.set id (.row es (cs ++ ys) false)) := by
  simp only [appendD, h]
  rw [if_pos ⟨trivial, hc, by omega, hnil, h1, h2, hs⟩, if_neg hm, if_pos hn]
theorem set_same {α : Type} {l : List α} {i : Nat} {x : α} (h : l[i]? = some x) : l.set i x = l := by
  obtain ⟨hlt, e⟩ := List.getElem?_eq_some_iff.1 h
  subst e
  exact List.set_getElem_self hlt
theorem set_set {α : Type} {l : List α} {i : Nat} {x y : α} : (l.set i x).set i y = l.set i y := List.set_set ..
theorem get_set {α : Type} {l : List α} {i : Nat} {x : α} (h : i < l.length) : (l.set i x)[i]? = some x := List.getElem?_set_self h
theorem mapO_nats {H : Heap} {n f : Nat} {k : IntKind} (l : List Nat) : mapO (fz H n (f + 1)) (l.map fun n : Nat => D.int k (n : Int)) = some (l.map fun n : Nat => D.int k (n : Int)) := mapO_map (g := fz H n (f + 1)) (fun x => by rfl) l
theorem unders_nats {n : Nat} {k : IntKind} (l : List Nat) : D.unders n (l.map fun n : Nat => D.int k (n : Int)) = true := unders_map (fun _ => rfl) l
theorem ones_nats {k : IntKind} (l : List Nat) : D.ones (l.map fun n : Nat => D.int k (n : Int)) = true := ones_map (fun _ => rfl) l
theorem add_lt {n k : Nat} : (n + k < n) = False := by simp
end Go.AM
/- The program's structs, and how they lie in cells. Printed by mkty.py. -/
namespace Go.AM
inductive Dec where
  | mk (neg : Bool) (coefF : Nl) (coef : List Int) (exp : Int)
def Dec.neg : Dec → Bool | .mk x _ _ _ => x
def Dec.coefF : Dec → Nl | .mk _ x _ _ => x
def Dec.coef : Dec → List Int | .mk _ _ x _ => x
def Dec.exp : Dec → Int | .mk _ _ _ x => x
mutual
def Dec.cells : Dec → List D
  | .mk neg coefF coef exp => [.bool neg] ++ [SL coefF (coef.map (D.int .u32)) coef.length] ++ [.int .i64 exp]
def Dec.cellsL : List Dec → List D
  | [] => []
  | x :: r => Dec.cells x ++ Dec.cellsL r
end
theorem Dec.cells_eq (x : Dec) : x.cells = [.bool x.neg] ++ [SL x.coefF (x.coef.map (D.int .u32)) x.coef.length] ++ [.int .i64 x.exp] := by cases x; simp only [Dec.cells]; rfl
theorem Dec.cells_length (x : Dec) : x.cells.length = 3 := by rw [Dec.cells_eq]; simp []
theorem Dec.unders (x : Dec) (n : Nat) : D.unders n x.cells = true := by rw [Dec.cells_eq]; simp [D.unders_append, unders_nil, unders_cons, under_int, under_str, under_bool, under_SL]
theorem Dec.ones (x : Dec) : D.ones x.cells = true := by rw [Dec.cells_eq]; simp [D.ones_append, ones_nil, ones_cons, one_int, one_str, one_bool, one_SL]
theorem Dec.fz (x : Dec) {H : Heap} {n f : Nat} : mapO (Go.AM.fz H n (f + 1)) x.cells = some x.cells := by rw [Dec.cells_eq]; simp [mapO_append, mapO, fz_SL, fz_int, fz_str, fz_bool]
theorem Dec.load (x : Dec) (r : List D) : loadD true 3 (x.cells ++ r) = some (.agg x.cells) := by simp [loadD, Dec.cells_length, List.take_append_of_le_length]
theorem Dec.load0 (x : Dec) : loadD true 3 x.cells = some (.agg x.cells) := by simpa using Dec.load x []
theorem Dec.take (x : Dec) (r : List D) : (x.cells ++ r).take 3 = x.cells := by simp [Dec.cells_length, List.take_append_of_le_length]
theorem Dec.l_neg (x : Dec) (r : List D) : loadD false 1 ((x.cells ++ r)) = some (.bool x.neg) := by rw [Dec.cells_eq]; simp [loadD, List.drop_append]
theorem Dec.m_neg (x : Dec) : loadD false 1 (x.cells) = some (.bool x.neg) := by simpa using Dec.l_neg x []
theorem Dec.l_coef (x : Dec) (r : List D) : loadD false 1 ((x.cells ++ r).drop 1) = some (SL x.coefF (x.coef.map (D.int .u32)) x.coef.length) := by rw [Dec.cells_eq]; simp [loadD, List.drop_append]
theorem Dec.m_coef (x : Dec) : loadD false 1 (x.cells.drop 1) = some (SL x.coefF (x.coef.map (D.int .u32)) x.coef.length) := by simpa using Dec.l_coef x []
theorem Dec.t_coef (x : Dec) : loadD false 1 x.cells.tail = some (SL x.coefF (x.coef.map (D.int .u32)) x.coef.length) := by simpa using Dec.m_coef x
theorem Dec.l_exp (x : Dec) (r : List D) : loadD false 1 ((x.cells ++ r).drop 2) = some (.int .i64 x.exp) := by rw [Dec.cells_eq]; simp [loadD, List.drop_append]
theorem Dec.m_exp (x : Dec) : loadD false 1 (x.cells.drop 2) = some (.int .i64 x.exp) := by simpa using Dec.l_exp x []
def Dec.rest (l : List Dec) (k : Nat) : List D := (Dec.cellsL l).drop ((k + 1) * 3)
theorem Dec.cellsL_drop {l : List Dec} {k : Nat} (hk : k < l.length) : (Dec.cellsL l).drop (k * 3) = l[k].cells ++ Dec.rest l k := by
  unfold Dec.rest
  induction l generalizing k with
  | nil => simp at hk
  | cons x r ih =>
    cases k with
    | zero => simp [Dec.cellsL, List.drop_append, Dec.cells_length]
    | succ k =>
      have := ih (k := k) (by simpa using hk)
      simp only [Dec.cellsL, List.getElem_cons_succ, List.drop_append, Dec.cells_length]
      rw [show (k + 1) * 3 - 3 = k * 3 by omega, show (k + 1 + 1) * 3 - 3 = (k + 1) * 3 by omega, List.drop_eq_nil_of_le (as := x.cells) (by rw [Dec.cells_length]; omega), List.drop_eq_nil_of_le (as := x.cells) (by rw [Dec.cells_length]; omega)]
      simpa using this
theorem Dec.cellsL_length (l : List Dec) : (Dec.cellsL l).length = l.length * 3 := by
  induction l with
  | nil => rfl
  | cons x r ih => simp only [Dec.cellsL, List.length_append, Dec.cells_length, ih, List.length_cons]; omega
theorem Dec.cellsL_append (l r : List Dec) : Dec.cellsL (l ++ r) = Dec.cellsL l ++ Dec.cellsL r := by
  induction l with
  | nil => rfl
  | cons x l ih => simp [Dec.cellsL, ih]
theorem Dec.unders_L (l : List Dec) (n : Nat) : D.unders n (Dec.cellsL l) = true := by
  induction l with
  | nil => rfl
  | cons x l ih => simp [Dec.cellsL, D.unders_append, Dec.unders, ih]
theorem Dec.ones_L (l : List Dec) : D.ones (Dec.cellsL l) = true := by
  induction l with
  | nil => rfl
  | cons x l ih => simp [Dec.cellsL, D.ones_append, Dec.ones, ih]
theorem Dec.fz_L (l : List Dec) {H : Heap} {n f : Nat} : mapO (Go.AM.fz H n (f + 1)) (Dec.cellsL l) = some (Dec.cellsL l) := by
  induction l with
  | nil => rfl
  | cons x l ih => simp [Dec.cellsL, mapO_append, Dec.fz, ih]
theorem Dec.ext_all {x y : Dec} (h : x.neg = y.neg ∧ x.coefF = y.coefF ∧ x.coef = y.coef ∧ x.exp = y.exp) : x = y := by
  cases x; cases y; simp_all [Dec.neg, Dec.coefF, Dec.coef, Dec.exp]
inductive Val where
  | mk (kind : Int) (num : Dec) (text : List UInt8) (listF : Nl) (list : List Val) (keysF : Nl) (keys : List (List UInt8))
def Val.kind : Val → Int | .mk x _ _ _ _ _ _ => x
def Val.num : Val → Dec | .mk _ x _ _ _ _ _ => x
def Val.text : Val → List UInt8 | .mk _ _ x _ _ _ _ => x
def Val.listF : Val → Nl | .mk _ _ _ x _ _ _ => x
def Val.list : Val → List Val | .mk _ _ _ _ x _ _ => x
def Val.keysF : Val → Nl | .mk _ _ _ _ _ x _ => x
def Val.keys : Val → List (List UInt8) | .mk _ _ _ _ _ _ x => x
mutual
def Val.cells : Val → List D
  | .mk kind num text listF list keysF keys => [.int .i64 kind] ++ Dec.cells num ++ [.str text] ++ [SL listF (Val.cellsL list) list.length] ++ [SL keysF (keys.map D.str) keys.length]
def Val.cellsL : List Val → List D
  | [] => []
  | x :: r => Val.cells x ++ Val.cellsL r
end
theorem Val.cells_eq (x : Val) : x.cells = [.int .i64 x.kind] ++ Dec.cells x.num ++ [.str x.text] ++ [SL x.listF (Val.cellsL x.list) x.list.length] ++ [SL x.keysF (x.keys.map D.str) x.keys.length] := by cases x; simp only [Val.cells]; rfl
theorem Val.cells_length (x : Val) : x.cells.length = 7 := by rw [Val.cells_eq]; simp [Dec.cells_length]
theorem Val.unders (x : Val) (n : Nat) : D.unders n x.cells = true := by rw [Val.cells_eq]; simp [D.unders_append, unders_nil, unders_cons, under_int, under_str, under_bool, under_SL, Dec.unders]
theorem Val.ones (x : Val) : D.ones x.cells = true := by rw [Val.cells_eq]; simp [D.ones_append, ones_nil, ones_cons, one_int, one_str, one_bool, one_SL, Dec.ones]
theorem Val.fz (x : Val) {H : Heap} {n f : Nat} : mapO (Go.AM.fz H n (f + 1)) x.cells = some x.cells := by rw [Val.cells_eq]; simp [mapO_append, mapO, fz_SL, fz_int, fz_str, fz_bool, Dec.fz]
theorem Val.load (x : Val) (r : List D) : loadD true 7 (x.cells ++ r) = some (.agg x.cells) := by simp [loadD, Val.cells_length, List.take_append_of_le_length]
theorem Val.load0 (x : Val) : loadD true 7 x.cells = some (.agg x.cells) := by simpa using Val.load x []
theorem Val.take (x : Val) (r : List D) : (x.cells ++ r).take 7 = x.cells := by simp [Val.cells_length, List.take_append_of_le_length]
theorem Val.l_kind (x : Val) (r : List D) : loadD false 1 ((x.cells ++ r)) = some (.int .i64 x.kind) := by rw [Val.cells_eq]; simp [loadD, Dec.cells_length, List.drop_append]
theorem Val.m_kind (x : Val) : loadD false 1 (x.cells) = some (.int .i64 x.kind) := by simpa using Val.l_kind x []
theorem Val.l_num (x : Val) (r : List D) : loadD true 3 ((x.cells ++ r).drop 1) = some (.agg x.num.cells) := by rw [Val.cells_eq]; simp [loadD, Dec.cells_length, List.take_append_of_le_length, List.drop_append]
theorem Val.m_num (x : Val) : loadD true 3 (x.cells.drop 1) = some (.agg x.num.cells) := by simpa using Val.l_num x []
theorem Val.l_num_neg (x : Val) (r : List D) : loadD false 1 ((x.cells ++ r).drop 1) = some (.bool x.num.neg) := by rw [Val.cells_eq, Dec.cells_eq]; simp [loadD, List.drop_append]
theorem Val.m_num_neg (x : Val) : loadD false 1 (x.cells.drop 1) = some (.bool x.num.neg) := by simpa using Val.l_num_neg x []
theorem Val.l_num_coef (x : Val) (r : List D) : loadD false 1 ((x.cells ++ r).drop 2) = some (SL x.num.coefF (x.num.coef.map (D.int .u32)) x.num.coef.length) := by rw [Val.cells_eq, Dec.cells_eq]; simp [loadD, List.drop_append]
theorem Val.m_num_coef (x : Val) : loadD false 1 (x.cells.drop 2) = some (SL x.num.coefF (x.num.coef.map (D.int .u32)) x.num.coef.length) := by simpa using Val.l_num_coef x []
theorem Val.l_num_exp (x : Val) (r : List D) : loadD false 1 ((x.cells ++ r).drop 3) = some (.int .i64 x.num.exp) := by rw [Val.cells_eq, Dec.cells_eq]; simp [loadD, List.drop_append]
theorem Val.m_num_exp (x : Val) : loadD false 1 (x.cells.drop 3) = some (.int .i64 x.num.exp) := by simpa using Val.l_num_exp x []
theorem Val.t_num (x : Val) : loadD true 3 x.cells.tail = some (.agg x.num.cells) := by simpa using Val.m_num x
theorem Val.t_num_neg (x : Val) : loadD false 1 x.cells.tail = some (.bool x.num.neg) := by simpa using Val.m_num_neg x
theorem Val.l_text (x : Val) (r : List D) : loadD false 1 ((x.cells ++ r).drop 4) = some (.str x.text) := by rw [Val.cells_eq]; simp [loadD, Dec.cells_length, List.drop_append]
theorem Val.m_text (x : Val) : loadD false 1 (x.cells.drop 4) = some (.str x.text) := by simpa using Val.l_text x []
theorem Val.l_list (x : Val) (r : List D) : loadD false 1 ((x.cells ++ r).drop 5) = some (SL x.listF (Val.cellsL x.list) x.list.length) := by rw [Val.cells_eq]; simp [loadD, Dec.cells_length, List.drop_append]
theorem Val.m_list (x : Val) : loadD false 1 (x.cells.drop 5) = some (SL x.listF (Val.cellsL x.list) x.list.length) := by simpa using Val.l_list x []
theorem Val.l_keys (x : Val) (r : List D) : loadD false 1 ((x.cells ++ r).drop 6) = some (SL x.keysF (x.keys.map D.str) x.keys.length) := by rw [Val.cells_eq]; simp [loadD, Dec.cells_length, List.drop_append]
theorem Val.m_keys (x : Val) : loadD false 1 (x.cells.drop 6) = some (SL x.keysF (x.keys.map D.str) x.keys.length) := by simpa using Val.l_keys x []
def Val.rest (l : List Val) (k : Nat) : List D := (Val.cellsL l).drop ((k + 1) * 7)
theorem Val.cellsL_drop {l : List Val} {k : Nat} (hk : k < l.length) : (Val.cellsL l).drop (k * 7) = l[k].cells ++ Val.rest l k := by
  unfold Val.rest
  induction l generalizing k with
  | nil => simp at hk
  | cons x r ih =>
    cases k with
    | zero => simp [Val.cellsL, List.drop_append, Val.cells_length]
    | succ k =>
      have := ih (k := k) (by simpa using hk)
      simp only [Val.cellsL, List.getElem_cons_succ, List.drop_append, Val.cells_length]
      rw [show (k + 1) * 7 - 7 = k * 7 by omega, show (k + 1 + 1) * 7 - 7 = (k + 1) * 7 by omega, List.drop_eq_nil_of_le (as := x.cells) (by rw [Val.cells_length]; omega), List.drop_eq_nil_of_le (as := x.cells) (by rw [Val.cells_length]; omega)]
      simpa using this
theorem Val.cellsL_length (l : List Val) : (Val.cellsL l).length = l.length * 7 := by
  induction l with
  | nil => rfl
  | cons x r ih => simp only [Val.cellsL, List.length_append, Val.cells_length, ih, List.length_cons]; omega
theorem Val.cellsL_append (l r : List Val) : Val.cellsL (l ++ r) = Val.cellsL l ++ Val.cellsL r := by
  induction l with
  | nil => rfl
  | cons x l ih => simp [Val.cellsL, ih]
theorem Val.unders_L (l : List Val) (n : Nat) : D.unders n (Val.cellsL l) = true := by
  induction l with
  | nil => rfl
  | cons x l ih => simp [Val.cellsL, D.unders_append, Val.unders, ih]
theorem Val.ones_L (l : List Val) : D.ones (Val.cellsL l) = true := by
  induction l with
  | nil => rfl
  | cons x l ih => simp [Val.cellsL, D.ones_append, Val.ones, ih]
theorem Val.fz_L (l : List Val) {H : Heap} {n f : Nat} : mapO (Go.AM.fz H n (f + 1)) (Val.cellsL l) = some (Val.cellsL l) := by
  induction l with
  | nil => rfl
  | cons x l ih => simp [Val.cellsL, mapO_append, Val.fz, ih]
theorem Val.ext_all {x y : Val} (h : x.kind = y.kind ∧ x.num = y.num ∧ x.text = y.text ∧ x.listF = y.listF ∧ x.list = y.list ∧ x.keysF = y.keysF ∧ x.keys = y.keys) : x = y := by
  cases x; cases y; simp_all [Val.kind, Val.num, Val.text, Val.listF, Val.list, Val.keysF, Val.keys]
theorem Val.ind {P : Val → Prop} (h : ∀ v, (∀ x ∈ v.list, P x) → P v) : ∀ v, P v := fun v => Val.rec (motive_1 := P) (motive_2 := fun l => ∀ x ∈ l, P x) (fun _ _ _ _ _ _ _ ih => h _ ih) (by simp) (fun x r h1 h2 y hy => by rcases List.mem_cons.1 hy with rfl | hy; exact h1; exact h2 y hy) v
inductive Instr where
  | mk (op : Int) (a : Int) (b : Int)
def Instr.op : Instr → Int | .mk x _ _ => x
def Instr.a : Instr → Int | .mk _ x _ => x
def Instr.b : Instr → Int | .mk _ _ x => x
mutual
def Instr.cells : Instr → List D
  | .mk op a b => [.int .i64 op] ++ [.int .i64 a] ++ [.int .i64 b]
def Instr.cellsL : List Instr → List D
  | [] => []
  | x :: r => Instr.cells x ++ Instr.cellsL r
end
theorem Instr.cells_eq (x : Instr) : x.cells = [.int .i64 x.op] ++ [.int .i64 x.a] ++ [.int .i64 x.b] := by cases x; simp only [Instr.cells]; rfl
theorem Instr.cells_length (x : Instr) : x.cells.length = 3 := by rw [Instr.cells_eq]; simp []
theorem Instr.unders (x : Instr) (n : Nat) : D.unders n x.cells = true := by rw [Instr.cells_eq]; simp [D.unders_append, unders_nil, unders_cons, under_int, under_str, under_bool, under_SL]
theorem Instr.ones (x : Instr) : D.ones x.cells = true := by rw [Instr.cells_eq]; simp [D.ones_append, ones_nil, ones_cons, one_int, one_str, one_bool, one_SL]
theorem Instr.fz (x : Instr) {H : Heap} {n f : Nat} : mapO (Go.AM.fz H n (f + 1)) x.cells = some x.cells := by rw [Instr.cells_eq]; simp [mapO_append, mapO, fz_SL, fz_int, fz_str, fz_bool]
theorem Instr.load (x : Instr) (r : List D) : loadD true 3 (x.cells ++ r) = some (.agg x.cells) := by simp [loadD, Instr.cells_length, List.take_append_of_le_length]
theorem Instr.load0 (x : Instr) : loadD true 3 x.cells = some (.agg x.cells) := by simpa using Instr.load x []
theorem Instr.take (x : Instr) (r : List D) : (x.cells ++ r).take 3 = x.cells := by simp [Instr.cells_length, List.take_append_of_le_length]
theorem Instr.l_op (x : Instr) (r : List D) : loadD false 1 ((x.cells ++ r)) = some (.int .i64 x.op) := by rw [Instr.cells_eq]; simp [loadD, List.drop_append]
theorem Instr.m_op (x : Instr) : loadD false 1 (x.cells) = some (.int .i64 x.op) := by simpa using Instr.l_op x []
theorem Instr.l_a (x : Instr) (r : List D) : loadD false 1 ((x.cells ++ r).drop 1) = some (.int .i64 x.a) := by rw [Instr.cells_eq]; simp [loadD, List.drop_append]
theorem Instr.m_a (x : Instr) : loadD false 1 (x.cells.drop 1) = some (.int .i64 x.a) := by simpa using Instr.l_a x []
theorem Instr.t_a (x : Instr) : loadD false 1 x.cells.tail = some (.int .i64 x.a) := by simpa using Instr.m_a x
theorem Instr.l_b (x : Instr) (r : List D) : loadD false 1 ((x.cells ++ r).drop 2) = some (.int .i64 x.b) := by rw [Instr.cells_eq]; simp [loadD, List.drop_append]
theorem Instr.m_b (x : Instr) : loadD false 1 (x.cells.drop 2) = some (.int .i64 x.b) := by simpa using Instr.l_b x []
def Instr.rest (l : List Instr) (k : Nat) : List D := (Instr.cellsL l).drop ((k + 1) * 3)
theorem Instr.cellsL_drop {l : List Instr} {k : Nat} (hk : k < l.length) : (Instr.cellsL l).drop (k * 3) = l[k].cells ++ Instr.rest l k := by
  unfold Instr.rest
  induction l generalizing k with
  | nil => simp at hk
  | cons x r ih =>
    cases k with
    | zero => simp [Instr.cellsL, List.drop_append, Instr.cells_length]
    | succ k =>
      have := ih (k := k) (by simpa using hk)
      simp only [Instr.cellsL, List.getElem_cons_succ, List.drop_append, Instr.cells_length]
      rw [show (k + 1) * 3 - 3 = k * 3 by omega, show (k + 1 + 1) * 3 - 3 = (k + 1) * 3 by omega, List.drop_eq_nil_of_le (as := x.cells) (by rw [Instr.cells_length]; omega), List.drop_eq_nil_of_le (as := x.cells) (by rw [Instr.cells_length]; omega)]
      simpa using this
theorem Instr.cellsL_length (l : List Instr) : (Instr.cellsL l).length = l.length * 3 := by
  induction l with
  | nil => rfl
  | cons x r ih => simp only [Instr.cellsL, List.length_append, Instr.cells_length, ih, List.length_cons]; omega
theorem Instr.cellsL_append (l r : List Instr) : Instr.cellsL (l ++ r) = Instr.cellsL l ++ Instr.cellsL r := by
  induction l with
  | nil => rfl
  | cons x l ih => simp [Instr.cellsL, ih]
theorem Instr.unders_L (l : List Instr) (n : Nat) : D.unders n (Instr.cellsL l) = true := by
  induction l with
  | nil => rfl
  | cons x l ih => simp [Instr.cellsL, D.unders_append, Instr.unders, ih]
theorem Instr.ones_L (l : List Instr) : D.ones (Instr.cellsL l) = true := by
  induction l with
  | nil => rfl
  | cons x l ih => simp [Instr.cellsL, D.ones_append, Instr.ones, ih]
theorem Instr.fz_L (l : List Instr) {H : Heap} {n f : Nat} : mapO (Go.AM.fz H n (f + 1)) (Instr.cellsL l) = some (Instr.cellsL l) := by
  induction l with
  | nil => rfl
  | cons x l ih => simp [Instr.cellsL, mapO_append, Instr.fz, ih]
theorem Instr.ext_all {x y : Instr} (h : x.op = y.op ∧ x.a = y.a ∧ x.b = y.b) : x = y := by
  cases x; cases y; simp_all [Instr.op, Instr.a, Instr.b]
inductive Code where
  | mk (instrsF : Nl) (instrs : List Instr) (constsF : Nl) (consts : List Val)
def Code.instrsF : Code → Nl | .mk x _ _ _ => x
def Code.instrs : Code → List Instr | .mk _ x _ _ => x
def Code.constsF : Code → Nl | .mk _ _ x _ => x
def Code.consts : Code → List Val | .mk _ _ _ x => x
mutual
def Code.cells : Code → List D
  | .mk instrsF instrs constsF consts => [SL instrsF (Instr.cellsL instrs) instrs.length] ++ [SL constsF (Val.cellsL consts) consts.length]
def Code.cellsL : List Code → List D
  | [] => []
  | x :: r => Code.cells x ++ Code.cellsL r
end
theorem Code.cells_eq (x : Code) : x.cells = [SL x.instrsF (Instr.cellsL x.instrs) x.instrs.length] ++ [SL x.constsF (Val.cellsL x.consts) x.consts.length] := by cases x; simp only [Code.cells]; rfl
theorem Code.cells_length (x : Code) : x.cells.length = 2 := by rw [Code.cells_eq]; simp []
theorem Code.unders (x : Code) (n : Nat) : D.unders n x.cells = true := by rw [Code.cells_eq]; simp [D.unders_append, unders_nil, unders_cons, under_int, under_str, under_bool, under_SL]
theorem Code.ones (x : Code) : D.ones x.cells = true := by rw [Code.cells_eq]; simp [D.ones_append, ones_nil, ones_cons, one_int, one_str, one_bool, one_SL]
theorem Code.fz (x : Code) {H : Heap} {n f : Nat} : mapO (Go.AM.fz H n (f + 1)) x.cells = some x.cells := by rw [Code.cells_eq]; simp [mapO_append, mapO, fz_SL, fz_int, fz_str, fz_bool]
theorem Code.load (x : Code) (r : List D) : loadD true 2 (x.cells ++ r) = some (.agg x.cells) := by simp [loadD, Code.cells_length, List.take_append_of_le_length]
theorem Code.load0 (x : Code) : loadD true 2 x.cells = some (.agg x.cells) := by simpa using Code.load x []
theorem Code.take (x : Code) (r : List D) : (x.cells ++ r).take 2 = x.cells := by simp [Code.cells_length, List.take_append_of_le_length]
theorem Code.l_instrs (x : Code) (r : List D) : loadD false 1 ((x.cells ++ r)) = some (SL x.instrsF (Instr.cellsL x.instrs) x.instrs.length) := by rw [Code.cells_eq]; simp [loadD, List.drop_append]
theorem Code.m_instrs (x : Code) : loadD false 1 (x.cells) = some (SL x.instrsF (Instr.cellsL x.instrs) x.instrs.length) := by simpa using Code.l_instrs x []
theorem Code.l_consts (x : Code) (r : List D) : loadD false 1 ((x.cells ++ r).drop 1) = some (SL x.constsF (Val.cellsL x.consts) x.consts.length) := by rw [Code.cells_eq]; simp [loadD, List.drop_append]
theorem Code.m_consts (x : Code) : loadD false 1 (x.cells.drop 1) = some (SL x.constsF (Val.cellsL x.consts) x.consts.length) := by simpa using Code.l_consts x []
theorem Code.t_consts (x : Code) : loadD false 1 x.cells.tail = some (SL x.constsF (Val.cellsL x.consts) x.consts.length) := by simpa using Code.m_consts x
def Code.rest (l : List Code) (k : Nat) : List D := (Code.cellsL l).drop ((k + 1) * 2)
theorem Code.cellsL_drop {l : List Code} {k : Nat} (hk : k < l.length) : (Code.cellsL l).drop (k * 2) = l[k].cells ++ Code.rest l k := by
  unfold Code.rest
  induction l generalizing k with
  | nil => simp at hk
  | cons x r ih =>
    cases k with
    | zero => simp [Code.cellsL, List.drop_append, Code.cells_length]
    | succ k =>
      have := ih (k := k) (by simpa using hk)
      simp only [Code.cellsL, List.getElem_cons_succ, List.drop_append, Code.cells_length]
      rw [show (k + 1) * 2 - 2 = k * 2 by omega, show (k + 1 + 1) * 2 - 2 = (k + 1) * 2 by omega, List.drop_eq_nil_of_le (as := x.cells) (by rw [Code.cells_length]; omega), List.drop_eq_nil_of_le (as := x.cells) (by rw [Code.cells_length]; omega)]
      simpa using this
theorem Code.cellsL_length (l : List Code) : (Code.cellsL l).length = l.length * 2 := by
  induction l with
  | nil => rfl
  | cons x r ih => simp only [Code.cellsL, List.length_append, Code.cells_length, ih, List.length_cons]; omega
theorem Code.cellsL_append (l r : List Code) : Code.cellsL (l ++ r) = Code.cellsL l ++ Code.cellsL r := by
  induction l with
  | nil => rfl
  | cons x l ih => simp [Code.cellsL, ih]
theorem Code.unders_L (l : List Code) (n : Nat) : D.unders n (Code.cellsL l) = true := by
  induction l with
  | nil => rfl
  | cons x l ih => simp [Code.cellsL, D.unders_append, Code.unders, ih]
theorem Code.ones_L (l : List Code) : D.ones (Code.cellsL l) = true := by
  induction l with
  | nil => rfl
  | cons x l ih => simp [Code.cellsL, D.ones_append, Code.ones, ih]
theorem Code.fz_L (l : List Code) {H : Heap} {n f : Nat} : mapO (Go.AM.fz H n (f + 1)) (Code.cellsL l) = some (Code.cellsL l) := by
  induction l with
  | nil => rfl
  | cons x l ih => simp [Code.cellsL, mapO_append, Code.fz, ih]
theorem Code.ext_all {x y : Code} (h : x.instrsF = y.instrsF ∧ x.instrs = y.instrs ∧ x.constsF = y.constsF ∧ x.consts = y.consts) : x = y := by
  cases x; cases y; simp_all [Code.instrsF, Code.instrs, Code.constsF, Code.consts]
inductive Core where
  | mk (kind : Int) (index : Int) (count : Int) (name : List UInt8) (value : Val) (kidsF : Nl) (kids : List Core)
def Core.kind : Core → Int | .mk x _ _ _ _ _ _ => x
def Core.index : Core → Int | .mk _ x _ _ _ _ _ => x
def Core.count : Core → Int | .mk _ _ x _ _ _ _ => x
def Core.name : Core → List UInt8 | .mk _ _ _ x _ _ _ => x
def Core.value : Core → Val | .mk _ _ _ _ x _ _ => x
def Core.kidsF : Core → Nl | .mk _ _ _ _ _ x _ => x
def Core.kids : Core → List Core | .mk _ _ _ _ _ _ x => x
mutual
def Core.cells : Core → List D
  | .mk kind index count name value kidsF kids => [.int .i64 kind] ++ [.int .i64 index] ++ [.int .i64 count] ++ [.str name] ++ Val.cells value ++ [SL kidsF (Core.cellsL kids) kids.length]
def Core.cellsL : List Core → List D
  | [] => []
  | x :: r => Core.cells x ++ Core.cellsL r
end
theorem Core.cells_eq (x : Core) : x.cells = [.int .i64 x.kind] ++ [.int .i64 x.index] ++ [.int .i64 x.count] ++ [.str x.name] ++ Val.cells x.value ++ [SL x.kidsF (Core.cellsL x.kids) x.kids.length] := by cases x; simp only [Core.cells]; rfl
theorem Core.cells_length (x : Core) : x.cells.length = 12 := by rw [Core.cells_eq]; simp [Val.cells_length]
theorem Core.unders (x : Core) (n : Nat) : D.unders n x.cells = true := by rw [Core.cells_eq]; simp [D.unders_append, unders_nil, unders_cons, under_int, under_str, under_bool, under_SL, Val.unders]
theorem Core.ones (x : Core) : D.ones x.cells = true := by rw [Core.cells_eq]; simp [D.ones_append, ones_nil, ones_cons, one_int, one_str, one_bool, one_SL, Val.ones]
theorem Core.fz (x : Core) {H : Heap} {n f : Nat} : mapO (Go.AM.fz H n (f + 1)) x.cells = some x.cells := by rw [Core.cells_eq]; simp [mapO_append, mapO, fz_SL, fz_int, fz_str, fz_bool, Val.fz]
theorem Core.load (x : Core) (r : List D) : loadD true 12 (x.cells ++ r) = some (.agg x.cells) := by simp [loadD, Core.cells_length, List.take_append_of_le_length]
theorem Core.load0 (x : Core) : loadD true 12 x.cells = some (.agg x.cells) := by simpa using Core.load x []
theorem Core.take (x : Core) (r : List D) : (x.cells ++ r).take 12 = x.cells := by simp [Core.cells_length, List.take_append_of_le_length]
theorem Core.l_kind (x : Core) (r : List D) : loadD false 1 ((x.cells ++ r)) = some (.int .i64 x.kind) := by rw [Core.cells_eq]; simp [loadD, Val.cells_length, List.drop_append]
theorem Core.m_kind (x : Core) : loadD false 1 (x.cells) = some (.int .i64 x.kind) := by simpa using Core.l_kind x []
theorem Core.l_index (x : Core) (r : List D) : loadD false 1 ((x.cells ++ r).drop 1) = some (.int .i64 x.index) := by rw [Core.cells_eq]; simp [loadD, Val.cells_length, List.drop_append]
theorem Core.m_index (x : Core) : loadD false 1 (x.cells.drop 1) = some (.int .i64 x.index) := by simpa using Core.l_index x []
theorem Core.t_index (x : Core) : loadD false 1 x.cells.tail = some (.int .i64 x.index) := by simpa using Core.m_index x
theorem Core.l_count (x : Core) (r : List D) : loadD false 1 ((x.cells ++ r).drop 2) = some (.int .i64 x.count) := by rw [Core.cells_eq]; simp [loadD, Val.cells_length, List.drop_append]
theorem Core.m_count (x : Core) : loadD false 1 (x.cells.drop 2) = some (.int .i64 x.count) := by simpa using Core.l_count x []
theorem Core.l_name (x : Core) (r : List D) : loadD false 1 ((x.cells ++ r).drop 3) = some (.str x.name) := by rw [Core.cells_eq]; simp [loadD, Val.cells_length, List.drop_append]
theorem Core.m_name (x : Core) : loadD false 1 (x.cells.drop 3) = some (.str x.name) := by simpa using Core.l_name x []
theorem Core.l_value (x : Core) (r : List D) : loadD true 7 ((x.cells ++ r).drop 4) = some (.agg x.value.cells) := by rw [Core.cells_eq]; simp [loadD, Val.cells_length, List.take_append_of_le_length, List.drop_append]
theorem Core.m_value (x : Core) : loadD true 7 (x.cells.drop 4) = some (.agg x.value.cells) := by simpa using Core.l_value x []
theorem Core.l_value_kind (x : Core) (r : List D) : loadD false 1 ((x.cells ++ r).drop 4) = some (.int .i64 x.value.kind) := by rw [Core.cells_eq, Val.cells_eq]; simp [loadD, List.drop_append, Dec.cells_length]
theorem Core.m_value_kind (x : Core) : loadD false 1 (x.cells.drop 4) = some (.int .i64 x.value.kind) := by simpa using Core.l_value_kind x []
theorem Core.l_value_text (x : Core) (r : List D) : loadD false 1 ((x.cells ++ r).drop 8) = some (.str x.value.text) := by rw [Core.cells_eq, Val.cells_eq]; simp [loadD, List.drop_append, Dec.cells_length]
theorem Core.m_value_text (x : Core) : loadD false 1 (x.cells.drop 8) = some (.str x.value.text) := by simpa using Core.l_value_text x []
theorem Core.l_value_list (x : Core) (r : List D) : loadD false 1 ((x.cells ++ r).drop 9) = some (SL x.value.listF (Val.cellsL x.value.list) x.value.list.length) := by rw [Core.cells_eq, Val.cells_eq]; simp [loadD, List.drop_append, Dec.cells_length]
theorem Core.m_value_list (x : Core) : loadD false 1 (x.cells.drop 9) = some (SL x.value.listF (Val.cellsL x.value.list) x.value.list.length) := by simpa using Core.l_value_list x []
theorem Core.l_value_keys (x : Core) (r : List D) : loadD false 1 ((x.cells ++ r).drop 10) = some (SL x.value.keysF (x.value.keys.map D.str) x.value.keys.length) := by rw [Core.cells_eq, Val.cells_eq]; simp [loadD, List.drop_append, Dec.cells_length]
theorem Core.m_value_keys (x : Core) : loadD false 1 (x.cells.drop 10) = some (SL x.value.keysF (x.value.keys.map D.str) x.value.keys.length) := by simpa using Core.l_value_keys x []
theorem Core.l_kids (x : Core) (r : List D) : loadD false 1 ((x.cells ++ r).drop 11) = some (SL x.kidsF (Core.cellsL x.kids) x.kids.length) := by rw [Core.cells_eq]; simp [loadD, Val.cells_length, List.drop_append]
theorem Core.m_kids (x : Core) : loadD false 1 (x.cells.drop 11) = some (SL x.kidsF (Core.cellsL x.kids) x.kids.length) := by simpa using Core.l_kids x []
def Core.rest (l : List Core) (k : Nat) : List D := (Core.cellsL l).drop ((k + 1) * 12)
theorem Core.cellsL_drop {l : List Core} {k : Nat} (hk : k < l.length) : (Core.cellsL l).drop (k * 12) = l[k].cells ++ Core.rest l k := by
  unfold Core.rest
  induction l generalizing k with
  | nil => simp at hk
  | cons x r ih =>
    cases k with
    | zero => simp [Core.cellsL, List.drop_append, Core.cells_length]
    | succ k =>
      have := ih (k := k) (by simpa using hk)
      simp only [Core.cellsL, List.getElem_cons_succ, List.drop_append, Core.cells_length]
      rw [show (k + 1) * 12 - 12 = k * 12 by omega, show (k + 1 + 1) * 12 - 12 = (k + 1) * 12 by omega, List.drop_eq_nil_of_le (as := x.cells) (by rw [Core.cells_length]; omega), List.drop_eq_nil_of_le (as := x.cells) (by rw [Core.cells_length]; omega)]
      simpa using this
theorem Core.cellsL_length (l : List Core) : (Core.cellsL l).length = l.length * 12 := by
  induction l with
  | nil => rfl
  | cons x r ih => simp only [Core.cellsL, List.length_append, Core.cells_length, ih, List.length_cons]; omega
theorem Core.cellsL_append (l r : List Core) : Core.cellsL (l ++ r) = Core.cellsL l ++ Core.cellsL r := by
  induction l with
  | nil => rfl
  | cons x l ih => simp [Core.cellsL, ih]
theorem Core.unders_L (l : List Core) (n : Nat) : D.unders n (Core.cellsL l) = true := by
  induction l with
  | nil => rfl
  | cons x l ih => simp [Core.cellsL, D.unders_append, Core.unders, ih]
theorem Core.ones_L (l : List Core) : D.ones (Core.cellsL l) = true := by
  induction l with
  | nil => rfl
  | cons x l ih => simp [Core.cellsL, D.ones_append, Core.ones, ih]
theorem Core.fz_L (l : List Core) {H : Heap} {n f : Nat} : mapO (Go.AM.fz H n (f + 1)) (Core.cellsL l) = some (Core.cellsL l) := by
  induction l with
  | nil => rfl
  | cons x l ih => simp [Core.cellsL, mapO_append, Core.fz, ih]
theorem Core.ext_all {x y : Core} (h : x.kind = y.kind ∧ x.index = y.index ∧ x.count = y.count ∧ x.name = y.name ∧ x.value = y.value ∧ x.kidsF = y.kidsF ∧ x.kids = y.kids) : x = y := by
  cases x; cases y; simp_all [Core.kind, Core.index, Core.count, Core.name, Core.value, Core.kidsF, Core.kids]
theorem Core.ind {P : Core → Prop} (h : ∀ v, (∀ x ∈ v.kids, P x) → P v) : ∀ v, P v := fun v => Core.rec (motive_1 := P) (motive_2 := fun l => ∀ x ∈ l, P x) (fun _ _ _ _ _ _ _ ih => h _ ih) (by simp) (fun x r h1 h2 y hy => by rcases List.mem_cons.1 hy with rfl | hy; exact h1; exact h2 y hy) v
end Go.AM
/- Regions whose order is open, in which memory is made between what reads it. -/
namespace Go.AM
def statG : Nat → List (AOper × Nat × Nat) → Bool
  | _, [] => true
  | i, (o, lo, hi) :: r => (o.op.isE || !o.op.isL || allGe hi (eIdx (i + 1) r)) && statG (i + 1) r
noncomputable def runG (X : Ctx) (b : Nat) : Nat → List (AOper × Nat × Nat) → List (Nat × Heap) → Env → Heap → Option (Env × Heap)
  | _, [], _, e, H => some (e, H)
  | i, (o, lo, hi) :: r, past, e, H => match runOp X.G b (callΩ X) e H o with
    | some (d, H') => if o.op.isE = true then runG X b (i + 1) r ((i, H) :: past) (putO e o.dst d) H' else
      if (o.op.isL = true → samePast X.G b (callΩ X) e o d lo past = true) then runG X b (i + 1) r past (putO e o.dst d) H' else none
    | none => none
section
variable {X : Ctx} {b : Nat} {rnd : Option Nat} {K : List Fr} {Q : Ex → St → Prop} {e : Env} {H : Heap} {dfs : List Nat}
theorem runG_run : ∀ {l : List (AOper × Nat × Nat)} {i : Nat} {past : List (Nat × Heap)} {e : Env} {H : Heap} {r : Env × Heap}, statG i l = true → runG X b i l past e H = some r → ∃ fut, runD X.G b (callΩ X) i l past e H = some (r.1, r.2, fut)
  | [], _, _, _, _, _, _, h => by cases h; exact ⟨[], rfl⟩
  | (o, lo, hi) :: l, i, past, e, H, r, hs, h => by
    simp only [statG, Bool.and_eq_true] at hs
    unfold runG at h
    unfold runD
    cases ho : runOp X.G b (callΩ X) e H o with
    | none => rw [ho] at h; cases h
    | some x =>
      obtain ⟨d, H'⟩ := x
      rw [ho] at h
      simp only at h ⊢
      by_cases hE : o.op.isE = true
      · rw [if_pos hE] at h ⊢
        obtain ⟨fut, g⟩ := runG_run hs.2 h
        rw [g]; exact ⟨_, rfl⟩
      · rw [if_neg hE] at h ⊢
        split at h
        · rename_i hp
          obtain ⟨fut, g⟩ := runG_run hs.2 h
          rw [g]
          simp only
          by_cases hL : o.op.isL = true
          · have hf := runD_fut g
            simp only at hf
            have h2 : allGe hi (eIdx (i + 1) l) = true := by simpa [hE, hL] using hs.1
            have h3 : sameFut X.G b (callΩ X) e o d hi fut = true := sameFut_ge (by rw [hf]; exact h2)
            rw [if_pos hL, hp hL, h3]; exact ⟨_, rfl⟩
          · rw [if_neg hL]; exact ⟨_, rfl⟩
        · cases h
def YG (X : Ctx) (b : Nat) (rnd : Option Nat) (i : Nat) (l : List (AOper × Nat × Nat)) (past : List (Nat × Heap)) (K : List Fr) (e : Env) (H : Heap) (dfs : List Nat) (Q : Ex → St → Prop) (Z : Prop) : Prop := match runG X b i l past e H with
  | some (e', H') => YX X b rnd .normal K ⟨e', H', dfs⟩ Q
  | none => Z
def YSg (X : Ctx) (b : Nat) (rnd : Option Nat) (l : List (AOper × Nat × Nat)) (K : List Fr) (e : Env) (H : Heap) (dfs : List Nat) (Q : Ex → St → Prop) : Prop := YS X b rnd (.dreg l) K ⟨e, H, dfs⟩ Q
theorem YSd_G {l : List (AOper × Nat × Nat)} : YSd X b rnd l K e H dfs Q = if statG 0 l = true then YG X b rnd 0 l [] K e H dfs Q (YSg X b rnd l K e H dfs Q) else YSg X b rnd l K e H dfs Q := by
  split
  · rename_i hs
    unfold YG YSg
    cases hr : runG X b 0 l [] e H with
    | none => rfl
    | some r =>
      obtain ⟨fut, g⟩ := runG_run hs hr
      unfold YSd YS
      rw [execΩ_dreg (s := ⟨e, H, dfs⟩) g]
      rfl
  · rfl
def YG1 (X : Ctx) (b : Nat) (rnd : Option Nat) (i lo : Nat) (o : AOper) (x : Option (D × Heap)) (r : List (AOper × Nat × Nat)) (past : List (Nat × Heap)) (K : List Fr) (e : Env) (H : Heap) (dfs : List Nat) (Q : Ex → St → Prop) (Z : Prop) : Prop := match x with
  | some (d, H') => if o.op.isE = true then YG X b rnd (i + 1) r ((i, H) :: past) K (putO e o.dst d) H' dfs Q Z else
      if (o.op.isL = true → samePast X.G b (callΩ X) e o d lo past = true) then YG X b rnd (i + 1) r past K (putO e o.dst d) H' dfs Q Z else Z
  | none => Z
variable {Z : Prop} {o : AOper} {r : List (AOper × Nat × Nat)} {d : D} {H' : Heap} {i lo hi : Nat} {past : List (Nat × Heap)}
theorem YG_nil : YG X b rnd i [] past K e H dfs Q Z = YX X b rnd .normal K ⟨e, H, dfs⟩ Q := rfl
theorem YG_cons : YG X b rnd i ((o, lo, hi) :: r) past K e H dfs Q Z = YG1 X b rnd i lo o (runOp X.G b (callΩ X) e H o) r past K e H dfs Q Z := by
  unfold YG YG1
  simp only [runG]
  cases runOp X.G b (callΩ X) e H o with
  | none => rfl
  | some x =>
    obtain ⟨d, H'⟩ := x
    simp only
    by_cases hE : o.op.isE = true
    · simp only [if_pos hE]; rfl
    · simp only [if_neg hE]
      by_cases hP : (o.op.isL = true → samePast X.G b (callΩ X) e o d lo past = true)
      · simp only [if_pos hP]; rfl
      · simp only [if_neg hP]
theorem YG1_some : YG1 X b rnd i lo o (some (d, H')) r past K e H dfs Q Z = if o.op.isE = true then YG X b rnd (i + 1) r ((i, H) :: past) K (putO e o.dst d) H' dfs Q Z else
    if o.op.isL = true then (if samePast X.G b (callΩ X) e o d lo past = true then YG X b rnd (i + 1) r past K (putO e o.dst d) H' dfs Q Z else Z) else YG X b rnd (i + 1) r past K (putO e o.dst d) H' dfs Q Z := by
  unfold YG1; simp only
  by_cases hE : o.op.isE = true
  · rw [if_pos hE, if_pos hE]
  · rw [if_neg hE, if_neg hE]
    by_cases hL : o.op.isL = true
    · rw [if_pos hL]; simp [hL]
    · rw [if_neg hL]; simp [hL]
def sameO (x : Option (D × Heap)) (d : D) : Bool := match x with
  | some (d', _) => d'.beq d
  | none => false
theorem sameO_some : sameO (some (d, H)) d = true := D.beq_self d
section
variable {G : Nat → Option (List D)} {c : Cl} {j : Nat}
theorem samePast_nil : samePast G b c e o d lo [] = true := rfl
theorem samePast_cons : samePast G b c e o d lo ((j, H) :: past) = ((decide (j < lo) || sameO (runOp G b c e H o) d) && samePast G b c e o d lo past) := by
  simp only [samePast, sameAt]
  have : Nat.blt j lo = decide (j < lo) := by rw [Bool.eq_iff_iff]; simp [Nat.blt_eq]
  rw [this]; rfl
end
theorem YZ1_grow {dst : Option Nat} {r : List AOper} {x : Chunk} {l : List Chunk} : YZ1 X b rnd (some (d, H ++ x :: l)) dst r K e H dfs Q Z = Z := by
  unfold YZ1; simp only; rw [if_neg (by simp)]
theorem YM1_grow {dst : Option Nat} {r : List AOper} {x : Chunk} {l : List Chunk} : YM1 X b rnd false (some (d, H ++ x :: l)) dst r K e H dfs Q Z = Z := by
  unfold YM1; simp only; rw [if_neg (by simp)]
theorem YZ1_grow2 {dst : Option Nat} {r : List AOper} {H0 l l' : List Chunk} (h : l ≠ l') : YZ1 X b rnd (some (d, H0 ++ l)) dst r K e (H0 ++ l') dfs Q Z = Z := by
  unfold YZ1; simp only; rw [if_neg (by simpa using h)]
theorem YM1_grow2 {dst : Option Nat} {r : List AOper} {H0 l l' : List Chunk} (h : l ≠ l') : YM1 X b rnd false (some (d, H0 ++ l)) dst r K e (H0 ++ l') dfs Q Z = Z := by
  unfold YM1; simp only; rw [if_neg (by simpa using h)]
end
/-! Lists of structs, one of them turned. -/
theorem splice_mid {a b c d : List D} (h : b.length = d.length) : splice (a ++ (b ++ c)) a.length d = a ++ (d ++ c) := by
  unfold splice
  rw [List.take_left' rfl, ← h, ← List.append_assoc a b c, List.drop_left' (by simp)]
  simp
end Go.AM
