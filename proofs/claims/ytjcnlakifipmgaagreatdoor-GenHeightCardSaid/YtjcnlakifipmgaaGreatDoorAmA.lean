/- The abstract machine: values, code, compilation, what they stand for. -/
import GoSem.Dispatch
import Derived.Laws.OwnMore
set_option linter.unusedVariables false
set_option linter.unusedSimpArgs false
set_option linter.unnecessarySimpa false
set_option maxRecDepth 100000
/- The abstract machine: values, code, heap, the interpreter. -/
namespace Go.AM

/-- Values without addresses: what is frozen is a tree; what may still be written is named by an id. -/
inductive D where
  | undef
  | bool (b : Bool)
  | int (k : IntKind) (n : Int)
  | str (s : List UInt8)
  | nilp | nilsl | nilf
  | esl
  | fptr (cs : List D)
  | fsl (cs : List D) (n : Nat)
  | ptr (id off : Nat)
  | rptr (id hw off : Nat)
  | osl (id hw off n : Nat)
  | func (f : Nat) (pre cap : List D)
  | yield (id : Nat)
  | agg (cs : List D)
  | tup (vs : List D)
  | sym (s : List UInt8) (l : List (List UInt8))
  | mp (id : Nat)
  deriving Inhabited

def D.cells : D → List D
  | .agg cs => cs
  | d => [d]

mutual
/-- All ids are below n. -/
def D.under (n : Nat) : D → Bool
  | .ptr id _ => Nat.blt id n
  | .rptr id _ _ => Nat.blt id n
  | .osl id _ _ _ => Nat.blt id n
  | .yield id => Nat.blt id n
  | .mp id => Nat.blt id n
  | .func _ pre cap => D.unders n pre && D.unders n cap
  | .agg cs => D.unders n cs
  | .tup vs => D.unders n vs
  | .undef => false
  | _ => true
def D.unders (n : Nat) : List D → Bool
  | [] => true
  | d :: ds => d.under n && D.unders n ds
end

def D.defd : List D → Bool
  | [] => true
  | .undef :: _ => false
  | _ :: ds => D.defd ds

/-- A value of one cell. -/
def D.one : D → Bool
  | .agg _ | .tup _ | .undef => false
  | _ => true

def D.ones : List D → Bool
  | [] => true
  | d :: ds => d.one && D.ones ds

/-! ### Temporaries: a tree, its places numbered as a heap's -/
inductive Env where
  | nil
  | node (l : Env) (v : D) (r : Env)
  deriving Inhabited

def Env.get : Env → Nat → D
  | .nil, _ => .undef
  | .node _ v _, 0 => v
  | .node l _ r, n + 1 => if Nat.beq (n % 2) 0 then l.get (n / 2) else r.get (n / 2)

def Env.set : Nat → Env → Nat → D → Env
  | 0, e, _, _ => e
  | _ + 1, .nil, 0, v => .node .nil v .nil
  | f + 1, .nil, n + 1, v => if Nat.beq (n % 2) 0 then .node (Env.set f .nil (n / 2) v) .undef .nil else .node .nil .undef (Env.set f .nil (n / 2) v)
  | _ + 1, .node l _ r, 0, v => .node l v r
  | f + 1, .node l x r, n + 1, v => if Nat.beq (n % 2) 0 then .node (Env.set f l (n / 2) v) x r else .node l x (Env.set f r (n / 2) v)

/-- Sixteen levels: enough for 65535 temporaries. -/
def Env.put (e : Env) (t : Nat) (v : D) : Env := Env.set 16 e t v

def Env.puts (e : Env) : List Nat → List D → Env
  | t :: ts, v :: vs => (e.put t v).puts ts vs
  | _, _ => e

def Env.ofArgs (e : Env) (i : Nat) : List D → Env
  | [] => e
  | d :: ds => (e.put i d).ofArgs (i + 1) ds

/-! ### Code -/
inductive Arg where
  | t (i : Nat)
  | c (d : D)
  | g (n : Nat)
  deriving Inhabited

/-- A plain cell's kind. -/
inductive PK where
  | i | b | s
  deriving Inhabited

/-- How a hole is filled: for good; or as a box that may still be written, some of its slices with rows of their own. -/
structure Fil where
  arg : Arg
  box : Option (List (Nat × Nat))
  deriving Inhabited

inductive AOp where
  | mov (x : Arg)
  | resv (es : Nat)
  | pick (c a b : Arg)
  | allocB (zs : List D) (res : List (Nat × Nat))
  | boxF (n : Nat) (x : Arg)
  | boxB (n : Nat) (x : Arg) (res : List (Nat × Nat))
  | build (zs : List D) (parts : List (Nat × Nat × Arg))
  | bslF (zs : List D) (n : Nat) (parts : List (Nat × Nat × Arg))
  | bslR (es : Nat) (zs : List D) (n : Nat) (parts : List (Nat × Nat × Arg))
  | load (ag : Bool) (n : Nat) (p : Arg)
  | store (n : Nat) (p v : Arg)
  | nilchk (x : Arg)
  | bin (op : BinOp) (x y : Arg)
  | eqB (neg : Bool) (x y : Arg)
  | eqP (neg : Bool) (x y : Arg)
  | eqS (neg : Bool) (x y : Arg)
  | un (op : UnOp) (x : Arg)
  | convI (k : IntKind) (x : Arg)
  | convSB (x : Arg)
  | convIS (x : Arg)
  | convBS (x : Arg)
  | mkf (f : Nat) (pre caps : List Arg)
  | msl (es bytes : Nat) (z : List D) (len cap : Arg)
  | sliceS (x : Arg) (lo hi : Option Arg)
  | sliceL (es : Nat) (x : Arg) (lo hi mx : Option Arg)
  | faddr (off : Nat) (p : Arg)
  | iaddr (es : Nat) (s i : Arg)
  | iaddrA (n es : Nat) (p i : Arg)
  | field (ag : Bool) (off n : Nat) (x : Arg)
  | indexS (x i : Arg)
  | extract (x : Arg) (i : Nat)
  | len (st : Bool) (x : Arg)
  | append (es bytes : Nat) (x y : Arg)
  | appendS (bytes : Nat) (x y : Arg)
  | maxs (x : Arg) (xs : List Arg)
  | mins (x : Arg) (xs : List Arg)
  | eqA (neg : Bool) (ks : List PK) (x y : Arg)
  | hole (n : Nat)
  | fill (n : Nat) (v : Fil)
  | bad
  | dfrop (f : Nat) (x : Arg)
  | call (f : Arg) (args : List Arg)
  | capn (x : Arg)
  | appendZ (es bytes : Nat) (zs : List D) (x n : Arg)
  | mkmap
  | mget (m k : Arg)
  | mset (m k v : Arg)
  | copy (es : Nat) (x y : Arg)
  deriving Inhabited

structure AOper where
  dst : Option Nat
  guard : Option (Nat × Bool)
  op : AOp
  deriving Inhabited

inductive ACode where
  | skip
  | reg (ops : List AOper)
  | dreg (ops : List (AOper × Nat × Nat))
  | seq (a b : ACode)
  | cond (c : Arg) (thn els : ACode)
  | block (id : Nat) (body : ACode)
  | loop (body : ACode)
  | rangeF (f : Arg) (params : List Nat) (assign body : ACode)
  | exit (id : Nat)
  | ret
  deriving Inhabited

inductive ARes where
  | tmp (t : Nat)
  | cell (t : Nat) (ag : Bool) (n : Nat)
  deriving Inhabited

structure AFunc where
  nparams : Nat
  body : ACode
  results : List ARes
  keep : Option Nat
  deriving Inhabited

def Arg.reads (l : List Nat) : Arg → List Nat
  | .t i => i :: l
  | _ => l

def readsAs (l : List Nat) : List Arg → List Nat
  | [] => l
  | x :: r => x.reads (readsAs l r)

def readsPs (l : List Nat) : List (Nat × Nat × Arg) → List Nat
  | [] => l
  | (_, _, x) :: r => x.reads (readsPs l r)

def readsO (l : List Nat) : Option Arg → List Nat
  | none => l
  | some x => x.reads l

/-- The temporaries that an operation reads. -/
def AOp.reads (l : List Nat) : AOp → List Nat
  | .mov x | .boxF _ x | .boxB _ x _ | .load _ _ x | .nilchk x | .un _ x | .convI _ x | .convSB x | .convIS x | .convBS x | .faddr _ x | .field _ _ _ x | .extract x _ | .len _ x | .dfrop _ x | .capn x => x.reads l
  | .fill _ v => v.arg.reads l
  | .pick c a b => c.reads (a.reads (b.reads l))
  | .build _ ps | .bslF _ _ ps | .bslR _ _ _ ps => readsPs l ps
  | .store _ x y | .bin _ x y | .eqB _ x y | .eqP _ x y | .eqS _ x y | .eqA _ _ x y | .msl _ _ _ x y | .iaddr _ x y | .iaddrA _ _ x y | .indexS x y | .append _ _ x y | .mget x y | .appendS _ x y | .appendZ _ _ _ x y => x.reads (y.reads l)
  | .mset x y z => x.reads (y.reads (z.reads l))
  | .copy _ x y => x.reads (y.reads l)
  | .mkf _ xs ys => readsAs (readsAs l ys) xs
  | .sliceS x lo hi => x.reads (readsO (readsO l hi) lo)
  | .sliceL _ x lo hi mx => x.reads (readsO (readsO (readsO l mx) hi) lo)
  | .maxs x xs | .mins x xs | .call x xs => x.reads (readsAs l xs)
  | .resv _ | .allocB _ _ | .hole _ | .bad | .mkmap => l

def AOper.reads (o : AOper) : List Nat :=
  o.op.reads (match o.guard with | some (t, _) => [t] | none => [])

/-- All temporaries that are written are below n. -/
def AOper.fits (n : Nat) (o : AOper) : Bool :=
  match o.dst with
  | some t => Nat.blt t n
  | none => true

def fitsL (n : Nat) : List AOper → Bool
  | [] => true
  | o :: r => o.fits n && fitsL n r

def fitsD (n : Nat) : List (AOper × Nat × Nat) → Bool
  | [] => true
  | (o, _, _) :: r => o.fits n && fitsD n r

def fitsN (n : Nat) : List Nat → Bool
  | [] => true
  | t :: r => Nat.blt t n && fitsN n r

def ACode.fits (n : Nat) : ACode → Bool
  | .reg ops => fitsL n ops
  | .dreg ops => fitsD n ops
  | .seq a b => a.fits n && b.fits n
  | .cond _ a b => a.fits n && b.fits n
  | .block _ b => b.fits n
  | .loop b => b.fits n
  | .rangeF _ ps a b => fitsN n ps && a.fits n && b.fits n
  | _ => true

/-! ### The heap -/
inductive LState where
  | ready | busy | done | exhausted
  deriving Inhabited, DecidableEq

inductive AJump where
  | exit (id : Nat)
  | ret
  deriving Inhabited

structure ALoop where
  env : Env
  params : List Nat
  assign : ACode
  body : ACode
  st : LState
  pend : Option AJump
  dfr : Nat
  deriving Inhabited

inductive Chunk where
  | box (cs : List D)
  | row (es : Nat) (cs : List D) (nil : Bool)
  | loop (l : ALoop)
  | dfr (t : Bool)
  | map (es : List (Int × Bool))
  deriving Inhabited

abbrev Heap := List Chunk

/-! ### Small reckonings -/
def splice (cs : List D) (off : Nat) (vs : List D) : List D := cs.take off ++ vs ++ cs.drop (off + vs.length)

/-- Is a text among some? -/
def eqL (a b : List UInt8) : Bool := match a, b with
  | [], [] => true
  | x :: a, y :: b => Nat.beq x.toNat y.toNat && eqL a b
  | _, _ => false
def hasL (a : List UInt8) : List (List UInt8) → Bool
  | [] => false
  | b :: r => eqL a b || hasL a r

def binInt (op : BinOp) (k : IntKind) (a b : Int) : Option D :=
  match op with
  | .add => some (.int k (k.wrap (a + b)))
  | .sub => some (.int k (k.wrap (a - b)))
  | .mul => some (.int k (k.wrap (a * b)))
  | .quo => if b = 0 then none else some (.int k (k.wrap (a.tdiv b)))
  | .rem => if b = 0 then none else some (.int k (a.tmod b))
  | .and => some (.int k (k.wrap (BitVec.ofInt k.bits a &&& BitVec.ofInt k.bits b).toNat))
  | .or => some (.int k (k.wrap (BitVec.ofInt k.bits a ||| BitVec.ofInt k.bits b).toNat))
  | .xor => some (.int k (k.wrap (BitVec.ofInt k.bits a ^^^ BitVec.ofInt k.bits b).toNat))
  | .andNot => some (.int k (k.wrap (BitVec.ofInt k.bits a &&& ~~~BitVec.ofInt k.bits b).toNat))
  | .eql => some (.bool (a == b))
  | .neq => some (.bool (a != b))
  | .lss => some (.bool (decide (a < b)))
  | .leq => some (.bool (decide (a ≤ b)))
  | .gtr => some (.bool (decide (a > b)))
  | .geq => some (.bool (decide (a ≥ b)))
  | _ => none

def binStr (op : BinOp) (a b : List UInt8) : Option D :=
  match op with
  | .add => if a.length + b.length ≤ 9223372036854775807 then some (.str (a ++ b)) else none
  | .eql => some (.bool (a == b))
  | .neq => some (.bool (!(a == b)))
  | .lss => some (.bool (Op.bytesLess a b))
  | .leq => some (.bool (Op.bytesLess a b || a == b))
  | .gtr => some (.bool (!(Op.bytesLess a b || a == b)))
  | .geq => some (.bool (!Op.bytesLess a b))
  | _ => none

/-- Of a string that is none of some: whether it is one of these. -/
def symEq (op : BinOp) (a : List UInt8) (l : List (List UInt8)) : Option D :=
  match op with
  | .eql => if hasL a l then some (.bool false) else none
  | .neq => if hasL a l then some (.bool true) else none
  | _ => none

def binD (op : BinOp) : D → D → Option D
  | .int k a, .int k' b =>
    match op with
    | .shl => if b < 0 then none else some (.int k (k.wrap (a * 2 ^ (min b.toNat k.bits))))
    | .shr => if b < 0 then none else some (.int k (a.fdiv (2 ^ (min b.toNat k.bits))))
    | _ => if k = k' then binInt op k a b else none
  | .str a, .str b => binStr op a b
  | .str a, .sym _ l => symEq op a l
  | .sym _ l, .str a => symEq op a l
  | _, _ => none

def unD (op : UnOp) : D → Option D
  | .int k n =>
    match op with
    | .neg => some (.int k (k.wrap (0 - n)))
    | .xor => some (.int k (k.wrap (BitVec.ofInt k.bits (if k.signed then -1 else k.max) ^^^ BitVec.ofInt k.bits n).toNat))
    | _ => none
  | .bool b => match op with | .not => some (.bool !b) | _ => none
  | _ => none

/-- A map's value of a key; false where there is none. -/
def mapGet (n : Int) : List (Int × Bool) → Bool
  | [] => false
  | (k, v) :: r => if n = k then v else mapGet n r
def mapSet (n : Int) (x : Bool) : List (Int × Bool) → List (Int × Bool)
  | [] => [(n, x)]
  | (k, v) :: r => if n = k then (n, x) :: r else (k, v) :: mapSet n x r

/-- Is a pointer nil? -/
def ptrNil : D → Option Bool
  | .nilp => some true
  | .fptr _ => some false
  | .ptr _ _ => some false
  | .rptr _ _ _ => some false
  | _ => none

def slNil : D → Option Bool
  | .nilsl => some true
  | .fsl _ _ => some false
  | .osl _ _ _ (_ + 1) => some false
  | _ => none

/-- '==' of pointers, one of them nil. -/
def eqPtr (x y : D) : Option Bool :=
  match ptrNil x, ptrNil y with
  | some true, some b => some b
  | some false, some true => some false
  | _, _ => none

def eqSl (x y : D) : Option Bool :=
  match slNil x, slNil y with
  | some true, some b => some b
  | some false, some true => some false
  | _, _ => none

def loadD (ag : Bool) (n : Nat) (cs : List D) : Option D :=
  if ag then (if n ≤ cs.length then some (.agg (cs.take n)) else none) else cs.head?

def cellsAt (H : Heap) : D → Option (List D)
  | .fptr cs => some cs
  | .ptr id off => match H[id]? with
    | some (.box cs) => some (cs.drop off)
    | _ => none
  | .rptr id hw off => match H[id]? with
    | some (.row _ cs false) => if cs.length = hw then some (cs.drop off) else none
    | _ => none
  | _ => none

/-- What may be stored into chunk id: where it was there when the frame began, nothing younger than it. -/
def storable (b : Nat) (H : Heap) (id : Nat) (vs : List D) : Bool := D.unders (if id < b then id + 1 else H.length) vs && D.ones vs

def storeD (b : Nat) (H : Heap) (n : Nat) (p v : D) : Option Heap :=
  if v.cells.length = n then
    match p with
    | .ptr id off => match H[id]? with
      | some (.box cs) => if off + n ≤ cs.length then (if storable b H id v.cells then some (H.set id (.box (splice cs off v.cells))) else none) else none
      | _ => none
    | .rptr id hw off => match H[id]? with
      | some (.row es cs false) => if cs.length = hw then (if off + n ≤ cs.length then (if storable b H id v.cells then some (H.set id (.row es (splice cs off v.cells) false)) else none) else none) else none
      | _ => none
    | _ => none
  else none

/-- Cells with parts filled in. -/
def fillD (cells : List D) : List (Nat × Nat × D) → Option (List D)
  | [] => some cells
  | (off, size, v) :: rest =>
    if v.cells.length = size ∧ off + size ≤ cells.length ∧ D.ones v.cells = true then fillD (splice cells off v.cells) rest else none

/-- New rows for slices that are nil so far; the cells name them. -/
def reserve (H : Heap) (cs : List D) : List (Nat × Nat) → Option (Heap × List D)
  | [] => some (H, cs)
  | (off, es) :: rest =>
    match cs[off]? with
    | some .nilsl => if 0 < es then reserve (H ++ [.row es [] true]) (cs.set off (.osl H.length 0 0 0)) rest else none
    | _ => reserve H cs rest

/-- The elements of a slice that is read: its cells, its length. -/
def elems (H : Heap) (es : Nat) : D → Option (List D × Nat)
  | .nilsl => some ([], 0)
  | .esl => some ([], 0)
  | .fsl cs n => if n * es = cs.length then some (cs, n) else none
  | .osl id hw off n => match H[id]? with
    | some (.row es' cs nil) => if es' = es ∧ cs.length = hw ∧ off + n * es ≤ hw ∧ (nil = true → n = 0) then some ((cs.drop off).take (n * es), n) else none
    | _ => none
  | _ => none

/-- The first k elements of a slice that is read. -/
def truncD (es k : Nat) (d : D) : D := match d with
  | .fsl cs _ => .fsl (cs.take (k * es)) k
  | .osl id hw off _ => .osl id hw off k
  | _ => .undef
def lenSl (d : D) : Option Nat := match d with
  | .nilsl => some 0
  | .esl => some 0
  | .fsl _ n => some n
  | .osl _ _ _ n => some n
  | _ => none
/-- What is read is written over the first of what stands there. -/
def copyD (b : Nat) (H : Heap) (es : Nat) (x y : D) : Option (D × Heap) := match x with
  | .osl id hw off n => match lenSl y with
    | some m => if min n m = 0 then some (.int .i64 0, H) else
      match elems H es (truncD es (min n m) y) with
      | some (ys, _) => match storeD b H (min n m * es) (.rptr id hw off) (.agg ys) with
        | some H' => some (.int .i64 (min n m : Nat), H')
        | none => none
      | none => none
    | none => none
  | _ => none

def maxBytes : Nat := 140737488355328

def appendD (b : Nat) (H : Heap) (es bytes : Nat) (x : D) (ys : List D) (m : Nat) : Option (D × Heap) :=
  match x with
  | .nilsl =>
    if m = 0 then some (.nilsl, H) else
    if m * bytes ≤ maxBytes ∧ storable b H H.length ys ∧ m ≤ maxBytes then some (.osl H.length (m * es) 0 m, H ++ [.row es ys false]) else none
  | .esl =>
    if m = 0 then some (.esl, H) else
    if m * bytes ≤ maxBytes ∧ storable b H H.length ys ∧ m ≤ maxBytes then some (.osl H.length (m * es) 0 m, H ++ [.row es ys false]) else none
  | .osl id hw 0 n => match H[id]? with
    | some (.row es' cs nil) =>
      if es' = es ∧ cs.length = hw ∧ n * es ≤ hw ∧ (nil = true → n = 0) ∧ (n + m) * bytes ≤ maxBytes ∧ n + m ≤ maxBytes ∧ storable b H id ys then
        (if m = 0 then some (.osl id hw 0 n, H) else
        if n * es = hw then some (.osl id (hw + m * es) 0 (n + m), H.set id (.row es (cs ++ ys) false)) else
        if (n + m) * es ≤ hw then some (.osl id hw 0 (n + m), H.set id (.row es (splice cs (n * es) ys) false)) else
        some (.osl id ((n + m) * es) 0 (n + m), H.set id (.row es (cs.take (n * es) ++ ys) false)))
      else none
    | _ => none
  | _ => none

def natArg : Option D → Nat → Nat → Option Nat
  | none, _, dflt => some dflt
  | some (.int _ i), top, _ => if 0 ≤ i ∧ i ≤ top then some i.toNat else none
  | _, _, _ => none

def sliceStr (s : List UInt8) (lo hi : Option D) : Option D :=
  match natArg hi s.length s.length with
  | some h => match natArg lo h 0 with
    | some l => some (.str ((s.take h).drop l))
    | none => none
  | none => none

def sliceD (es : Nat) (x : D) (lo hi mx : Option D) : Option D :=
  match x with
  | .nilsl => match natArg hi 0 0, natArg lo 0 0, mx with
    | some _, some _, none => some .nilsl
    | _, _, _ => none
  | .esl => match natArg hi 0 0, natArg lo 0 0, mx with
    | some _, some _, none => some .esl
    | _, _, _ => none
  | .fsl cs n =>
    if n * es = cs.length then
      match mx with
      | none => match natArg hi n n with
        | some h => match natArg lo h 0 with
          | some l => some (.fsl ((cs.take (h * es)).drop (l * es)) (h - l))
          | none => none
        | none => none
      | some (.int _ 0) => match hi, natArg lo 0 0 with
        | some (.int _ 0), some _ => some .esl
        | _, _ => none
      | _ => none
    else none
  | .osl id hw off n =>
    match mx with
    | none => match natArg hi n n with
      | some h => match natArg lo h 0 with
        | some l => some (.osl id hw (off + l * es) (h - l))
        | none => none
      | none => none
    | some (.int _ 0) => match hi, natArg lo 0 0 with
      | some (.int _ 0), some _ => some .esl
      | _, _ => none
    | _ => none
  | _ => none

def strBytes (s : List UInt8) : List D := s.map fun b => .int .u8 b.toNat

def bytesStr : List D → Option (List UInt8)
  | [] => some []
  | .int .u8 n :: ds => (bytesStr ds).map (UInt8.ofNat n.toNat :: ·)
  | _ => none

def maxD : D → List D → Option D
  | d, [] => some d
  | .int k x, .int k' y :: r => if k = k' then maxD (.int k (if y > x then y else x)) r else none
  | _, _ => none

def minD : D → List D → Option D
  | d, [] => some d
  | .int k x, .int k' y :: r => if k = k' then minD (.int k (if y < x then y else x)) r else none
  | _, _ => none

/-- '==' of plain cells. -/
def eqK : PK → D → D → Option Bool
  | .i, .int k a, .int k' b => if k = k' then some (a == b) else none
  | .b, .bool a, .bool b => some (a == b)
  | .s, .str a, .str b => some (a == b)
  | _, _, _ => none

/-- '==' of structs and arrays of plain cells. -/
def eqKs : List PK → List D → List D → Option Bool
  | [], [], [] => some true
  | k :: ks, x :: xs, y :: ys => match eqK k x y with
    | some true => eqKs ks xs ys
    | some false => some false
    | none => none
  | _, _, _ => none

end Go.AM
/- The abstract machine's interpreter. -/
namespace Go.AM

mutual
def D.beq : D → D → Bool
  | .undef, .undef => true
  | .bool a, .bool b => a == b
  | .int k a, .int k' b => decide (k = k') && decide (a = b)
  | .str a, .str b => a == b
  | .nilp, .nilp => true
  | .nilsl, .nilsl => true
  | .nilf, .nilf => true
  | .esl, .esl => true
  | .fptr a, .fptr b => D.beqs a b
  | .fsl a n, .fsl b m => Nat.beq n m && D.beqs a b
  | .ptr a o, .ptr b p => Nat.beq a b && Nat.beq o p
  | .rptr a h o, .rptr b g p => Nat.beq a b && Nat.beq h g && Nat.beq o p
  | .osl a h o n, .osl b g p m => Nat.beq a b && Nat.beq h g && Nat.beq o p && Nat.beq n m
  | .func f a c, .func g b d => Nat.beq f g && D.beqs a b && D.beqs c d
  | .yield a, .yield b => Nat.beq a b
  | .mp a, .mp b => Nat.beq a b
  | .agg a, .agg b => D.beqs a b
  | .tup a, .tup b => D.beqs a b
  | .sym a k, .sym b l => a == b && k == l
  | _, _ => false
def D.beqs : List D → List D → Bool
  | [], [] => true
  | a :: as, b :: bs => a.beq b && D.beqs as bs
  | _, _ => false
end

def evalA (G : Nat → Option (List D)) (env : Env) : Arg → D
  | .t i => env.get i
  | .c d => d
  | .g n => match G n with
    | some cs => .fptr cs
    | none => .undef

def evalPs (G : Nat → Option (List D)) (env : Env) : List (Nat × Nat × Arg) → List (Nat × Nat × D)
  | [] => []
  | (o, s, x) :: r => (o, s, evalA G env x) :: evalPs G env r

def evalAs (G : Nat → Option (List D)) (env : Env) : List Arg → List D
  | [] => []
  | x :: r => evalA G env x :: evalAs G env r

def evalO (G : Nat → Option (List D)) (env : Env) : Option Arg → Option D
  | none => none
  | some x => some (evalA G env x)

/-- n copies of some cells. -/
def copies (z : List D) : Nat → List D
  | 0 => []
  | n + 1 => z ++ copies z n

section
variable (G : Nat → Option (List D)) (b : Nat) (call : D → List D → Heap → Option (D × Heap))

/-- One operation: what its place holds then; the heap. -/
def step (env : Env) (H : Heap) : AOp → Option (D × Heap)
  | .mov x => match evalA G env x with
    | .undef => none
    | d => some (d, H)
  | .resv es => if 0 < es then some (.osl H.length 0 0 0, H ++ [.row es [] true]) else none
  | .pick c a b => match evalA G env c with
    | .bool x => match (if x then evalA G env a else evalA G env b) with
      | .undef => none
      | d => some (d, H)
    | _ => none
  | .allocB zs res => match reserve H zs res with
    | some (H', cs) => some (.ptr H'.length 0, H' ++ [.box cs])
    | none => none
  | .boxF n x => match (evalA G env x).cells with
    | cs => if cs.length = n ∧ D.unders 0 cs ∧ D.ones cs then some (.fptr cs, H) else none
  | .boxB n x res => match (evalA G env x).cells with
    | cs => if cs.length = n then
      match reserve H cs res with
      | some (H', cs) => if storable b H' H'.length cs then some (.ptr H'.length 0, H' ++ [.box cs]) else none
      | none => none
      else none
  | .build zs ps => match fillD zs (evalPs G env ps) with
    | some cs => if D.ones cs then some (.agg cs, H) else none
    | none => none
  | .bslF zs n ps => match fillD zs (evalPs G env ps) with
    | some cs => if D.unders 0 cs ∧ D.ones cs then some (.fsl cs n, H) else none
    | none => none
  | .bslR es zs n ps => match fillD zs (evalPs G env ps) with
    | some cs => if storable b H H.length cs then some (.osl H.length (n * es) 0 n, H ++ [.row es cs false]) else none
    | none => none
  | .load ag n p => match cellsAt H (evalA G env p) with
    | some cs => match loadD ag n cs with
      | some .undef => none
      | some d => some (d, H)
      | none => none
    | none => none
  | .store n p v => match storeD b H n (evalA G env p) (evalA G env v) with
    | some H' => some (.tup [], H')
    | none => none
  | .nilchk x => match evalA G env x with
    | .ptr i o => some (.ptr i o, H)
    | .rptr i h o => some (.rptr i h o, H)
    | .fptr cs => some (.fptr cs, H)
    | _ => none
  | .bin op x y => match binD op (evalA G env x) (evalA G env y) with
    | some d => some (d, H)
    | none => none
  | .eqB neg x y => match evalA G env x, evalA G env y with
    | .bool a, .bool b => some (.bool (neg != (a == b)), H)
    | _, _ => none
  | .eqP neg x y => match eqPtr (evalA G env x) (evalA G env y) with
    | some b => some (.bool (neg != b), H)
    | none => none
  | .eqS neg x y => match eqSl (evalA G env x) (evalA G env y) with
    | some b => some (.bool (neg != b), H)
    | none => none
  | .un op x => match unD op (evalA G env x) with
    | some d => some (d, H)
    | none => none
  | .convI k x => match evalA G env x with
    | .int _ n => some (.int k (k.wrap n), H)
    | _ => none
  | .convSB x => match evalA G env x with
    | .str s => if s.length ≤ maxBytes then some (.fsl (strBytes s) s.length, H) else none
    | _ => none
  | .convIS x => match evalA G env x with
    | .int _ n => if 0 ≤ n ∧ n < 128 then some (.str [UInt8.ofNat n.toNat], H) else none
    | _ => none
  | .convBS x => match elems H 1 (evalA G env x) with
    | some (cs, _) => match bytesStr cs with
      | some s => some (.str s, H)
      | none => none
    | none => none
  | .mkf f pre caps => if D.defd (evalAs G env pre) && D.defd (evalAs G env caps) then some (.func f (evalAs G env pre) (evalAs G env caps), H) else none
  | .msl es bytes z len cap => match evalA G env len, evalA G env cap with
    | .int .i64 l, .int .i64 c => if 0 ≤ l ∧ l ≤ c ∧ c.toNat * bytes ≤ maxBytes ∧ c.toNat ≤ maxBytes then
        some (.osl H.length (l.toNat * es) 0 l.toNat, H ++ [.row es (copies z l.toNat) false]) else none
    | _, _ => none
  | .sliceS x lo hi => match evalA G env x with
    | .str s => match sliceStr s (evalO G env lo) (evalO G env hi) with
      | some d => some (d, H)
      | none => none
    | _ => none
  | .sliceL es x lo hi mx => match sliceD es (evalA G env x) (evalO G env lo) (evalO G env hi) (evalO G env mx) with
    | some d => some (d, H)
    | none => none
  | .faddr off p => match evalA G env p with
    | .ptr i o => some (.ptr i (o + off), H)
    | .rptr i h o => some (.rptr i h (o + off), H)
    | .fptr cs => some (.fptr (cs.drop off), H)
    | _ => none
  | .iaddr es s i => match evalA G env s, evalA G env i with
    | .fsl cs n, .int _ j => if 0 ≤ j ∧ j < n then some (.fptr (cs.drop (j.toNat * es)), H) else none
    | .osl id hw off n, .int _ j => if 0 ≤ j ∧ j < n then some (.rptr id hw (off + j.toNat * es), H) else none
    | _, _ => none
  | .iaddrA n es p i => match evalA G env p, evalA G env i with
    | .fptr cs, .int _ j => if 0 ≤ j ∧ j < n then some (.fptr (cs.drop (j.toNat * es)), H) else none
    | .ptr id off, .int _ j => if 0 ≤ j ∧ j < n then some (.ptr id (off + j.toNat * es), H) else none
    | _, _ => none
  | .field ag off n x => match evalA G env x with
    | .agg cs => match loadD ag n (cs.drop off) with
      | some .undef => none
      | some d => some (d, H)
      | none => none
    | _ => none
  | .indexS x i => match evalA G env x, evalA G env i with
    | .str s, .int _ j => if 0 ≤ j then
        match s[j.toNat]? with
        | some b => some (.int .u8 b.toNat, H)
        | none => none
      else none
    | _, _ => none
  | .extract x i => match evalA G env x with
    | .tup vs => match vs[i]? with
      | some .undef => none
      | some d => some (d, H)
      | none => none
    | _ => none
  | .len st x => match st, evalA G env x with
    | true, .str s => some (.int .i64 s.length, H)
    | false, .nilsl => some (.int .i64 0, H)
    | false, .esl => some (.int .i64 0, H)
    | false, .fsl _ n => some (.int .i64 n, H)
    | false, .osl _ _ _ n => some (.int .i64 n, H)
    | _, _ => none
  | .append es bytes x y => match elems H es (evalA G env y) with
    | some (ys, m) => appendD b H es bytes (evalA G env x) ys m
    | none => none
  | .appendS bytes x y => match evalA G env y with
    | .str s => appendD b H 1 bytes (evalA G env x) (strBytes s) s.length
    | _ => none
  | .maxs x xs => match maxD (evalA G env x) (evalAs G env xs) with
    | some d => some (d, H)
    | none => none
  | .mins x xs => match minD (evalA G env x) (evalAs G env xs) with
    | some d => some (d, H)
    | none => none
  | .eqA neg ks x y => match evalA G env x, evalA G env y with
    | .agg a, .agg b => match eqKs ks a b with
      | some r => some (.bool (neg != r), H)
      | none => none
    | _, _ => none
  | .hole _ => some (.undef, H)
  | .fill n v => match v.box with
    | none => match (evalA G env v.arg).cells with
      | cs => if cs.length = n ∧ D.unders 0 cs ∧ D.ones cs then some (.fptr cs, H) else none
    | some res => match (evalA G env v.arg).cells with
      | cs => if cs.length = n then
        match reserve H cs res with
        | some (H', cs) => if storable b H' H'.length cs then some (.ptr H'.length 0, H' ++ [.box cs]) else none
        | none => none
        else none
  | .bad => none
  | .dfrop f x => match evalA G env x with
    | .func g _ _ => if Nat.beq g f then some (.tup [], H) else none
    | _ => none
  | .call f args => call (evalA G env f) (evalAs G env args) H
  | .capn x => match evalA G env x with
    | .nilsl => some (.int .i64 0, H)
    | _ => none
  | .appendZ es bytes zs x n => match evalA G env n with
    | .int _ q => if 0 ≤ q ∧ q.toNat * bytes ≤ maxBytes ∧ q.toNat ≤ maxBytes then
      match evalA G env x with
      | .nilsl => if q.toNat = 0 then some (.nilsl, H) else some (.osl H.length (q.toNat * es) 0 q.toNat, H ++ [.row es (copies zs q.toNat) false])
      | .esl => if q.toNat = 0 then some (.esl, H) else some (.osl H.length (q.toNat * es) 0 q.toNat, H ++ [.row es (copies zs q.toNat) false])
      | _ => none
      else none
    | _ => none
  | .mkmap => some (.mp H.length, H ++ [.map []])
  | .mget m k => match evalA G env m, evalA G env k with
    | .mp id, .int .i64 n => match H[id]? with
      | some (.map es) => some (.bool (mapGet n es), H)
      | _ => none
    | _, _ => none
  | .copy es x y => copyD b H es (evalA G env x) (evalA G env y)
  | .mset m k v => match evalA G env m, evalA G env k, evalA G env v with
    | .mp id, .int .i64 n, .bool x => match H[id]? with
      | some (.map es) => some (.tup [], H.set id (.map (mapSet n x es)))
      | _ => none
    | _, _, _ => none

def wantedA (env : Env) : Option (Nat × Bool) → Option Bool
  | none => some true
  | some (t, b) => match env.get t with
    | .bool x => some (x == b)
    | .tup [] => some false
    | _ => none

def putO (env : Env) : Option Nat → D → Env
  | some t, d => env.put t d
  | none, _ => env

def runOp (env : Env) (H : Heap) (o : AOper) : Option (D × Heap) :=
  match wantedA env o.guard with
  | some true => step G b call env H o.op
  | some false => some (.tup [], H)
  | none => none

def runOps : List AOper → Env → Heap → Option (Env × Heap)
  | [], env, H => some (env, H)
  | o :: r, env, H => match runOp G b call env H o with
    | some (d, H') => runOps r (putO env o.dst d) H'
    | none => none

/-- Does an operation turn the heap, or make a chunk? -/
def AOp.isE : AOp → Bool
  | .fill _ v => v.box.isSome
  | .resv _ | .allocB _ _ | .boxB _ _ _ | .bslR _ _ _ _ | .store _ _ _ | .msl _ _ _ _ _ | .append _ _ _ _ | .appendS _ _ _ | .appendZ _ _ _ _ _ | .mkmap | .mset _ _ _ | .copy _ _ _ | .call _ _ => true
  | _ => false

/-- Does it read what may be written? -/
def AOp.isL : AOp → Bool
  | .load _ _ _ | .convBS _ | .mget _ _ => true
  | _ => false

/-- An operation is the same at a heap. -/
def sameAt (env : Env) (o : AOper) (d : D) (H : Heap) : Bool :=
  match runOp G b call env H o with
  | some (d', _) => d'.beq d
  | none => false

def samePast (env : Env) (o : AOper) (d : D) (lo : Nat) : List (Nat × Heap) → Bool
  | [] => true
  | (j, H) :: r => (Nat.blt j lo || sameAt G b call env o d H) && samePast env o d lo r

def sameFut (env : Env) (o : AOper) (d : D) (hi : Nat) : List (Nat × Heap) → Bool
  | [] => true
  | (j, H) :: r => (Nat.ble hi j || sameAt G b call env o d H) && sameFut env o d hi r

/-- A region whose order is open: as the text has it; what else reads memory reads the same at each time at which it may. -/
def runD : Nat → List (AOper × Nat × Nat) → List (Nat × Heap) → Env → Heap → Option (Env × Heap × List (Nat × Heap))
  | _, [], _, env, H => some (env, H, [])
  | i, (o, lo, hi) :: r, past, env, H => match runOp G b call env H o with
    | some (d, H') =>
      if o.op.isE then
        match runD (i + 1) r ((i, H) :: past) (putO env o.dst d) H' with
        | some (e, h, fut) => some (e, h, (i, H') :: fut)
        | none => none
      else
        match runD (i + 1) r past (putO env o.dst d) H' with
        | some (e, h, fut) => if o.op.isL then (if samePast G b call env o d lo past && sameFut G b call env o d hi fut then some (e, h, fut) else none) else some (e, h, fut)
        | none => none
    | none => none

inductive Ex where
  | normal
  | exit (id : Nat)
  | ret
  deriving Inhabited

structure St where
  env : Env
  H : Heap
  dfs : List Nat
  deriving Inhabited

def loopN (f : St → Option (Ex × St)) : Nat → St → Option (Ex × St)
  | 0, _ => none
  | n + 1, s => match f s with
    | some (.normal, s') => loopN f n s'
    | r => r

def jumpEx : Option AJump → Ex
  | none => .normal
  | some .ret => .ret
  | some (.exit id) => .exit id

def enterLoopA (rnd : Option Nat) (s : St) (ps : List Nat) (asg body : ACode) : Option (Heap × List Nat) :=
  match rnd with
  | none => some (s.H ++ [.dfr false] ++ [.loop ⟨s.env, ps, asg, body, .ready, none, s.H.length⟩], s.H.length :: s.dfs)
  | some l => match s.H[l]? with
    | some (.loop L) => some (s.H ++ [.loop ⟨s.env, ps, asg, body, .ready, none, L.dfr⟩], s.dfs)
    | _ => none

def exec (lf : Nat) (rnd : Option Nat) : ACode → St → Option (Ex × St)
  | .skip, s => some (.normal, s)
  | .reg ops, s => match runOps G b call ops s.env s.H with
    | some (e, h) => some (.normal, ⟨e, h, s.dfs⟩)
    | none => none
  | .dreg ops, s => match runD G b call 0 ops [] s.env s.H with
    | some (e, h, _) => some (.normal, ⟨e, h, s.dfs⟩)
    | none => none
  | .seq a b, s => match exec lf rnd a s with
    | some (.normal, s') => exec lf rnd b s'
    | r => r
  | .cond c a b, s => match evalA G s.env c with
    | .bool x => if x then exec lf rnd a s else exec lf rnd b s
    | _ => none
  | .block id b, s => match exec lf rnd b s with
    | some (.exit id', s') => if id' = id then some (.normal, s') else some (.exit id', s')
    | r => r
  | .loop b, s => loopN (exec lf rnd b) lf s
  | .rangeF f ps asg body, s => match enterLoopA rnd s ps asg body with
    | some (H, dfs) => match evalA G s.env f with
      | .func g pre caps => match call (.func g pre caps) [.yield (H.length - 1)] H with
        | some (_, H') => match H'[H.length - 1]? with
          | some (.loop L) => if L.st = .busy then none else
            some (jumpEx L.pend, ⟨s.env, H'.set (H.length - 1) (.loop { L with st := .exhausted }), dfs⟩)
          | _ => none
        | none => none
      | _ => none
    | none => none
  | .exit id, s => some (.exit id, s)
  | .ret, s => some (.ret, s)

end

def mapO (g : D → Option D) : List D → Option (List D)
  | [] => some []
  | d :: ds => match g d with
    | some d' => match mapO g ds with
      | some ds' => some (d' :: ds')
      | none => none
    | none => none

/-- What a function hands back: its own memory becomes part of the value. -/
def fz (H : Heap) (n : Nat) : Nat → D → Option D
  | 0, _ => none
  | f + 1, d => match d with
    | .undef => none
    | .ptr id off => if id < n then some (.ptr id off) else
      match H[id]? with
      | some (.box cs) => match mapO (fz H n f) (cs.drop off) with
        | some cs' => if D.unders 0 cs' && D.ones cs' then some (.fptr cs') else none
        | none => none
      | _ => none
    | .osl id hw off m => if id < n then some (.osl id hw off m) else
      match H[id]? with
      | some (.row es cs nil) =>
        if nil then (if m = 0 then some .nilsl else none) else
        if cs.length = hw ∧ off + m * es ≤ hw then
          match mapO (fz H n f) ((cs.drop off).take (m * es)) with
          | some cs' => if D.unders 0 cs' && D.ones cs' then some (.fsl cs' m) else none
          | none => none
        else none
      | _ => none
    | .agg cs => match mapO (fz H n f) cs with
      | some cs' => some (.agg cs')
      | none => none
    | .tup cs => match mapO (fz H n f) cs with
      | some cs' => some (.tup cs')
      | none => none
    | .func g ps cs => match mapO (fz H n f) ps, mapO (fz H n f) cs with
      | some ps', some cs' => some (.func g ps' cs')
      | _, _ => none
    | .rptr id hw off => if id < n then some (.rptr id hw off) else none
    | .yield id => if id < n then some (.yield id) else none
    | .mp id => if id < n then some (.mp id) else none
    | d => some d

def readRes (env : Env) (H : Heap) : List ARes → Option (List D)
  | [] => some []
  | .tmp t :: r => match readRes env H r with
    | some ds => some (env.get t :: ds)
    | none => none
  | .cell t ag n :: r => match cellsAt H (env.get t) with
    | some cs => match loadD ag n cs with
      | some d => match readRes env H r with
        | some ds => some (d :: ds)
        | none => none
      | none => none
    | none => none

def pack : List D → D
  | [d] => d
  | ds => .tup ds

/-- The blocks of the rounds' deferred calls are taken over. -/
def takesA : Heap → List Nat → Option Heap
  | H, [] => some H
  | H, id :: r => match H[id]? with
    | some (.dfr false) => takesA (H.set id (.dfr true)) r
    | _ => none

/-- What is handed back as it is. -/
def finishP (H : Heap) (n : Nat) (ds : List D) : Option (D × Heap) :=
  match mapO (fz H n 64) ds with
  | some ds' => if D.unders n ds' then some (pack ds', H.take n) else none
  | none => none

/-- A function's end: n chunks were there when it began. -/
def finish (fn : AFunc) (n : Nat) (s : St) : Option (D × Heap) :=
  match takesA s.H s.dfs with
  | none => none
  | some H => match readRes s.env H fn.results with
    | none => none
    | some ds => match fn.keep with
      | none => finishP H n ds
      | some j => if Nat.ble 1000 j then (if D.unders H.length ds then some (pack ds, H) else none) else match ds[j]? with
        | some (.osl id hw 0 m) =>
          if id < n then finishP H n ds else
          match H[id]? with
          | some (.row es cs nil) =>
            if D.unders n cs then
              match mapO (fz (H.set id (.dfr true)) n 64) (ds.set j .nilsl) with
              | some ds' => if D.unders n ds' && Nat.blt j ds.length then some (pack (ds'.set j (.osl n hw 0 m)), H.take n ++ [.row es cs nil]) else none
              | none => none
            else none
          | _ => none
        | _ => finishP H n ds

inductive FTab where
  | nil
  | node (l : FTab) (v : Option AFunc) (r : FTab)
  deriving Inhabited

def FTab.get : FTab → Nat → Option AFunc
  | .nil, _ => none
  | .node _ v _, 0 => v
  | .node l _ r, n + 1 => if Nat.beq (n % 2) 0 then l.get (n / 2) else r.get (n / 2)

structure Ctx where
  G : Nat → Option (List D)
  fn : Nat → Option AFunc
  prims : Nat → List D → Option D

def endRoundA (ex : Ex) (L : ALoop) : D × ALoop :=
  match ex with
  | .normal => (.bool true, { L with st := .ready, pend := none })
  | .ret => (.bool false, { L with st := .done, pend := some .ret })
  | .exit id => (.bool false, { L with st := .done, pend := some (.exit id) })

def roundA (G : Nat → Option (List D)) (call : D → List D → Heap → Option (D × Heap)) (lf : Nat) (l : Nat) (args : List D) (H : Heap) : Option (D × Heap) :=
  match H[l]? with
  | some (.loop L) =>
    if L.st = .ready ∧ args.length = L.params.length then
      match exec G H.length call lf (some l) L.assign ⟨L.env.puts L.params args, H, []⟩ with
      | some (.normal, s1) => match s1.H[l]? with
        | some (.loop L1) =>
          if L1.st = .ready then
            match exec G H.length call lf (some l) L.body ⟨s1.env, s1.H.set l (.loop { L1 with st := .busy }), s1.dfs⟩ with
            | some (ex, s2) => match s2.H[l]? with
              | some (.loop L2) => some ((endRoundA ex L2).1, s2.H.set l (.loop (endRoundA ex L2).2))
              | _ => none
            | none => none
          else none
        | _ => none
      | _ => none
    else none
  | _ => none

def callN (X : Ctx) : Nat → D → List D → Heap → Option (D × Heap)
  | 0, _, _, _ => none
  | k + 1, .func f pre caps, args, H =>
    match X.prims f (pre ++ args ++ caps) with
    | some d => some (d, H)
    | none => match X.fn f with
      | none => none
      | some fn => if Nat.blt (pre ++ args ++ caps).length 65535 then
        match exec X.G H.length (callN X k) k none fn.body ⟨Env.nil.ofArgs 0 (pre ++ args ++ caps), H, []⟩ with
        | some (.normal, s) => finish fn H.length s
        | some (.ret, s) => finish fn H.length s
        | _ => none
        else none
  | k + 1, .yield l, args, H => roundA X.G (callN X k) k l args H
  | _ + 1, _, _, _ => none

end Go.AM
/- From the program's code to the abstract machine's: sizes, places and zero values are reckoned once. -/
namespace Go.AM

def valD1 : Value → Option D
  | .bool b => some (.bool b)
  | .int k n => some (.int k n)
  | .string s => some (.str s.data.toList)
  | .pointer none => some .nilp
  | .slice none 0 0 => some .nilsl
  | .nilFunc => some .nilf
  | .func (.func f) first captured => if first.size = 0 ∧ captured.size = 0 then some (.func f [] []) else none
  | _ => none

def valDs : List Value → Option (List D)
  | [] => some []
  | v :: r => match valD1 v with
    | some d => match valDs r with
      | some ds => some (d :: ds)
      | none => none
    | none => none

def valD : Value → Option D
  | .agg cs => match valDs cs.toList with
    | some ds => some (.agg ds)
    | none => none
  | .tuple vs => if vs.size = 0 then some (.tup []) else none
  | v => valD1 v

def compA : Operand → Option Arg
  | .tmp t => some (.t t)
  | .const v => match valD v with
    | some d => some (.c d)
    | none => none
  | .global g => some (.g g)
  | .func f => some (.c (.func f [] []))

def compAs : List Operand → Option (List Arg)
  | [] => some []
  | x :: r => match compA x with
    | some a => match compAs r with
      | some as => some (a :: as)
      | none => none
    | none => none

def compO : Option Operand → Option (Option Arg)
  | none => some none
  | some x => match compA x with
    | some a => some (some a)
    | none => none

section
variable (P : Program)

def aggT (t : TypeId) : Option Bool :=
  match P.underlying t with
  | some (.struct _) => some true
  | some (.array _ _) => some true
  | some _ => some false
  | none => none

/-- A type's size and the cells of its zero value, as they are. -/
def zeroT (t : TypeId) : Option (Nat × Nat × List D) :=
  match P.info? t with
  | some i => match i.zero with
    | some z => if z.cells.size = i.size then match valDs z.cells.toList with
      | some ds => some (i.size, i.bytes, ds)
      | none => none
      else none
    | none => none
  | none => none

def sizeT (t : TypeId) : Option Nat :=
  match P.info? t with
  | some i => some i.size
  | none => none

/-- Parts of a struct: where each lies. -/
def compParts (place : Nat → Option (Nat × Nat)) : List (Nat × Operand) → Option (List (Nat × Nat × Arg))
  | [] => some []
  | (i, x) :: r => match place i, compA x, compParts place r with
    | some (o, s), some a, some ps => some ((o, s, a) :: ps)
    | _, _, _ => none

def fieldPlaces (fs : Array Field) : Option (List (Nat × Nat)) := fs.toList.mapM (fun f => (P.info? f.type).map fun i => (f.offset, i.size))

inductive Pol where
  | frz
  | hole
  | res (l : List (Nat × Nat))
  | quiet (f : Nat)
  deriving Inhabited

def resOf : Option Pol → List (Nat × Nat)
  | some (.res l) => l
  | _ => []

def compB (b : Builtin) (types : List TypeId) (args : List Operand) : Option AOp :=
  match b, types, args with
  | .len, [t], [x] => match P.underlying t, compA x with
    | some .string, some a => some (.len true a)
    | some (.slice _), some a => some (.len false a)
    | _, _ => none
  | .append, [t, u], [x, y] => match P.underlying t, P.underlying u, compA x, compA y with
    | some (.slice e), some (.slice _), some a, some b => match zeroT P e with
      | some (s, by_, _) => if 0 < s ∧ 0 < by_ then some (.append s by_ a b) else none
      | none => none
    | some (.slice e), some .string, some a, some b => match zeroT P e with
      | some (s, by_, _) => if s = 1 ∧ 0 < by_ then some (.appendS by_ a b) else none
      | none => none
    | some (.slice e), some (.int _), some a, some b => match zeroT P e with
      | some (s, by_, zs) => if 0 < s ∧ 0 < by_ then some (.appendZ s by_ zs a b) else none
      | none => none
    | _, _, _, _ => none
  | .cap, [t], [x] => match P.underlying t, compA x with
    | some (.slice _), some a => some (.capn a)
    | _, _ => none
  | .copy, [t, _], [x, y] => match P.underlying t, compA x, compA y with
    | some (.slice e), some a, some b => match sizeT P e with
      | some s => if 0 < s then some (.copy s a b) else none
      | none => none
    | _, _, _ => none
  | .max, _, x :: xs => match compA x, compAs xs with
    | some a, some as => some (.maxs a as)
    | _, _ => none
  | .min, _, x :: xs => match compA x, compAs xs with
    | some a, some as => some (.mins a as)
    | _, _ => none
  | _, _, _ => none

/-- A type of one plain cell. -/
def plainT (t : TypeId) : Option PK :=
  match P.underlying t with
  | some (.int _) => some .i
  | some .bool => some .b
  | some .string => some .s
  | _ => none

def flatFields : Nat → List Field → Option (List PK)
  | _, [] => some []
  | i, f :: r => if f.name ≠ "_" ∧ f.offset = i then
      match plainT P f.type, flatFields (i + 1) r with
      | some k, some ks => some (k :: ks)
      | _, _ => none
    else none

/-- A struct or an array of plain cells, side by side. -/
def flatT (t : TypeId) : Option (List PK) :=
  match P.underlying t with
  | some (.struct fs) => if P.stoodInHeld t = false ∧ P.eqGuardType P.depth t = false then flatFields P 0 fs.toList else none
  | some (.array n e) => if P.eqGuardType P.depth t = false ∧ sizeT P e = some 1 then
      match plainT P e with
      | some k => some (List.replicate n k)
      | none => none
    else none
  | _ => none

def compBin (op : BinOp) (t : TypeId) (x y : Arg) : Option AOp :=
  match P.underlying t with
  | some (.int _) => some (.bin op x y)
  | some .string => some (.bin op x y)
  | some .bool => match op with
    | .eql => some (.eqB false x y)
    | .neq => some (.eqB true x y)
    | _ => none
  | some (.pointer _) => match op with
    | .eql => some (.eqP false x y)
    | .neq => some (.eqP true x y)
    | _ => none
  | some (.slice _) => match op with
    | .eql => some (.eqS false x y)
    | .neq => some (.eqS true x y)
    | _ => none
  | some _ => match flatT P t with
    | some n => match op with
      | .eql => some (.eqA false n x y)
      | .neq => some (.eqA true n x y)
      | _ => none
    | none => none
  | none => none

def compConv (src dst : TypeId) (x : Arg) : Option AOp :=
  match P.underlying src, P.underlying dst with
  | some (.int _), some (.int k) => some (.convI k x)
  | some (.int _), some .string => some (.convIS x)
  | some .string, some .string => some (.sliceS x none none)
  | some .string, some (.slice e) => match P.underlying e with
    | some (.int .u8) => some (.convSB x)
    | _ => none
  | some (.slice e), some .string => match P.underlying e with
    | some (.int .u8) => some (.convBS x)
    | _ => none
  | _, _ => none

/-- A map from int to bool. -/
def mapT (t : TypeId) : Bool := match P.underlying t with
  | some (.map k e) => (match P.underlying k with | some (.int .i64) => true | _ => false) && (match P.info? e with | some i => (match i.zero with | some (.bool false) => true | _ => false) | none => false)
  | _ => false

def compOp (pol : Option Pol) (op : Op) : Option AOp :=
  match op with
  | .move x => match compA x with
    | some a => some (.mov a)
    | none => none
  | .assign x => match pol, x with
    | some (.res [(0, es)]), .const (.slice none 0 0) => if 0 < es then some (.resv es) else none
    | _, x => match compA x with
      | some a => some (.mov a)
      | none => none
  | .pick c a b => match compA c, compA a, compA b with
    | some c, some a, some b => some (.pick c a b)
    | _, _, _ => none
  | .alloc e => match zeroT P e with
    | some (s, _, zs) => match pol with
      | some .hole => some (.hole s)
      | p => some (.allocB zs (resOf p))
    | none => none
  | .box e x => match sizeT P e, compA x with
    | some s, some a => match pol with
      | some .frz => some (.boxF s a)
      | p => some (.boxB s a (resOf p))
    | _, _ => none
  | .build t ps => match zeroT P t, P.underlying t with
    | some (_, _, zs), some (.struct fs) => match fieldPlaces P fs with
      | some places => match compParts (places.toArray[·]?) ps.toList with
        | some l => some (.build zs l)
        | none => none
      | none => none
    | some (_, _, zs), some (.array _ e) => match sizeT P e with
      | some s => match compParts (fun i => some (i * s, s)) ps.toList with
        | some l => some (.build zs l)
        | none => none
      | none => none
    | _, _ => none
  | .buildSlice t n ps => match P.underlying t with
    | some (.slice e) => match zeroT P e with
      | some (s, _, zs) => if 0 < s ∧ n * s ≤ 16777216 then
          match compParts (fun i => some (i * s, s)) ps.toList with
          | some l => match pol with
            | some .frz => some (.bslF (copies zs n) n l)
            | _ => some (.bslR s (copies zs n) n l)
          | none => none
        else none
      | none => none
    | _ => none
  | .load t p => match aggT P t, sizeT P t, compA p with
    | some ag, some s, some a => some (.load ag s a)
    | _, _, _ => none
  | .store t p v => match sizeT P t, compA p, compA v with
    | some s, some a, some b => match pol with
      | some .hole => some (.fill s ⟨b, none⟩)
      | some (.res l) => some (.fill s ⟨b, some l⟩)
      | _ => some (.store s a b)
    | _, _, _ => none
  | .nilCheck x => match compA x with
    | some a => some (.nilchk a)
    | none => none
  | .binOp op t x y _ => match compA x, compA y with
    | some a, some b => compBin P op t a b
    | _, _ => none
  | .unOp op _ x => match compA x with
    | some a => some (.un op a)
    | none => none
  | .convert s d x => match compA x with
    | some a => compConv P s d a
    | none => none
  | .makeFunc (.func f) first caps => match compAs first.toList, compAs caps.toList with
      | some k, some l => some (.mkf f k l)
      | _, _ => none
  | .makeSlice t l c => match P.underlying t with
    | some (.slice e) => match zeroT P e, compA l, compA c with
      | some (s, by_, zs), some a, some b => if 0 < s ∧ 0 < by_ then some (.msl s by_ zs a b) else none
      | _, _, _ => none
    | _ => none
  | .slice t x lo hi mx => match P.underlying t, compA x, compO lo, compO hi, compO mx with
    | some .string, some a, some l, some h, some none => some (.sliceS a l h)
    | some (.slice e), some a, some l, some h, some m => match sizeT P e with
      | some s => if 0 < s then some (.sliceL s a l h m) else none
      | none => none
    | _, _, _, _, _ => none
  | .fieldAddr s x f => match P.underlying s, compA x with
    | some (.struct fs), some a => match fs[f]? with
      | some fd => match sizeT P fd.type with
        | some sz => if 0 < sz then some (.faddr fd.offset a) else none
        | none => none
      | none => none
    | _, _ => none
  | .indexAddr t x i => match P.underlying t, compA x, compA i with
    | some (.slice e), some a, some b => match sizeT P e with
      | some s => if 0 < s then some (.iaddr s a b) else none
      | none => none
    | some (.array n e), some a, some b => match sizeT P e with
      | some s => if 0 < s then some (.iaddrA n s a b) else none
      | none => none
    | _, _, _ => none
  | .field t x f => match P.underlying t, compA x with
    | some (.struct fs), some a => match fs[f]? with
      | some fd => match aggT P fd.type, sizeT P fd.type with
        | some ag, some sz => some (.field ag fd.offset sz a)
        | _, _ => none
      | none => none
    | _, _ => none
  | .index t x i => match P.underlying t, compA x, compA i with
    | some .string, some a, some b => some (.indexS a b)
    | _, _, _ => none
  | .extract x i => match compA x with
    | some a => some (.extract a i)
    | none => none
  | .makeMap t none => match mapT P t with
    | true => some .mkmap
    | false => none
  | .lookup t m k false => match mapT P t, compA m, compA k with
    | true, some a, some b => some (.mget a b)
    | _, _, _ => none
  | .mapUpdate t m k v => match mapT P t, compA m, compA k, compA v with
    | true, some a, some b, some c => some (.mset a b c)
    | _, _, _, _ => none
  | .call c => match c.callee with
    | .builtin b => compB P b c.argTypes.toList c.args.toList
    | .value f => match compA f, compAs c.args.toList with
      | some a, some l => some (.call a l)
      | _, _ => none
    | _ => none
  | _ => none

def guardT (ops : Array Oper) : Option (Nat × Bool) → Option (Option (Nat × Bool))
  | none => some none
  | some (j, b) => match (ops[j]?).bind (·.dst) with
    | some t => some (some (t, b))
    | none => none

/-- A deferred call of a function that does nothing where nothing has panicked. -/
def compDfr (f : Nat) (c : Call) : Option AOp :=
  match c.callee with
  | .value x => if c.args.size = 0 then
      match compA x with
      | some a => some (.dfrop f a)
      | none => none
      else none
  | _ => none

def isDfr (pol : Option Pol) (op : Op) : Option (Nat × Call) :=
  match op, pol with
  | .defer c, some (.quiet f) => some (f, c)
  | _, _ => none

def compOper (pol : Option Pol) (ops : Array Oper) (o : Oper) : Option AOper :=
  match guardT ops o.guard with
  | some g => match isDfr pol o.op with
   | some (f, c) => match compDfr f c with
    | some a => some ⟨o.dst, g, a⟩
    | none => none
   | none => match (compOp P pol o.op).getD .bad, o.op with
    | .fill n v, .store _ (.tmp t) _ => if o.dst = none then some ⟨some t, g, .fill n v⟩ else none
    | .fill _ _, _ => none
    | op, _ => some ⟨o.dst, g, op⟩
  | none => none

def compOpers (pol : Nat → Option Pol) (ops : Array Oper) : Nat → List Oper → Option (List AOper)
  | _, [] => some []
  | i, o :: r => match compOper P (pol i) ops o with
    | some a => match compOpers pol ops (i + 1) r with
      | some l => some (a :: l)
      | none => none
    | none => none

/-! ### A region whose order is open -/
def predsOf (o : Oper) : List Nat := (o.after.toList.filter (Region.binds .any)).map (·.on)

/-- The ancestors of an operation, as a set of bits. -/
def ancOf (ancs : List Nat) : List Nat → Nat
  | [] => 0
  | p :: r => (1 <<< p) ||| ancs.getD p 0 ||| ancOf ancs r

/-- (each list: of the operations so far) -/
def ancsFrom : List Nat → List Oper → List Nat
  | ancs, [] => ancs
  | ancs, o :: r => ancsFrom (ancs ++ [ancOf ancs (predsOf o)]) r

/-- Holes that are not filled yet, and their sizes. -/
def pget : List (Nat × Nat) → Nat → Option Nat
  | [], _ => none
  | (t, s) :: r, u => if Nat.beq t u then some s else pget r u

def pdel : List (Nat × Nat) → Nat → List (Nat × Nat)
  | [], _ => []
  | (t, s) :: r, u => if Nat.beq t u then pdel r u else (t, s) :: pdel r u

/-- In the text's order each hole is filled at most once, and nothing else is laid into its place. -/
def pendOK : List (Nat × Nat) → List AOper → Bool
  | _, [] => true
  | p, o :: r => match o.op with
    | .hole s => match o.dst with
      | some t => o.guard.isNone && (pget p t).isNone && pendOK ((t, s) :: p) r
      | none => false
    | .fill s _ => match o.dst with
      | some t => o.guard.isNone && (match pget p t with | some s' => Nat.beq s' s | none => false) && pendOK (pdel p t) r
      | none => false
    | _ => (match o.dst with | some t => (pget p t).isNone | none => true) && pendOK p r

/-- Is the one ahead of the other, as the text has them? -/
def ordered (i ai j aj : Nat) : Bool := if Nat.blt j i then ai.testBit j else aj.testBit i

def hasT (t : Nat) : List Nat → Bool
  | [] => false
  | u :: r => Nat.beq u t || hasT t r

def readsDst (rs : List Nat) : Option Nat → Bool
  | none => false
  | some t => hasT t rs

def sameDst : Option Nat → Option Nat → Bool
  | some t, some u => Nat.beq t u
  | _, _ => false

/-- Two operations may change places. -/
def apartOK (i : Nat) (a : AOper) (rs : List Nat) (lo hi : Nat) (j : Nat) (o : AOper) : Bool :=
  !readsDst rs o.dst && !sameDst a.dst o.dst && (!o.op.isE || (!a.op.isE && (!a.op.isL || (if Nat.blt j i then Nat.ble lo j else Nat.blt j hi))))

def drawIn (i : Nat) (a : AOper) (rs : List Nat) (ai lo hi : Nat) : Nat → List (AOper × Nat × Nat) → List Nat → Bool
  | _, [], _ => true
  | j, (o, _, _) :: r, aj :: ra => (Nat.beq i j || ordered i ai j aj || apartOK i a rs lo hi j o) && drawIn i a rs ai lo hi (j + 1) r ra
  | _, _ :: _, [] => false

def drawAll (l : List (AOper × Nat × Nat)) (ancs : List Nat) : Nat → List (AOper × Nat × Nat) → List Nat → Bool
  | _, [], _ => true
  | i, (a, lo, hi) :: r, ai :: ra => drawIn i a a.reads ai lo hi 0 l ancs && drawAll l ancs (i + 1) r ra
  | _, _ :: _, [] => false

/-- How far an operation that reads may slip. -/
def slipIn (i ai : Nat) : Nat → List AOper → List Nat → Nat × Nat → Nat × Nat
  | j, o :: r, aj :: ra, (lo, hi) =>
    slipIn i ai (j + 1) r ra (if Nat.beq i j || !o.op.isE || ordered i ai j aj then (lo, hi) else if Nat.blt j i then (if Nat.blt j lo then (j, hi) else (lo, hi)) else (lo, j + 1))
  | _, _, _, x => x

def slipsFrom (as : List AOper) (ancs : List Nat) : Nat → List AOper → List Nat → List (AOper × Nat × Nat)
  | i, a :: r, ai :: ra => (a, if a.op.isL then slipIn i ai 0 as ancs (i, 0) else (0, 0)) :: slipsFrom as ancs (i + 1) r ra
  | _, _, _ => []

def edgesOK (md : Region.Mode) (n : Nat) (ρ : List Nat) (k : Nat) : List Edge → Bool
  | [] => true
  | e :: r => (!Region.binds md e || (Nat.blt e.on n && Nat.blt (ρ.getD e.on n) k)) && edgesOK md n ρ k r

/-- By their ranks: whom an operation waits for comes ahead of it. -/
def rankOK (md : Region.Mode) (n : Nat) (ρ : List Nat) : Nat → List Oper → Bool
  | _, [] => true
  | i, o :: r => edgesOK md n ρ (ρ.getD i n) o.after.toList && rankOK md n ρ (i + 1) r

def rankFor (md : Region.Mode) (ops : Array Oper) : List Nat :=
  if rankOK md ops.size (List.range ops.size) 0 ops.toList then List.range ops.size
  else (List.range ops.size).map fun j => (Region.linearise md ops 0).idxOf j

/-- In each mode the operations can be carried out one after the other. -/
def ranked (md : Region.Mode) (ops : Array Oper) : Bool := rankOK md ops.size (rankFor md ops) 0 ops.toList

def compDraw (ops : Array Oper) (as : List AOper) : Option (List (AOper × Nat × Nat)) :=
  let ancs := ancsFrom [] ops.toList
  let l := slipsFrom as ancs 0 as ancs
  if pendOK [] as && ((ranked .any ops && ranked .text ops && ranked .gc ops) && drawAll l ancs 0 l ancs) then some l else none

/-- Within a round nothing is deferred. -/
def noQuiet (pol : Nat → Nat → Option Pol) (r i : Nat) : Option Pol :=
  match pol r i with
  | some (.quiet _) => none
  | p => p

def compC (pol : Nat → Nat → Option Pol) : Code → Option ACode
  | .skip => some .skip
  | .region id ops false => match compOpers P (pol id) ops 0 ops.toList with
    | some l => if pendOK [] l then some (.reg l) else none
    | none => none
  | .region id ops true => match compOpers P (pol id) ops 0 ops.toList with
    | some as => match compDraw ops as with
      | some l => some (.dreg l)
      | none => none
    | none => none
  | .seq a b => match compC pol a, compC pol b with
    | some x, some y => some (.seq x y)
    | _, _ => none
  | .cond c a b => match compA c, compC pol a, compC pol b with
    | some c, some x, some y => some (.cond c x y)
    | _, _, _ => none
  | .block id b => match compC pol b with
    | some x => some (.block id x)
    | none => none
  | .loop b => match compC pol b with
    | some x => some (.loop x)
    | none => none
  | .rangeFunc f ps a b => match compA f, compC (noQuiet pol) a, compC (noQuiet pol) b with
    | some g, some x, some y => some (.rangeF g ps.toList x y)
    | _, _, _ => none
  | .exit id => some (.exit id)
  | .ret => some .ret
  | _ => none

def compRes : List ResultVar → Option (List ARes)
  | [] => some []
  | .tmp t :: r => match compRes r with
    | some l => some (.tmp t :: l)
    | none => none
  | .cell a t :: r => match aggT P t, sizeT P t, compRes r with
    | some ag, some s, some l => some (.cell a ag s :: l)
    | _, _, _ => none

def polAt (l : List (Nat × Nat × Pol)) (r i : Nat) : Option Pol :=
  match l with
  | [] => none
  | (r', i', p) :: rest => if r' = r ∧ i' = i then some p else polAt rest r i

def compF (pols : List (Nat × Nat × Pol)) (keep : Option Nat) (fn : Func) : Option AFunc :=
  match fn.body with
  | some c => if fn.name == "runtime.NumGoroutine" then none else
    match compC P (polAt pols) c, compRes P fn.results.toList with
    | some b, some rs => if b.fits fn.ntmps && Nat.blt fn.ntmps 65535 then some ⟨fn.params.size + fn.nfree, b, rs, keep⟩ else none
    | _, _ => none
  | none => none

end
end Go.AM
/- How the abstract machine's values stand to the machine's. -/
namespace Go.AM

/-- The block and the capacity of a chunk's version. -/
abbrev Bk := Nat → Nat → Option (Nat × Nat)
/-- What is frozen: it stays as it is. -/
abbrev Fz := Nat → Option Obj

def Bk.none : Bk := fun _ _ => Option.none

mutual
def VR : D → Bk → Fz → Value → Prop
  | .undef, _, _, _ => True
  | .bool b, _, _, v => v = .bool b
  | .int k n, _, _, v => v = .int k n
  | .str s, _, _, v => v = .string ⟨s.toArray⟩
  | .nilp, _, _, v => v = .pointer none
  | .nilsl, _, _, v => v = .slice none 0 0
  | .nilf, _, _, v => v = .nilFunc
  | .esl, _, _, v => ∃ a, v = .slice a 0 0
  | .fptr cs, _, Φ, v => ∃ ad, v = .pointer (some ad) ∧ (cs = [] ∨ ∃ cur e fr, Φ ad.block = some (.cells cur e fr) ∧ ad.spot = none ∧ FRs cs Φ cur ad.off)
  | .fsl cs n, _, Φ, v => ∃ ad cap, n ≤ cap ∧ v = .slice (some ad) n cap ∧ (cs = [] ∨ ∃ cur e fr, Φ ad.block = some (.cells cur e fr) ∧ ad.spot = none ∧ FRs cs Φ cur ad.off)
  | .ptr id off, β, _, v => ∃ b c, β id 0 = some (b, c) ∧ v = .pointer (some ⟨b, off, none⟩)
  | .rptr id hw off, β, _, v => ∃ b c, β id hw = some (b, c) ∧ v = .pointer (some ⟨b, off, none⟩)
  | .osl id hw off n, β, _, v => (∃ b c, β id hw = some (b, c) ∧ ((off = 0 ∧ n ≤ c ∧ v = .slice (some ⟨b, 0, none⟩) n c) ∨ (off ≠ 0 ∧ ∃ a cap, n ≤ cap ∧ v = .slice (some a) n cap ∧ (n ≠ 0 → a = ⟨b, off, none⟩)))) ∨
      (β id 0 = none ∧ hw = 0 ∧ off = 0 ∧ n = 0 ∧ v = .slice none 0 0)
  | .func f pre caps, β, Φ, v => ∃ us vs, v = .func (.func f) us.toArray vs.toArray ∧ VRs pre β Φ us ∧ VRs caps β Φ vs
  | .yield id, β, _, v => ∃ b c, β id 0 = some (b, c) ∧ v = .func (.yield b) #[] #[]
  | .mp id, β, _, v => ∃ b c, β id 0 = some (b, c) ∧ v = .map (some b)
  | .agg cs, β, Φ, v => ∃ vs, v = .agg vs.toArray ∧ VRs cs β Φ vs
  | .tup ds, β, Φ, v => ∃ vs, v = .tuple vs.toArray ∧ VRs ds β Φ vs
  | .sym s l, _, _, v => v = .string ⟨s.toArray⟩ ∧ ∀ x ∈ l, x ≠ s
def VRs : List D → Bk → Fz → List Value → Prop
  | [], _, _, vs => vs = []
  | d :: ds, β, Φ, vs => ∃ v r, vs = v :: r ∧ VR d β Φ v ∧ VRs ds β Φ r
def FRs : List D → Fz → Array Value → Nat → Prop
  | [], _, _, _ => True
  | d :: ds, Φ, cur, o => (∃ v, cur[o]? = some v ∧ d.under 0 = true ∧ VR d Bk.none Φ v) ∧ FRs ds Φ cur (o + 1)
end

/-- β' knows all that β knows below n; Φ' all that Φ knows. -/
structure More (n : Nat) (β : Bk) (Φ : Fz) (β' : Bk) (Φ' : Fz) : Prop where
  some : ∀ id v x, id < n → β id v = Option.some x → β' id v = Option.some x
  none : ∀ id, id < n → β id 0 = Option.none → β' id 0 = Option.none
  fz : ∀ b o, Φ b = Option.some o → Φ' b = Option.some o

mutual
theorem VR.more : ∀ (d : D) {n : Nat} {β β' : Bk} {Φ Φ' : Fz} {v : Value}, d.under n = true → More n β Φ β' Φ' → VR d β Φ v → VR d β' Φ' v
  | .undef, _, _, _, _, _, _, _, _, _ => by simp [VR]
  | .bool b, _, _, _, _, _, _, _, _, h => by simpa [VR] using h
  | .int k x, _, _, _, _, _, _, _, _, h => by simpa [VR] using h
  | .str s, _, _, _, _, _, _, _, _, h => by simpa [VR] using h
  | .nilp, _, _, _, _, _, _, _, _, h => by simpa [VR] using h
  | .nilsl, _, _, _, _, _, _, _, _, h => by simpa [VR] using h
  | .nilf, _, _, _, _, _, _, _, _, h => by simpa [VR] using h
  | .esl, _, _, _, _, _, _, _, _, h => by simpa [VR] using h
  | .fptr cs, n, _, _, _, _, _, _, hm, h => by
    simp only [VR] at h ⊢
    obtain ⟨ad, hv, h⟩ := h
    refine ⟨ad, hv, h.imp id ?_⟩
    rintro ⟨cur, e, fr, h1, h2, h3⟩
    exact ⟨cur, e, fr, hm.fz _ _ h1, h2, FRs.more cs hm.fz h3⟩
  | .fsl cs k, n, _, _, _, _, _, _, hm, h => by
    simp only [VR] at h ⊢
    obtain ⟨ad, cap, hc, hv, h⟩ := h
    refine ⟨ad, cap, hc, hv, h.imp id ?_⟩
    rintro ⟨cur, e, fr, h1, h2, h3⟩
    exact ⟨cur, e, fr, hm.fz _ _ h1, h2, FRs.more cs hm.fz h3⟩
  | .ptr id off, n, _, _, _, _, _, hu, hm, h => by
    simp only [VR] at h ⊢
    obtain ⟨b, c, h1, h2⟩ := h
    exact ⟨b, c, hm.some _ _ _ (by simpa [D.under, Nat.blt_eq] using hu) h1, h2⟩
  | .rptr id hw off, n, _, _, _, _, _, hu, hm, h => by
    simp only [VR] at h ⊢
    obtain ⟨b, c, h1, h2⟩ := h
    exact ⟨b, c, hm.some _ _ _ (by simpa [D.under, Nat.blt_eq] using hu) h1, h2⟩
  | .osl id hw off k, n, _, _, _, _, _, hu, hm, h => by
    simp only [VR] at h ⊢
    have hid : id < n := by simpa [D.under, Nat.blt_eq] using hu
    rcases h with ⟨b, c, h1, h2⟩ | ⟨h1, h2⟩
    · exact .inl ⟨b, c, hm.some _ _ _ hid h1, h2⟩
    · exact .inr ⟨hm.none _ hid h1, h2⟩
  | .func f pre caps, n, _, _, _, _, _, hu, hm, h => by
    simp only [VR] at h ⊢
    simp only [D.under, Bool.and_eq_true] at hu
    obtain ⟨us, vs, h1, h2, h3⟩ := h
    exact ⟨us, vs, h1, VRs.more pre hu.1 hm h2, VRs.more caps hu.2 hm h3⟩
  | .yield id, n, _, _, _, _, _, hu, hm, h => by
    simp only [VR] at h ⊢
    obtain ⟨b, c, h1, h2⟩ := h
    exact ⟨b, c, hm.some _ _ _ (by simpa [D.under, Nat.blt_eq] using hu) h1, h2⟩
  | .mp id, n, _, _, _, _, _, hu, hm, h => by
    simp only [VR] at h ⊢
    obtain ⟨b, c, h1, h2⟩ := h
    exact ⟨b, c, hm.some _ _ _ (by simpa [D.under, Nat.blt_eq] using hu) h1, h2⟩
  | .agg cs, n, _, _, _, _, _, hu, hm, h => by
    simp only [VR] at h ⊢
    obtain ⟨vs, h1, h2⟩ := h
    exact ⟨vs, h1, VRs.more cs (by simpa [D.under] using hu) hm h2⟩
  | .tup cs, n, _, _, _, _, _, hu, hm, h => by
    simp only [VR] at h ⊢
    obtain ⟨vs, h1, h2⟩ := h
    exact ⟨vs, h1, VRs.more cs (by simpa [D.under] using hu) hm h2⟩
  | .sym s l, _, _, _, _, _, _, _, _, h => by simpa [VR] using h
theorem VRs.more : ∀ (ds : List D) {n : Nat} {β β' : Bk} {Φ Φ' : Fz} {vs : List Value}, D.unders n ds = true → More n β Φ β' Φ' → VRs ds β Φ vs → VRs ds β' Φ' vs
  | [], _, _, _, _, _, _, _, _, h => by simpa [VRs] using h
  | d :: ds, n, _, _, _, _, vs, hu, hm, h => by
    simp only [D.unders, Bool.and_eq_true] at hu
    simp only [VRs] at h ⊢
    obtain ⟨v, r, h1, h2, h3⟩ := h
    exact ⟨v, r, h1, VR.more d hu.1 hm h2, VRs.more ds hu.2 hm h3⟩
theorem FRs.more : ∀ (ds : List D) {Φ Φ' : Fz} {cur : Array Value} {o : Nat}, (∀ b x, Φ b = some x → Φ' b = some x) → FRs ds Φ cur o → FRs ds Φ' cur o
  | [], _, _, _, _, _, h => by simp [FRs]
  | d :: ds, Φ, Φ', cur, o, hm, h => by
    simp only [FRs] at h ⊢
    obtain ⟨⟨v, h1, h0, h2⟩, h3⟩ := h
    refine ⟨⟨v, h1, h0, VR.fz d hm h2⟩, FRs.more ds hm h3⟩
/-- Where no id is known, nothing is asked of ids. -/
theorem VR.fz : ∀ (d : D) {Φ Φ' : Fz} {v : Value}, (∀ b x, Φ b = some x → Φ' b = some x) → VR d Bk.none Φ v → VR d Bk.none Φ' v
  | .undef, _, _, _, _, _ => by simp [VR]
  | .bool b, _, _, _, _, h => by simpa [VR] using h
  | .int k x, _, _, _, _, h => by simpa [VR] using h
  | .str s, _, _, _, _, h => by simpa [VR] using h
  | .nilp, _, _, _, _, h => by simpa [VR] using h
  | .nilsl, _, _, _, _, h => by simpa [VR] using h
  | .nilf, _, _, _, _, h => by simpa [VR] using h
  | .esl, _, _, _, _, h => by simpa [VR] using h
  | .fptr cs, _, _, _, hm, h => by
    simp only [VR] at h ⊢
    obtain ⟨ad, hv, h⟩ := h
    refine ⟨ad, hv, h.imp id ?_⟩
    rintro ⟨cur, e, fr, h1, h2, h3⟩
    exact ⟨cur, e, fr, hm _ _ h1, h2, FRs.more cs hm h3⟩
  | .fsl cs k, _, _, _, hm, h => by
    simp only [VR] at h ⊢
    obtain ⟨ad, cap, hc, hv, h⟩ := h
    refine ⟨ad, cap, hc, hv, h.imp id ?_⟩
    rintro ⟨cur, e, fr, h1, h2, h3⟩
    exact ⟨cur, e, fr, hm _ _ h1, h2, FRs.more cs hm h3⟩
  | .ptr id off, _, _, _, hm, h => by simpa [VR, Bk.none] using h
  | .rptr id hw off, _, _, _, hm, h => by simpa [VR, Bk.none] using h
  | .osl id hw off k, _, _, _, hm, h => by simpa [VR, Bk.none] using h
  | .func f pre caps, _, _, _, hm, h => by
    simp only [VR] at h ⊢
    obtain ⟨us, vs, h1, h2, h3⟩ := h
    exact ⟨us, vs, h1, VRs.fz pre hm h2, VRs.fz caps hm h3⟩
  | .yield id, _, _, _, hm, h => by simpa [VR, Bk.none] using h
  | .mp id, _, _, _, hm, h => by simpa [VR, Bk.none] using h
  | .agg cs, _, _, _, hm, h => by
    simp only [VR] at h ⊢
    obtain ⟨vs, h1, h2⟩ := h
    exact ⟨vs, h1, VRs.fz cs hm h2⟩
  | .tup cs, _, _, _, hm, h => by
    simp only [VR] at h ⊢
    obtain ⟨vs, h1, h2⟩ := h
    exact ⟨vs, h1, VRs.fz cs hm h2⟩
  | .sym s l, _, _, _, _, h => by simpa [VR] using h
theorem VRs.fz : ∀ (ds : List D) {Φ Φ' : Fz} {vs : List Value}, (∀ b x, Φ b = some x → Φ' b = some x) → VRs ds Bk.none Φ vs → VRs ds Bk.none Φ' vs
  | [], _, _, _, _, h => by simpa [VRs] using h
  | d :: ds, _, _, vs, hm, h => by
    simp only [VRs] at h ⊢
    obtain ⟨v, r, h1, h2, h3⟩ := h
    exact ⟨v, r, h1, VR.fz d hm h2, VRs.fz ds hm h3⟩
end

mutual
/-- A value without ids is related whatever the ids. -/
theorem VR.closed : ∀ (d : D) {β β' : Bk} {Φ : Fz} {v : Value}, d.under 0 = true → VR d β Φ v → VR d β' Φ v
  | .undef, _, _, _, _, hu, _ => by simp [VR]
  | .bool b, _, _, _, _, _, h => by simpa [VR] using h
  | .int k x, _, _, _, _, _, h => by simpa [VR] using h
  | .str s, _, _, _, _, _, h => by simpa [VR] using h
  | .nilp, _, _, _, _, _, h => by simpa [VR] using h
  | .nilsl, _, _, _, _, _, h => by simpa [VR] using h
  | .nilf, _, _, _, _, _, h => by simpa [VR] using h
  | .esl, _, _, _, _, _, h => by simpa [VR] using h
  | .fptr cs, _, _, _, _, _, h => by simpa [VR] using h
  | .fsl cs k, _, _, _, _, _, h => by simpa [VR] using h
  | .ptr id off, _, _, _, _, hu, _ => by simp [D.under, Nat.blt_eq] at hu
  | .rptr id hw off, _, _, _, _, hu, _ => by simp [D.under, Nat.blt_eq] at hu
  | .osl id hw off k, _, _, _, _, hu, _ => by simp [D.under, Nat.blt_eq] at hu
  | .func f pre caps, _, _, _, _, hu, h => by
    simp only [VR] at h ⊢
    simp only [D.under, Bool.and_eq_true] at hu
    obtain ⟨us, vs, h1, h2, h3⟩ := h
    exact ⟨us, vs, h1, VRs.closed pre hu.1 h2, VRs.closed caps hu.2 h3⟩
  | .yield id, _, _, _, _, hu, _ => by simp [D.under, Nat.blt_eq] at hu
  | .mp id, _, _, _, _, hu, _ => by simp [D.under, Nat.blt_eq] at hu
  | .agg cs, _, _, _, _, hu, h => by
    simp only [VR] at h ⊢
    obtain ⟨vs, h1, h2⟩ := h
    exact ⟨vs, h1, VRs.closed cs (by simpa [D.under] using hu) h2⟩
  | .tup cs, _, _, _, _, hu, h => by
    simp only [VR] at h ⊢
    obtain ⟨vs, h1, h2⟩ := h
    exact ⟨vs, h1, VRs.closed cs (by simpa [D.under] using hu) h2⟩
  | .sym s l, _, _, _, _, _, h => by simpa [VR] using h
theorem VRs.closed : ∀ (ds : List D) {β β' : Bk} {Φ : Fz} {vs : List Value}, D.unders 0 ds = true → VRs ds β Φ vs → VRs ds β' Φ vs
  | [], _, _, _, _, _, h => by simpa [VRs] using h
  | d :: ds, _, _, _, vs, hu, h => by
    simp only [D.unders, Bool.and_eq_true] at hu
    simp only [VRs] at h ⊢
    obtain ⟨v, r, h1, h2, h3⟩ := h
    exact ⟨v, r, h1, VR.closed d hu.1 h2, VRs.closed ds hu.2 h3⟩
end

end Go.AM
/- How the abstract machine's heap stands to the world. -/
namespace Go.AM

def LState.conc : LState → LoopState
  | .ready => .ready
  | .busy => .busy
  | .done => .done
  | .exhausted => .exhausted

def jumpC : Option AJump → Option Code
  | none => none
  | some .ret => some .ret
  | some (.exit id) => some (.exit id)

/-- A temporary's value: unknown, or all its ids below n. -/
def EU (n : Nat) (env : Env) : Prop := ∀ t, env.get t = .undef ∨ (env.get t).under n = true

def ER (β : Bk) (Φ : Fz) (env : Env) (tmps : Array Value) : Prop := ∀ t, VR (env.get t) β Φ (tmps.getD t undef)

def Chunk.unders (n : Nat) : Chunk → Prop
  | .box cs => D.unders n cs = true
  | .row _ cs _ => D.unders n cs = true
  | .loop L => EU n L.env ∧ L.dfr < n
  | .dfr _ => True
  | .map _ => True

def Chunk.blk (β : Bk) (id : Nat) : Chunk → Option Nat
  | .box _ => (β id 0).map (·.1)
  | .row _ cs nil => if nil then none else (β id cs.length).map (·.1)
  | .loop _ => (β id 0).map (·.1)
  | .dfr _ => (β id 0).map (·.1)
  | .map _ => (β id 0).map (·.1)

section
variable (P : Program) (G : Nat → Option (List D))

def CR (n : Nat) (c : Code) (ac : ACode) : Prop := ac.fits n = true ∧ ∃ pol, (∀ i j f, pol i j ≠ some (.quiet f)) ∧ compC P pol c = some ac

structure LoopRel (β : Bk) (Φ : Fz) (L : ALoop) (r : Loop) : Prop where
  state : r.state = L.st.conc
  pend : r.pending = jumpC L.pend
  params : r.params.toList = L.params
  code : ∃ n, n < 65535 ∧ n ≤ r.tmps.size ∧ fitsN n L.params = true ∧ CR P n r.assign L.assign ∧ CR P n r.body L.body
  env : ER β Φ L.env r.tmps
  dfr : ∃ c, β L.dfr 0 = some (r.defers, c)

def ChR (β : Bk) (Φ : Fz) (w : World) (id : Nat) : Chunk → Prop
  | .box cs => D.ones cs = true ∧ ∃ k c cur e, β id 0 = some (k, c) ∧ w.heap[k]? = some (.cells cur e (0, 0)) ∧ VRs cs β Φ cur.toList
  | .row es cs nil => 0 < es ∧ D.ones cs = true ∧ (∀ v, cs.length < v → β id v = none) ∧
      if nil then cs = [] ∧ β id 0 = none else
      ∃ k c cur e, β id cs.length = some (k, c) ∧ w.heap[k]? = some (.cells cur e (0, 0)) ∧ cur.size = c * es ∧ c ≤ maxLen ∧ cs.length ≤ cur.size ∧ VRs cs β Φ (cur.toList.take cs.length)
  | .loop L => ∃ k c r, β id 0 = some (k, c) ∧ w.heap[k]? = some (.loop r) ∧ LoopRel P β Φ L r
  | .dfr t => ∃ k c, β id 0 = some (k, c) ∧ w.heap[k]? = some (.deferred (if t then none else some []))
  | .map es => ∃ k c es' clock, β id 0 = some (k, c) ∧ w.heap[k]? = some (.map es' clock) ∧ es'.toList.map (fun e => (e.key, e.val)) = es.map fun p => (Value.int .i64 p.1, Value.bool p.2)

structure WR (β : Bk) (Φ : Fz) (b : Nat) (H : Heap) (w : World) : Prop where
  ch : ∀ id (c : Chunk), H[id]? = some c → ChR P β Φ w id c
  fz : ∀ k o, Φ k = some o → w.heap[k]? = some o
  apart : ∀ id (c : Chunk) k, H[id]? = some c → c.blk β id = some k → Φ k = none
  inj : ∀ id (c : Chunk) id' (c' : Chunk) k, H[id]? = some c → H[id']? = some c' → c.blk β id = some k → c'.blk β id' = some k → id = id'
  dom : ∀ id v, H.length ≤ id → β id v = none
  base : b ≤ H.length
  ids : ∀ id (c : Chunk), H[id]? = some c → c.unders (if id < b then b else H.length)
  glob : ∀ g cs, G g = some cs → ∃ cur e fr, Φ g = some (.cells cur e fr) ∧ FRs cs Φ cur 0

end

def live (β : Bk) (H : Heap) (k : Nat) : Prop := ∃ id, ∃ c : Chunk, H[id]? = some c ∧ c.blk β id = some k

/-- What a stretch of the run has done to the rest of the world: nothing. -/
structure Ext (β : Bk) (Φ : Fz) (H : Heap) (w : World) (β' : Bk) (Φ' : Fz) (H' : Heap) (w' : World) : Prop where
  more : More H.length β Φ β' Φ'
  len : H.length ≤ H'.length
  os : w'.os = w.os
  tape : w'.tape = w.tape
  output : w'.output = w.output
  size : w.heap.size ≤ w'.heap.size
  same : ∀ k, k < w.heap.size → ¬ live β H k → w'.heap[k]? = w.heap[k]?
  fresh : ∀ k, live β' H' k → live β H k ∨ w.heap.size ≤ k
  fzn : ∀ k o, Φ' k = some o → Φ k = some o ∨ live β H k ∨ w.heap.size ≤ k

theorem More.refl (n : Nat) (β : Bk) (Φ : Fz) : More n β Φ β Φ := ⟨fun _ _ _ _ h => h, fun _ _ h => h, fun _ _ h => h⟩
theorem More.trans {n n' : Nat} {β β' β'' : Bk} {Φ Φ' Φ'' : Fz} (h : More n β Φ β' Φ') (hn : n ≤ n') (k : More n' β' Φ' β'' Φ'') : More n β Φ β'' Φ'' :=
  ⟨fun id v x hi hx => k.some id v x (by omega) (h.some id v x hi hx), fun id hi hx => k.none id (by omega) (h.none id hi hx), fun b o hx => k.fz _ _ (h.fz _ _ hx)⟩
theorem More.le {n n' : Nat} {β β' : Bk} {Φ Φ' : Fz} (h : More n β Φ β' Φ') (hn : n' ≤ n) : More n' β Φ β' Φ' :=
  ⟨fun id v x hi hx => h.some id v x (by omega) hx, fun id hi hx => h.none id (by omega) hx, h.fz⟩

theorem Ext.refl (β : Bk) (Φ : Fz) (H : Heap) (w : World) : Ext β Φ H w β Φ H w :=
  ⟨More.refl _ _ _, Nat.le_refl _, rfl, rfl, rfl, Nat.le_refl _, fun _ _ _ => rfl, fun _ h => .inl h, fun _ _ h => .inl h⟩

theorem Ext.trans {β β' β'' : Bk} {Φ Φ' Φ'' : Fz} {H H' H'' : Heap} {w w' w'' : World} (h : Ext β Φ H w β' Φ' H' w') (k : Ext β' Φ' H' w' β'' Φ'' H'' w'') : Ext β Φ H w β'' Φ'' H'' w'' := by
  refine ⟨h.more.trans h.len k.more, Nat.le_trans h.len k.len, k.os.trans h.os, k.tape.trans h.tape, k.output.trans h.output, Nat.le_trans h.size k.size, ?_, ?_, ?_⟩
  · intro i hi hl
    rw [← h.same i hi hl]
    refine k.same i (Nat.lt_of_lt_of_le hi h.size) (fun hl' => ?_)
    rcases h.fresh i hl' with h' | h'
    · exact hl h'
    · omega
  · intro i hi
    rcases k.fresh i hi with h' | h'
    · exact h.fresh i h'
    · exact .inr (Nat.le_trans h.size h')
  · intro i o hi
    rcases k.fzn i o hi with h' | h' | h'
    · exact h.fzn i o h'
    · exact .inr (h.fresh i h')
    · exact .inr (.inr (Nat.le_trans h.size h'))

mutual
theorem D.under_le : ∀ (d : D) {n n' : Nat}, n ≤ n' → d.under n = true → d.under n' = true
  | .undef, _, _, _, h => by simp [D.under] at h
  | .bool _, _, _, _, _ => by simp [D.under]
  | .int _ _, _, _, _, _ => by simp [D.under]
  | .str _, _, _, _, _ => by simp [D.under]
  | .nilp, _, _, _, _ => by simp [D.under]
  | .nilsl, _, _, _, _ => by simp [D.under]
  | .nilf, _, _, _, _ => by simp [D.under]
  | .esl, _, _, _, _ => by simp [D.under]
  | .fptr _, _, _, _, _ => by simp [D.under]
  | .fsl _ _, _, _, _, _ => by simp [D.under]
  | .ptr _ _, _, _, hn, h => by simp only [D.under, Nat.blt_eq] at h ⊢; omega
  | .rptr _ _ _, _, _, hn, h => by simp only [D.under, Nat.blt_eq] at h ⊢; omega
  | .osl _ _ _ _, _, _, hn, h => by simp only [D.under, Nat.blt_eq] at h ⊢; omega
  | .yield _, _, _, hn, h => by simp only [D.under, Nat.blt_eq] at h ⊢; omega
  | .mp _, _, _, hn, h => by simp only [D.under, Nat.blt_eq] at h ⊢; omega
  | .func _ pre caps, _, _, hn, h => by simp only [D.under, Bool.and_eq_true] at h ⊢; exact ⟨D.unders_le pre hn h.1, D.unders_le caps hn h.2⟩
  | .agg caps, _, _, hn, h => by simp only [D.under] at h ⊢; exact D.unders_le caps hn h
  | .tup caps, _, _, hn, h => by simp only [D.under] at h ⊢; exact D.unders_le caps hn h
  | .sym _ _, _, _, _, _ => by simp [D.under]
theorem D.unders_le : ∀ (ds : List D) {n n' : Nat}, n ≤ n' → D.unders n ds = true → D.unders n' ds = true
  | [], _, _, _, _ => rfl
  | d :: ds, _, _, hn, h => by
    simp only [D.unders, Bool.and_eq_true] at h ⊢
    exact ⟨D.under_le d hn h.1, D.unders_le ds hn h.2⟩
end

theorem EU.le {n n' : Nat} {env : Env} (h : EU n env) (hn : n ≤ n') : EU n' env := fun t => (h t).imp id (D.under_le _ hn)

theorem Chunk.unders_le {c : Chunk} {n n' : Nat} (hn : n ≤ n') (h : c.unders n) : c.unders n' := by
  cases c with
  | box cs => exact D.unders_le cs hn h
  | row es cs nil => exact D.unders_le cs hn h
  | loop L => exact ⟨h.1.le hn, Nat.lt_of_lt_of_le h.2 hn⟩
  | dfr t => trivial
  | map es => trivial

theorem ER.more {n : Nat} {β β' : Bk} {Φ Φ' : Fz} {env : Env} {tmps : Array Value} (h : ER β Φ env tmps) (hu : EU n env) (hm : More n β Φ β' Φ') : ER β' Φ' env tmps := by
  intro t
  rcases hu t with h' | h'
  · rw [h']; trivial
  · exact VR.more _ h' hm (h t)

theorem LoopRel.more {P : Program} {n : Nat} {β β' : Bk} {Φ Φ' : Fz} {L : ALoop} {r : Loop} (h : LoopRel P β Φ L r) (hu : (Chunk.loop L).unders n) (hm : More n β Φ β' Φ') : LoopRel P β' Φ' L r := by
  obtain ⟨c, hc⟩ := h.dfr
  exact ⟨h.state, h.pend, h.params, h.code, h.env.more hu.1 hm, c, hm.some _ _ _ hu.2 hc⟩

/-- A chunk whose block lies as it lay. -/
theorem ChR.more {P : Program} {n : Nat} {β β' : Bk} {Φ Φ' : Fz} {w w' : World} {id : Nat} {c : Chunk} (h : ChR P β Φ w id c) (hu : c.unders n) (hid : id < n) (hm : More n β Φ β' Φ')
    (hb : ∀ v, β' id v = β id v) (hw : ∀ k, c.blk β id = some k → w'.heap[k]? = w.heap[k]?) : ChR P β' Φ' w' id c := by
  cases c with
  | box cs =>
    obtain ⟨h1, k, c, cur, e, h2, h3, h4⟩ := h
    exact ⟨h1, k, c, cur, e, by rw [hb]; exact h2, by rw [hw k (by simp [Chunk.blk, h2])]; exact h3, VRs.more cs hu hm h4⟩
  | row es cs nil =>
    obtain ⟨h0, h1, ht, h2⟩ := h
    refine ⟨h0, h1, fun v hv => by rw [hb]; exact ht v hv, ?_⟩
    cases nil with
    | true => simp only [if_true] at h2 ⊢; exact ⟨h2.1, by rw [hb]; exact h2.2⟩
    | false =>
      simp only [Bool.false_eq_true, if_false] at h2 ⊢
      obtain ⟨k, c, cur, e, h3, h4, h5, h6, h7, h8⟩ := h2
      exact ⟨k, c, cur, e, by rw [hb]; exact h3, by rw [hw k (by simp [Chunk.blk, h3])]; exact h4, h5, h6, h7, VRs.more cs hu hm h8⟩
  | loop L =>
    obtain ⟨k, c, r, h1, h2, h3⟩ := h
    exact ⟨k, c, r, by rw [hb]; exact h1, by rw [hw k (by simp [Chunk.blk, h1])]; exact h2, h3.more hu hm⟩
  | dfr t =>
    obtain ⟨k, c, h1, h2⟩ := h
    exact ⟨k, c, by rw [hb]; exact h1, by rw [hw k (by simp [Chunk.blk, h1])]; exact h2⟩
  | map es =>
    obtain ⟨k, c, es', cl, h1, h2, h3⟩ := h
    exact ⟨k, c, es', cl, by rw [hb]; exact h1, by rw [hw k (by simp [Chunk.blk, h1])]; exact h2, h3⟩

section
variable {P : Program} {G : Nat → Option (List D)} {β : Bk} {Φ : Fz} {b : Nat} {H : Heap} {w : World}

theorem WR.unders (h : WR P G β Φ b H w) {id : Nat} {c : Chunk} (hc : H[id]? = some c) : c.unders H.length := by
  have := h.ids id c hc
  have hb := h.base
  split at this
  · exact Chunk.unders_le hb this
  · exact this

theorem lt_of_some {α : Type} {l : List α} {i : Nat} {x : α} (h : l[i]? = some x) : i < l.length := (List.getElem?_eq_some_iff.1 h).1

theorem WR.blk_lt (h : WR P G β Φ b H w) {id : Nat} {c : Chunk} (hc : H[id]? = some c) {k : Nat} (hk : c.blk β id = some k) : k < w.heap.size := by
  have hr := h.ch id c hc
  have key : ∀ o, w.heap[k]? = some o → k < w.heap.size := fun o ho => (Array.getElem?_eq_some_iff.1 ho).1
  cases c with
  | box cs =>
    obtain ⟨h1, k', c, cur, e, h2, h3, h4⟩ := hr
    simp [Chunk.blk, h2] at hk
    subst hk; exact key _ h3
  | row es cs nil =>
    obtain ⟨h0, h1, _, h2⟩ := hr
    cases nil with
    | true => simp [Chunk.blk] at hk
    | false =>
      simp only [Bool.false_eq_true, if_false] at h2
      obtain ⟨k', c, cur, e, h3, h4, _⟩ := h2
      simp [Chunk.blk, h3] at hk
      subst hk; exact key _ h4
  | loop L =>
    obtain ⟨k', c, r, h1, h2, _⟩ := hr
    simp [Chunk.blk, h1] at hk
    subst hk; exact key _ h2
  | dfr t =>
    obtain ⟨k', c, h1, h2⟩ := hr
    simp [Chunk.blk, h1] at hk
    subst hk; exact key _ h2
  | map es =>
    obtain ⟨k', c, es', cl, h1, h2, _⟩ := hr
    simp [Chunk.blk, h1] at hk
    subst hk; exact key _ h2

theorem WR.fz_lt (h : WR P G β Φ b H w) {k : Nat} {o : Obj} (hk : Φ k = some o) : k < w.heap.size := (Array.getElem?_eq_some_iff.1 (h.fz k o hk)).1

/-- A world with one block more. -/
structure Grow (w w' : World) (o : Obj) : Prop where
  os : w'.os = w.os
  tape : w'.tape = w.tape
  output : w'.output = w.output
  heap : w'.heap = w.heap.push o

theorem Grow.old {w w' : World} {o : Obj} (h : Grow w w' o) {k : Nat} (hk : k < w.heap.size) : w'.heap[k]? = w.heap[k]? := by
  rw [h.heap, Array.getElem?_push, if_neg (by omega)]
theorem Grow.new {w w' : World} {o : Obj} (h : Grow w w' o) : w'.heap[w.heap.size]? = some o := by
  rw [h.heap, Array.getElem?_push, if_pos rfl]
theorem Grow.size {w w' : World} {o : Obj} (h : Grow w w' o) : w'.heap.size = w.heap.size + 1 := by rw [h.heap, Array.size_push]
theorem Grow.alloc (w : World) (o : Obj) : Grow w (w.alloc o) o := ⟨rfl, rfl, rfl, rfl⟩
theorem Grow.drew_alloc (w : World) (o : Obj) : Grow w (w.drew.alloc o) o := ⟨rfl, rfl, rfl, rfl⟩

/-- A world that has only drawn. -/
theorem WR.same (h : WR P G β Φ b H w) {w' : World} (hh : w'.heap = w.heap) : WR P G β Φ b H w' := by
  refine ⟨fun id c hc => ?_, fun k o hk => by rw [hh]; exact h.fz k o hk, h.apart, h.inj, h.dom, h.base, h.ids, h.glob⟩
  exact (h.ch id c hc).more (h.unders hc) (lt_of_some hc) (More.refl _ _ _) (fun _ => rfl) (fun k _ => by rw [hh])

/-- A new block that stays as it is. -/
def Fz.put (Φ : Fz) (k : Nat) (o : Obj) : Fz := fun i => if i = k then some o else Φ i

theorem Fz.put_more {Φ : Fz} {k : Nat} (o : Obj) (h : Φ k = none) : ∀ i x, Φ i = some x → Fz.put Φ k o i = some x := by
  intro i x hi
  unfold Fz.put
  split
  · rename_i e; subst e; rw [h] at hi; cases hi
  · exact hi

theorem WR.newFrozen (h : WR P G β Φ b H w) {w' : World} {o : Obj} (hg : Grow w w' o) :
    WR P G β (Fz.put Φ w.heap.size o) b H w' ∧ Ext β Φ H w β (Fz.put Φ w.heap.size o) H w' := by
  have hn : Φ w.heap.size = none := by
    cases hx : Φ w.heap.size with
    | none => rfl
    | some x => exact absurd (h.fz_lt hx) (by omega)
  have hm : More H.length β Φ β (Fz.put Φ w.heap.size o) := ⟨fun _ _ _ _ h => h, fun _ _ h => h, Fz.put_more o hn⟩
  refine ⟨⟨fun id c hc => ?_, fun k o' hk => ?_, fun id c k hc hk => ?_, h.inj, h.dom, h.base, h.ids, fun g cs hgc => ?_⟩, ⟨hm, Nat.le_refl _, hg.os, hg.tape, hg.output, by rw [hg.size]; omega, fun k hk _ => hg.old hk, fun k hk => .inl hk, fun k o' hk => ?_⟩⟩
  · exact (h.ch id c hc).more (h.unders hc) (lt_of_some hc) hm (fun _ => rfl) (fun k hk => hg.old (h.blk_lt hc hk))
  · unfold Fz.put at hk
    split at hk
    · rename_i e; subst e; cases hk; exact hg.new
    · rw [hg.old (h.fz_lt hk)]; exact h.fz k o' hk
  · have := h.blk_lt hc hk
    unfold Fz.put
    rw [if_neg (by omega)]
    exact h.apart id c k hc hk
  · obtain ⟨cur, e, fr, h1, h2⟩ := h.glob g cs hgc
    exact ⟨cur, e, fr, Fz.put_more o hn _ _ h1, FRs.more cs (Fz.put_more o hn) h2⟩
  · unfold Fz.put at hk
    split at hk
    · rename_i e; subst e; exact .inr (.inr (Nat.le_refl _))
    · exact .inl hk

def Bk.put (β : Bk) (id v : Nat) (x : Nat × Nat) : Bk := fun i u => if i = id ∧ u = v then some x else β i u

theorem Bk.put_same (β : Bk) (id v : Nat) (x : Nat × Nat) : Bk.put β id v x id v = some x := by simp [Bk.put]
theorem Bk.put_id {β : Bk} {id v i u : Nat} {x : Nat × Nat} (h : i ≠ id) : Bk.put β id v x i u = β i u := by simp [Bk.put, h]
theorem Bk.put_v {β : Bk} {id v u : Nat} {x : Nat × Nat} (h : u ≠ v) : Bk.put β id v x id u = β id u := by simp [Bk.put, h]

theorem live_old {β β' : Bk} {H : Heap} {k : Nat} (hb : ∀ i v, i < H.length → β' i v = β i v) : live β' H k ↔ live β H k := by
  have hbl : ∀ id (c : Chunk), H[id]? = some c → c.blk β' id = c.blk β id := fun id c hc => by
    cases c <;> simp [Chunk.blk, hb _ _ (lt_of_some hc)]
  constructor
  · rintro ⟨id, c, h1, h2⟩; exact ⟨id, c, h1, by rw [← hbl id c h1]; exact h2⟩
  · rintro ⟨id, c, h1, h2⟩; exact ⟨id, c, h1, by rw [hbl id c h1]; exact h2⟩

theorem append_some {α : Type} {l : List α} {x y : α} {i : Nat} (h : (l ++ [x])[i]? = some y) : l[i]? = some y ∨ (i = l.length ∧ y = x) := by
  rw [List.getElem?_append] at h
  split at h
  · exact .inl h
  · right
    have hi : i - l.length = 0 := by
      cases hz : i - l.length with
      | zero => rfl
      | succ n => rw [hz] at h; simp at h
    rw [hi] at h
    simp at h
    exact ⟨by omega, h.symm⟩

/-- A new chunk over a new block. -/
theorem WR.newChunk (h : WR P G β Φ b H w) {w' : World} {o : Obj} (hg : Grow w w' o) {c : Chunk} {v cap : Nat}
    (hc : ChR P (Bk.put β H.length v (w.heap.size, cap)) Φ w' H.length c) (hb : c.blk (Bk.put β H.length v (w.heap.size, cap)) H.length = some w.heap.size) (hu : c.unders (H.length + 1)) :
    WR P G (Bk.put β H.length v (w.heap.size, cap)) Φ b (H ++ [c]) w' ∧ Ext β Φ H w (Bk.put β H.length v (w.heap.size, cap)) Φ (H ++ [c]) w' := by
  have hold : ∀ i u, i < H.length → Bk.put β H.length v (w.heap.size, cap) i u = β i u := fun i u hi => Bk.put_id (by omega)
  have hm : More H.length β Φ (Bk.put β H.length v (w.heap.size, cap)) Φ :=
    ⟨fun id u x hi hx => by rw [hold id u hi]; exact hx, fun id hi hx => by rw [hold id 0 hi]; exact hx, fun _ _ h => h⟩
  have hbl : ∀ id (c : Chunk), H[id]? = some c → c.blk (Bk.put β H.length v (w.heap.size, cap)) id = c.blk β id := fun id c hc => by
    cases c <;> simp [Chunk.blk, hold _ _ (lt_of_some hc)]
  refine ⟨⟨fun id c' hc' => ?_, fun k o' hk => ?_, fun id c' k hc' hk => ?_, fun id c' id' c'' k hc' hc'' hk hk' => ?_, fun id u hi => ?_, ?_, fun id c' hc' => ?_, h.glob⟩,
    ⟨hm, by simp, hg.os, hg.tape, hg.output, by rw [hg.size]; omega, fun k hk _ => hg.old hk, ?_, fun k o' hk => .inl hk⟩⟩
  · rcases append_some hc' with h1 | ⟨h1, h2⟩
    · exact (h.ch id c' h1).more (h.unders h1) (lt_of_some h1) hm (fun u => hold id u (lt_of_some h1)) (fun k hk => hg.old (h.blk_lt h1 hk))
    · subst h1; subst h2; exact hc
  · rw [hg.old (h.fz_lt hk)]; exact h.fz k o' hk
  · rcases append_some hc' with h1 | ⟨h1, h2⟩
    · rw [hbl id c' h1] at hk; exact h.apart id c' k h1 hk
    · subst h1; subst h2
      rw [hb] at hk; cases hk
      cases hx : Φ w.heap.size with
      | none => rfl
      | some x => exact absurd (h.fz_lt hx) (by omega)
  · rcases append_some hc' with h1 | ⟨h1, h2⟩ <;> rcases append_some hc'' with h3 | ⟨h3, h4⟩
    · rw [hbl id c' h1] at hk; rw [hbl id' c'' h3] at hk'; exact h.inj id c' id' c'' k h1 h3 hk hk'
    · subst h3; subst h4
      rw [hb] at hk'; cases hk'
      rw [hbl id c' h1] at hk
      exact absurd (h.blk_lt h1 hk) (by omega)
    · subst h1; subst h2
      rw [hb] at hk; cases hk
      rw [hbl id' c'' h3] at hk'
      exact absurd (h.blk_lt h3 hk') (by omega)
    · rw [h1, h3]
  · simp only [List.length_append, List.length_cons, List.length_nil] at hi
    rw [Bk.put_id (by omega)]; exact h.dom id u (by omega)
  · have := h.base; simp; omega
  · rcases append_some hc' with h1 | ⟨h1, h2⟩
    · have := h.ids id c' h1
      split at this
      · rename_i hlt; rw [if_pos hlt]; exact this
      · rename_i hge; rw [if_neg hge]; exact Chunk.unders_le (by simp) this
    · subst h1; subst h2
      rw [if_neg (by have := h.base; omega)]
      simpa using hu
  · rintro k ⟨id, c', h1, h2⟩
    rcases append_some h1 with h3 | ⟨h3, h4⟩
    · rw [hbl id c' h3] at h2; exact .inl ⟨id, c', h3, h2⟩
    · subst h3; subst h4; rw [hb] at h2; cases h2; exact .inr (Nat.le_refl _)

/-- A new row for a slice that is nil so far: no block. -/
theorem WR.newNil (h : WR P G β Φ b H w) (es : Nat) (hes : 0 < es) :
    WR P G β Φ b (H ++ [.row es [] true]) w ∧ Ext β Φ H w β Φ (H ++ [.row es [] true]) w := by
  refine ⟨⟨fun id c' hc' => ?_, h.fz, fun id c' k hc' hk => ?_, fun id c' id' c'' k hc' hc'' hk hk' => ?_, fun id u hi => ?_, ?_, fun id c' hc' => ?_, h.glob⟩,
    ⟨More.refl _ _ _, by simp, rfl, rfl, rfl, Nat.le_refl _, fun k hk _ => rfl, ?_, fun k o' hk => .inl hk⟩⟩
  · rcases append_some hc' with h1 | ⟨h1, h2⟩
    · exact h.ch id c' h1
    · subst h1; subst h2
      exact ⟨hes, rfl, fun v _ => h.dom _ v (Nat.le_refl _), by simp; exact h.dom _ 0 (Nat.le_refl _)⟩
  · rcases append_some hc' with h1 | ⟨h1, h2⟩
    · exact h.apart id c' k h1 hk
    · subst h2; simp [Chunk.blk] at hk
  · rcases append_some hc' with h1 | ⟨h1, h2⟩ <;> rcases append_some hc'' with h3 | ⟨h3, h4⟩
    · exact h.inj id c' id' c'' k h1 h3 hk hk'
    · subst h4; simp [Chunk.blk] at hk'
    · subst h2; simp [Chunk.blk] at hk
    · rw [h1, h3]
  · simp only [List.length_append, List.length_cons, List.length_nil] at hi
    exact h.dom id u (by omega)
  · have := h.base; simp; omega
  · rcases append_some hc' with h1 | ⟨h1, h2⟩
    · have := h.ids id c' h1
      split at this
      · rename_i hlt; rw [if_pos hlt]; exact this
      · rename_i hge; rw [if_neg hge]; exact Chunk.unders_le (by simp) this
    · subst h2; simp [Chunk.unders, D.unders]
  · rintro k ⟨id, c', h1, h2⟩
    rcases append_some h1 with h3 | ⟨h3, h4⟩
    · exact .inl ⟨id, c', h3, h2⟩
    · subst h4; simp [Chunk.blk] at h2

/-- A world in which one block has turned. -/
structure Turn (w w' : World) (k : Nat) (o : Obj) : Prop where
  os : w'.os = w.os
  tape : w'.tape = w.tape
  output : w'.output = w.output
  size : w'.heap.size = w.heap.size
  here : w'.heap[k]? = some o
  other : ∀ i, i ≠ k → w'.heap[i]? = w.heap[i]?

theorem set_some {α : Type} {l : List α} {x y : α} {i j : Nat} (h : (l.set j x)[i]? = some y) : (i ≠ j ∧ l[i]? = some y) ∨ (i = j ∧ y = x ∧ j < l.length) := by
  rw [List.getElem?_set] at h
  split at h
  · rename_i e
    split at h
    · right; simp at h; exact ⟨e.symm, h.symm, by omega⟩
    · cases h
  · exact .inl ⟨fun e => by simp_all, h⟩

/-- A chunk turns in its block. (β' may know a new version of it.) -/
theorem WR.turn (h : WR P G β Φ b H w) {w' : World} {id k : Nat} {o : Obj} {c c' : Chunk} {β' : Bk} (hc : H[id]? = some c) (hk : c.blk β id = some k) (ht : Turn w w' k o)
    (hold : ∀ i u, i ≠ id → β' i u = β i u) (hsome : ∀ u x, β id u = some x → β' id u = some x) (hnone : β id 0 = none → β' id 0 = none)
    (hc' : ChR P β' Φ w' id c') (hk' : c'.blk β' id = some k) (hu : c'.unders (if id < b then b else H.length)) :
    WR P G β' Φ b (H.set id c') w' ∧ Ext β Φ H w β' Φ (H.set id c') w' := by
  have hm : More H.length β Φ β' Φ := by
    refine ⟨fun i u x hi hx => ?_, fun i hi hx => ?_, fun _ _ h => h⟩
    · by_cases e : i = id
      · subst e; exact hsome u x hx
      · rw [hold i u e]; exact hx
    · by_cases e : i = id
      · subst e; exact hnone hx
      · rw [hold i 0 e]; exact hx
  have hbl : ∀ i (x : Chunk), i ≠ id → H[i]? = some x → x.blk β' i = x.blk β i := fun i x hi hx => by cases x <;> simp [Chunk.blk, hold _ _ hi]
  refine ⟨⟨fun i x hx => ?_, fun i o' hi => ?_, fun i x j hx hj => ?_, fun i x i' x' j hx hx' hj hj' => ?_, fun i u hi => ?_, ?_, fun i x hx => ?_, h.glob⟩,
    ⟨hm, by simp, ht.os, ht.tape, ht.output, by rw [ht.size]; omega, fun i hi hl => ?_, ?_, fun k o' hk => .inl hk⟩⟩
  · rcases set_some hx with ⟨h1, h2⟩ | ⟨h1, h2, h3⟩
    · refine (h.ch i x h2).more (h.unders h2) (lt_of_some h2) hm (fun u => hold i u h1) (fun j hj => ht.other j (fun e => ?_))
      subst e; exact h1 (h.inj i x id c j h2 hc hj hk)
    · subst h1; subst h2; exact hc'
  · have : i ≠ k := fun e => by subst e; rw [h.apart id c i hc hk] at hi; cases hi
    rw [ht.other i this]; exact h.fz i o' hi
  · rcases set_some hx with ⟨h1, h2⟩ | ⟨h1, h2, h3⟩
    · rw [hbl i x h1 h2] at hj; exact h.apart i x j h2 hj
    · subst h1; subst h2; rw [hk'] at hj; cases hj; exact h.apart i c k hc hk
  · rcases set_some hx with ⟨h1, h2⟩ | ⟨h1, h2, h3⟩ <;> rcases set_some hx' with ⟨g1, g2⟩ | ⟨g1, g2, g3⟩
    · rw [hbl i x h1 h2] at hj; rw [hbl i' x' g1 g2] at hj'; exact h.inj i x i' x' j h2 g2 hj hj'
    · subst g1; subst g2; rw [hk'] at hj'; cases hj'; rw [hbl i x h1 h2] at hj; exact h.inj i x i' c k h2 hc hj hk
    · subst h1; subst h2; rw [hk'] at hj; cases hj; rw [hbl i' x' g1 g2] at hj'; exact h.inj i c i' x' k hc g2 hk hj'
    · rw [h1, g1]
  · simp only [List.length_set] at hi
    rw [hold i u (by have := lt_of_some hc; omega)]; exact h.dom i u hi
  · simpa using h.base
  · rcases set_some hx with ⟨h1, h2⟩ | ⟨h1, h2, h3⟩
    · simpa using h.ids i x h2
    · subst h1; subst h2; simpa using hu
  · exact ht.other i (fun e => hl ⟨id, c, hc, by rw [e]; exact hk⟩)
  · rintro j ⟨i, x, h1, h2⟩
    rcases set_some h1 with ⟨g1, g2⟩ | ⟨g1, g2, g3⟩
    · rw [hbl i x g1 g2] at h2; exact .inl ⟨i, x, g2, h2⟩
    · subst g1; subst g2; rw [hk'] at h2; cases h2; exact .inl ⟨i, c, hc, hk⟩

/-- A row moves to a new block (or gets its first one). -/
theorem WR.move (h : WR P G β Φ b H w) {w' : World} {id : Nat} {o : Obj} {c c' : Chunk} {v cap : Nat} (hc : H[id]? = some c) (hg : Grow w w' o) (hnew : β id v = none) (hv : v ≠ 0)
    (hc' : ChR P (Bk.put β id v (w.heap.size, cap)) Φ w' id c') (hk' : c'.blk (Bk.put β id v (w.heap.size, cap)) id = some w.heap.size) (hu : c'.unders (if id < b then b else H.length)) :
    WR P G (Bk.put β id v (w.heap.size, cap)) Φ b (H.set id c') w' ∧ Ext β Φ H w (Bk.put β id v (w.heap.size, cap)) Φ (H.set id c') w' := by
  have hm : More H.length β Φ (Bk.put β id v (w.heap.size, cap)) Φ := by
    refine ⟨fun i u x hi hx => ?_, fun i hi hx => ?_, fun _ _ h => h⟩
    · unfold Bk.put
      split
      · rename_i e; obtain ⟨rfl, rfl⟩ := e; rw [hnew] at hx; cases hx
      · exact hx
    · unfold Bk.put
      rw [if_neg (by omega)]; exact hx
  have hbl : ∀ i (x : Chunk), i ≠ id → H[i]? = some x → x.blk (Bk.put β id v (w.heap.size, cap)) i = x.blk β i := fun i x hi hx => by cases x <;> simp [Chunk.blk, Bk.put_id hi]
  refine ⟨⟨fun i x hx => ?_, fun i o' hi => ?_, fun i x j hx hj => ?_, fun i x i' x' j hx hx' hj hj' => ?_, fun i u hi => ?_, ?_, fun i x hx => ?_, h.glob⟩,
    ⟨hm, by simp, hg.os, hg.tape, hg.output, by rw [hg.size]; omega, fun i hi hl => hg.old hi, ?_, fun k o' hk => .inl hk⟩⟩
  · rcases set_some hx with ⟨h1, h2⟩ | ⟨h1, h2, h3⟩
    · exact (h.ch i x h2).more (h.unders h2) (lt_of_some h2) hm (fun u => Bk.put_id h1) (fun j hj => hg.old (h.blk_lt h2 hj))
    · subst h1; subst h2; exact hc'
  · rw [hg.old (h.fz_lt hi)]; exact h.fz i o' hi
  · rcases set_some hx with ⟨h1, h2⟩ | ⟨h1, h2, h3⟩
    · rw [hbl i x h1 h2] at hj; exact h.apart i x j h2 hj
    · subst h1; subst h2; rw [hk'] at hj; cases hj
      cases hx : Φ w.heap.size with
      | none => rfl
      | some x => exact absurd (h.fz_lt hx) (by omega)
  · rcases set_some hx with ⟨h1, h2⟩ | ⟨h1, h2, h3⟩ <;> rcases set_some hx' with ⟨g1, g2⟩ | ⟨g1, g2, g3⟩
    · rw [hbl i x h1 h2] at hj; rw [hbl i' x' g1 g2] at hj'; exact h.inj i x i' x' j h2 g2 hj hj'
    · subst g1; subst g2; rw [hk'] at hj'; cases hj'; rw [hbl i x h1 h2] at hj; exact absurd (h.blk_lt h2 hj) (by omega)
    · subst h1; subst h2; rw [hk'] at hj; cases hj; rw [hbl i' x' g1 g2] at hj'; exact absurd (h.blk_lt g2 hj') (by omega)
    · rw [h1, g1]
  · simp only [List.length_set] at hi
    rw [Bk.put_id (by have := lt_of_some hc; omega)]; exact h.dom i u hi
  · simpa using h.base
  · rcases set_some hx with ⟨h1, h2⟩ | ⟨h1, h2, h3⟩
    · simpa using h.ids i x h2
    · subst h1; subst h2; simpa using hu
  · rintro j ⟨i, x, h1, h2⟩
    rcases set_some h1 with ⟨g1, g2⟩ | ⟨g1, g2, g3⟩
    · rw [hbl i x g1 g2] at h2; exact .inl ⟨i, x, g2, h2⟩
    · subst g1; subst g2; rw [hk'] at h2; cases h2; exact .inr (Nat.le_refl _)

end
end Go.AM
