/- The abstract machine: values, code, compilation, what they stand for. -/
import GoSem.Dispatch
import Derived.Laws.OwnMore
set_option linter.unusedVariables false
set_option linter.unusedSimpArgs false
set_option linter.unnecessarySimpa false
set_option maxRecDepth 100000
namespace Go.AM
abbrev Bs:=List UInt8
inductive D where
 | undef
 | bool (b:Bool)
 | int (k:IntKind) (n:Int)
 | str (s:Bs)
 | nilp | nilsl | nilf
 | esl
 | fptr (cs:List D)
 | fsl (cs:List D) (n:Nat)
 | ptr (id off:Nat)
 | rptr (id hw off:Nat)
 | osl (id hw off n:Nat)
 | func (f:Nat) (pre cap:List D)
 | yield (id:Nat)
 | agg (cs:List D)
 | tup (vs:List D)
 | sym (s:Bs) (l:List (Bs))
 | mp (id:Nat)
 deriving Inhabited
def D.cells:D->List D
 | .agg cs=>cs
 | d=>[d]
mutual
def D.under(n:Nat):D->Bool
 | .ptr id _=>Nat.blt id n
 | .rptr id _ _=>Nat.blt id n
 | .osl id _ _ _=>Nat.blt id n
 | .yield id=>Nat.blt id n
 | .mp id=>Nat.blt id n
 | .func _ pre cap=>D.aD n pre && D.aD n cap
 | .agg cs=>D.aD n cs
 | .tup vs=>D.aD n vs
 | .undef=>false
 | _=>true
def D.aD(n:Nat):List D->Bool
 | []=>true
 | d::ds=>d.under n && D.aD n ds
end
def D.fA:List D->Bool
 | []=>true
 | .undef::_=>false
 | _::ds=>D.fA ds
def D.one:D->Bool
 | .agg _ | .tup _ | .undef=>false
 | _=>true
def D.aF:List D->Bool
 | []=>true
 | d::ds=>d.one && D.aF ds
inductive Env where
 | nil
 | node (l:Env) (v:D) (r:Env)
 deriving Inhabited
def Env.get:Env->Nat->D
 | .nil,_=>.undef
 | .node _ v _,0=>v
 | .node l _ r,n+1=>if Nat.beq (n % 2) 0 then l.get (n / 2)else r.get (n / 2)
def Env.set:Nat->Env->Nat->D->Env
 | 0,e,_,_=>e
 | _+1,.nil,0,v=>.node .nil v .nil
 | f+1,.nil,n+1,v=>if Nat.beq (n % 2) 0 then .node (Env.set f .nil (n / 2) v) .undef .nil else .node .nil .undef (Env.set f .nil (n / 2) v)
 | _+1,.node l _ r,0,v=>.node l v r
 | f+1,.node l x r,n+1,v=>if Nat.beq (n % 2) 0 then .node (Env.set f l (n / 2) v) x r else .node l x (Env.set f r (n / 2) v)
def Env.put(e:Env)(t:Nat)(v:D):Env:=Env.set 16 e t v
def Env.dX(e:Env):List Nat->List D->Env
 | t::ts,v::vs=>(e.put t v).dX ts vs
 | _,_=>e
def Env.dL(e:Env)(i:Nat):List D->Env
 | []=>e
 | d::ds=>(e.put i d).dL (i+1) ds
inductive Arg where
 | t (i:Nat)
 | c (d:D)
 | g (n:Nat)
 deriving Inhabited
inductive PK where
 | i | b | s
 deriving Inhabited
structure Fil where
 arg:Arg
 box:Option (List (Nat×Nat))
 deriving Inhabited
inductive AOp where
 | mov (x:Arg)
 | resv (es:Nat)
 | pick (c a b:Arg)
 | allocB (zs:List D) (res:List (Nat×Nat))
 | boxF (n:Nat) (x:Arg)
 | boxB (n:Nat) (x:Arg) (res:List (Nat×Nat))
 | build (zs:List D) (parts:List (Nat×Nat×Arg))
 | bslF (zs:List D) (n:Nat) (parts:List (Nat×Nat×Arg))
 | bslR (es:Nat) (zs:List D) (n:Nat) (parts:List (Nat×Nat×Arg))
 | load (ag:Bool) (n:Nat) (p:Arg)
 | store (n:Nat) (p v:Arg)
 | nilchk (x:Arg)
 | bin (op:BinOp) (x y:Arg)
 | eqB (neg:Bool) (x y:Arg)
 | eqP (neg:Bool) (x y:Arg)
 | eqS (neg:Bool) (x y:Arg)
 | un (op:UnOp) (x:Arg)
 | convI (k:IntKind) (x:Arg)
 | convSB (x:Arg)
 | convIS (x:Arg)
 | convBS (x:Arg)
 | mkf (f:Nat) (pre caps:List Arg)
 | msl (es bytes:Nat) (z:List D) (len cap:Arg)
 | sliceS (x:Arg) (lo hi:Option Arg)
 | sliceL (es:Nat) (x:Arg) (lo hi mx:Option Arg)
 | faddr (off:Nat) (p:Arg)
 | iaddr (es:Nat) (s i:Arg)
 | iaddrA (n es:Nat) (p i:Arg)
 | field (ag:Bool) (off n:Nat) (x:Arg)
 | indexS (x i:Arg)
 | extract (x:Arg) (i:Nat)
 | len (st:Bool) (x:Arg)
 | append (es bytes:Nat) (x y:Arg)
 | appendS (bytes:Nat) (x y:Arg)
 | maxs (x:Arg) (xs:List Arg)
 | mins (x:Arg) (xs:List Arg)
 | eqA (neg:Bool) (ks:List PK) (x y:Arg)
 | hole (n:Nat)
 | fill (n:Nat) (v:Fil)
 | bad
 | dfrop (f:Nat) (x:Arg)
 | call (f:Arg) (args:List Arg)
 | capn (x:Arg)
 | appendZ (es bytes:Nat) (zs:List D) (x n:Arg)
 | mkmap
 | mget (m k:Arg)
 | mset (m k v:Arg)
 | copy (es:Nat) (x y:Arg)
 deriving Inhabited
structure AOper where
 dst:Option Nat
 guard:Option (Nat×Bool)
 op:AOp
 deriving Inhabited
inductive ACode where
 | skip
 | reg (ops:List AOper)
 | dreg (ops:List (AOper×Nat×Nat))
 | seq (a b:ACode)
 | cond (c:Arg) (thn els:ACode)
 | block (id:Nat) (body:ACode)
 | loop (body:ACode)
 | rangeF (f:Arg) (params:List Nat) (assign body:ACode)
 | exit (id:Nat)
 | ret
 deriving Inhabited
inductive ARes where
 | tmp (t:Nat)
 | cell (t:Nat) (ag:Bool) (n:Nat)
 deriving Inhabited
structure AFunc where
 nparams:Nat
 body:ACode
 results:List ARes
 keep:Option Nat
 deriving Inhabited
def Arg.reads(l:List Nat):Arg->List Nat
 | .t i=>i::l
 | _=>l
def E9(l:List Nat):List Arg->List Nat
 | []=>l
 | x::r=>x.reads (E9 l r)
def Hm(l:List Nat):List (Nat×Nat×Arg)->List Nat
 | []=>l
 | (_,_,x)::r=>x.reads (Hm l r)
def xZ(l:List Nat):Option Arg->List Nat
 | none=>l
 | some x=>x.reads l
def AOp.reads(l:List Nat):AOp->List Nat
 | .mov x | .boxF _ x | .boxB _ x _ | .load _ _ x | .nilchk x | .un _ x | .convI _ x | .convSB x | .convIS x | .convBS x | .faddr _ x | .field _ _ _ x | .extract x _ | .len _ x | .dfrop _ x | .capn x=>x.reads l
 | .fill _ v=>v.arg.reads l
 | .pick c a b=>c.reads (a.reads (b.reads l))
 | .build _ ps | .bslF _ _ ps | .bslR _ _ _ ps=>Hm l ps
 | .store _ x y | .bin _ x y | .eqB _ x y | .eqP _ x y | .eqS _ x y | .eqA _ _ x y | .msl _ _ _ x y | .iaddr _ x y | .iaddrA _ _ x y | .indexS x y | .append _ _ x y | .mget x y | .appendS _ x y | .appendZ _ _ _ x y=>x.reads (y.reads l)
 | .mset x y z=>x.reads (y.reads (z.reads l))
 | .copy _ x y=>x.reads (y.reads l)
 | .mkf _ xs ys=>E9 (E9 l ys) xs
 | .sliceS x lo hi=>x.reads (xZ (xZ l hi) lo)
 | .sliceL _ x lo hi mx=>x.reads (xZ (xZ (xZ l mx) hi) lo)
 | .maxs x xs | .mins x xs | .call x xs=>x.reads (E9 l xs)
 | .resv _ | .allocB _ _ | .hole _ | .bad | .mkmap=>l
def AOper.reads(o:AOper):List Nat:=
 o.op.reads (match o.guard with | some (t,_)=>[t] | none=>[])
def AOper.fits(n:Nat)(o:AOper):Bool:=
 match o.dst with
 | some t=>Nat.blt t n
 | none=>true
def L5(n:Nat):List AOper->Bool
 | []=>true
 | o::r=>o.fits n && L5 n r
def L6(n:Nat):List (AOper×Nat×Nat)->Bool
 | []=>true
 | (o,_,_)::r=>o.fits n && L6 n r
def zH(n:Nat):List Nat->Bool
 | []=>true
 | t::r=>Nat.blt t n && zH n r
def ACode.fits(n:Nat):ACode->Bool
 | .reg ops=>L5 n ops
 | .dreg ops=>L6 n ops
 | .seq a b=>a.fits n && b.fits n
 | .cond _ a b=>a.fits n && b.fits n
 | .block _ b=>b.fits n
 | .loop b=>b.fits n
 | .rangeF _ ps a b=>zH n ps && a.fits n && b.fits n
 | _=>true
inductive LState where
 | ready | busy | done | exhausted
 deriving Inhabited,DecidableEq
inductive AJump where
 | exit (id:Nat)
 | ret
 deriving Inhabited
structure ALoop where
 env:Env
 params:List Nat
 assign:ACode
 body:ACode
 st:LState
 pend:Option AJump
 dfr:Nat
 deriving Inhabited
inductive Chunk where
 | box (cs:List D)
 | row (es:Nat) (cs:List D) (nil:Bool)
 | loop (l:ALoop)
 | dfr (t:Bool)
 | map (es:List (Int×Bool))
 deriving Inhabited
abbrev aA:=List Chunk
abbrev rT:=Option (D×aA)
abbrev cT:=D->List D->aA->rT
abbrev gT:=Nat->Option (List D)
def splice(cs:List D)(off:Nat)(vs:List D):List D:=cs.take off++vs++cs.drop (off+vs.length)
def zQ(a b:Bs):Bool:=match a,b with
 | [],[]=>true
 | x::a,y::b=>Nat.beq x.toNat y.toNat && zQ a b
 | _,_=>false
def zC(a:Bs):List (Bs)->Bool
 | []=>false
 | b::r=>zQ a b || zC a r
def iV(op:BinOp)(k:IntKind)(a b:Int):Option D:=
 match op with
 | .add=>some (.int k (k.wrap (a+b)))
 | .sub=>some (.int k (k.wrap (a-b)))
 | .mul=>some (.int k (k.wrap (a*b)))
 | .quo=>if b=0 then none else some (.int k (k.wrap (a.tdiv b)))
 | .rem=>if b=0 then none else some (.int k (a.tmod b))
 | .and=>some (.int k (k.wrap (BitVec.ofInt k.bits a &&& BitVec.ofInt k.bits b).toNat))
 | .or=>some (.int k (k.wrap (BitVec.ofInt k.bits a ||| BitVec.ofInt k.bits b).toNat))
 | .xor=>some (.int k (k.wrap (BitVec.ofInt k.bits a ^^^ BitVec.ofInt k.bits b).toNat))
 | .andNot=>some (.int k (k.wrap (BitVec.ofInt k.bits a &&& ~~~BitVec.ofInt k.bits b).toNat))
 | .eql=>some (.bool (a == b))
 | .neq=>some (.bool (a != b))
 | .lss=>some (.bool (decide (a<b)))
 | .leq=>some (.bool (decide (a<=b)))
 | .gtr=>some (.bool (decide (a>b)))
 | .geq=>some (.bool (decide (a>=b)))
 | _=>none
def pY(op:BinOp)(a b:Bs):Option D:=
 match op with
 | .add=>if a.length+b.length<=9223372036854775807 then some (.str (a++b))else none
 | .eql=>some (.bool (a == b))
 | .neq=>some (.bool (!(a == b)))
 | .lss=>some (.bool (Op.bytesLess a b))
 | .leq=>some (.bool (Op.bytesLess a b || a == b))
 | .gtr=>some (.bool (!(Op.bytesLess a b || a == b)))
 | .geq=>some (.bool (!Op.bytesLess a b))
 | _=>none
def xO(op:BinOp)(a:Bs)(l:List (Bs)):Option D:=
 match op with
 | .eql=>if zC a l then some (.bool false)else none
 | .neq=>if zC a l then some (.bool true)else none
 | _=>none
def cQ(op:BinOp):D->D->Option D
 | .int k a,.int k' b=>
  match op with
  | .shl=>if b<0 then none else some (.int k (k.wrap (a*2 ^ (min b.toNat k.bits))))
  | .shr=>if b<0 then none else some (.int k (a.fdiv (2 ^ (min b.toNat k.bits))))
  | _=>if k=k' then iV op k a b else none
 | .str a,.str b=>pY op a b
 | .str a,.sym _ l=>xO op a l
 | .sym _ l,.str a=>xO op a l
 | _,_=>none
def rB(op:UnOp):D->Option D
 | .int k n=>
  match op with
  | .neg=>some (.int k (k.wrap (0-n)))
  | .xor=>some (.int k (k.wrap (BitVec.ofInt k.bits (if k.signed then -1 else k.max) ^^^ BitVec.ofInt k.bits n).toNat))
  | _=>none
 | .bool b=>match op with | .not=>some (.bool !b) | _=>none
 | _=>none
def pL(n:Int):List (Int×Bool)->Bool
 | []=>false
 | (k,v)::r=>if n=k then v else pL n r
def lR(n:Int)(x:Bool):List (Int×Bool)->List (Int×Bool)
 | []=>[(n,x)]
 | (k,v)::r=>if n=k then(n,x)::r else(k,v)::lR n x r
def pA:D->Option Bool
 | .nilp=>some true
 | .fptr _=>some false
 | .ptr _ _=>some false
 | .rptr _ _ _=>some false
 | _=>none
def uK:D->Option Bool
 | .nilsl=>some true
 | .fsl _ _=>some false
 | .osl _ _ _ (_+1)=>some false
 | _=>none
def lW(x y:D):Option Bool:=
 match pA x,pA y with
 | some true,some b=>some b
 | some false,some true=>some false
 | _,_=>none
def pU(x y:D):Option Bool:=
 match uK x,uK y with
 | some true,some b=>some b
 | some false,some true=>some false
 | _,_=>none
def aJ(ag:Bool)(n:Nat)(cs:List D):Option D:=
 if ag then(if n<=cs.length then some (.agg (cs.take n))else none)else cs.head?
def hZ(H:aA):D->Option (List D)
 | .fptr cs=>some cs
 | .ptr id off=>match H[id]? with
  | some (.box cs)=>some (cs.drop off)
  | _=>none
 | .rptr id hw off=>match H[id]? with
  | some (.row _ cs false)=>if cs.length=hw then some (cs.drop off)else none
  | _=>none
 | _=>none
def storable(b:Nat)(H:aA)(id:Nat)(vs:List D):Bool:=D.aD (if id<b then id+1 else H.length) vs && D.aF vs
def jI(b:Nat)(H:aA)(n:Nat)(p v:D):Option aA:=
 if v.cells.length=n then
  match p with
  | .ptr id off=>match H[id]? with
   | some (.box cs)=>if off+n<=cs.length then(if storable b H id v.cells then some (H.set id (.box (splice cs off v.cells)))else none)else none
   | _=>none
  | .rptr id hw off=>match H[id]? with
   | some (.row es cs false)=>if cs.length=hw then(if off+n<=cs.length then(if storable b H id v.cells then some (H.set id (.row es (splice cs off v.cells) false))else none)else none)else none
   | _=>none
  | _=>none
 else none
def fT(cells:List D):List (Nat×Nat×D)->Option (List D)
 | []=>some cells
 | (off,size,v)::rest=>
  if v.cells.length=size∧off+size<=cells.length∧D.aF v.cells=true then fT (splice cells off v.cells) rest else none
def bU(H:aA)(cs:List D):List (Nat×Nat)->Option (aA×List D)
 | []=>some (H,cs)
 | (off,es)::rest=>
  match cs[off]? with
  | some .nilsl=>if 0<es then bU (H++[.row es [] true]) (cs.set off (.osl H.length 0 0 0)) rest else none
  | _=>bU H cs rest
def elems(H:aA)(es:Nat):D->Option (List D×Nat)
 | .nilsl=>some ([],0)
 | .esl=>some ([],0)
 | .fsl cs n=>if n*es=cs.length then some (cs,n)else none
 | .osl id hw off n=>match H[id]? with
  | some (.row es' cs nil)=>if es'=es∧cs.length=hw∧off+n*es<=hw∧(nil=true->n=0)then some ((cs.drop off).take (n*es),n)else none
  | _=>none
 | _=>none
def D0(es k:Nat)(d:D):D:=match d with
 | .fsl cs _=>.fsl (cs.take (k*es)) k
 | .osl id hw off _=>.osl id hw off k
 | _=>.undef
def u7(d:D):Option Nat:=match d with
 | .nilsl=>some 0
 | .esl=>some 0
 | .fsl _ n=>some n
 | .osl _ _ _ n=>some n
 | _=>none
def Az(b:Nat)(H:aA)(es:Nat)(x y:D):rT:=match x with
 | .osl id hw off n=>match u7 y with
  | some m=>if min n m=0 then some (.int .i64 0,H)else
   match elems H es (D0 es (min n m) y)with
   | some (ys,_)=>match jI b H (min n m*es) (.rptr id hw off) (.agg ys)with
    | some H'=>some (.int .i64 (min n m:Nat),H')
    | none=>none
   | none=>none
  | none=>none
 | _=>none
def aX:Nat:=140737488355328
def cR(b:Nat)(H:aA)(es bytes:Nat)(x:D)(ys:List D)(m:Nat):rT:=
 match x with
 | .nilsl=>
  if m=0 then some (.nilsl,H)else
  if m*bytes<=aX∧storable b H H.length ys∧m<=aX then some (.osl H.length (m*es) 0 m,H++[.row es ys false])else none
 | .esl=>
  if m=0 then some (.esl,H)else
  if m*bytes<=aX∧storable b H H.length ys∧m<=aX then some (.osl H.length (m*es) 0 m,H++[.row es ys false])else none
 | .osl id hw 0 n=>match H[id]? with
  | some (.row es' cs nil)=>
   if es'=es∧cs.length=hw∧n*es<=hw∧(nil=true->n=0)∧(n+m)*bytes<=aX∧n+m<=aX∧storable b H id ys then
    (if m=0 then some (.osl id hw 0 n,H)else
    if n*es=hw then some (.osl id (hw+m*es) 0 (n+m),H.set id (.row es (cs++ys) false))else
    if(n+m)*es<=hw then some (.osl id hw 0 (n+m),H.set id (.row es (splice cs (n*es) ys) false))else
    some (.osl id ((n+m)*es) 0 (n+m),H.set id (.row es (cs.take (n*es)++ys) false)))
   else none
  | _=>none
 | _=>none
def dY:Option D->Nat->Nat->Option Nat
 | none,_,dflt=>some dflt
 | some (.int _ i),top,_=>if 0<=i∧i<=top then some i.toNat else none
 | _,_,_=>none
def fD(s:Bs)(lo hi:Option D):Option D:=
 match dY hi s.length s.length with
 | some h=>match dY lo h 0 with
  | some l=>some (.str ((s.take h).drop l))
  | none=>none
 | none=>none
def iD(es:Nat)(x:D)(lo hi mx:Option D):Option D:=
 match x with
 | .nilsl=>match dY hi 0 0,dY lo 0 0,mx with
  | some _,some _,none=>some .nilsl
  | _,_,_=>none
 | .esl=>match dY hi 0 0,dY lo 0 0,mx with
  | some _,some _,none=>some .esl
  | _,_,_=>none
 | .fsl cs n=>
  if n*es=cs.length then
   match mx with
   | none=>match dY hi n n with
    | some h=>match dY lo h 0 with
     | some l=>some (.fsl ((cs.take (h*es)).drop (l*es)) (h-l))
     | none=>none
    | none=>none
   | some (.int _ 0)=>match hi,dY lo 0 0 with
    | some (.int _ 0),some _=>some .esl
    | _,_=>none
   | _=>none
  else none
 | .osl id hw off n=>
  match mx with
  | none=>match dY hi n n with
   | some h=>match dY lo h 0 with
    | some l=>some (.osl id hw (off+l*es) (h-l))
    | none=>none
   | none=>none
  | some (.int _ 0)=>match hi,dY lo 0 0 with
   | some (.int _ 0),some _=>some .esl
   | _,_=>none
  | _=>none
 | _=>none
def aZ(s:Bs):List D:=s.map fun b=>.int .u8 b.toNat
def jD:List D->Option (Bs)
 | []=>some []
 | .int .u8 n::ds=>(jD ds).map (UInt8.ofNat n.toNat:: ·)
 | _=>none
def maxD:D->List D->Option D
 | d,[]=>some d
 | .int k x,.int k' y::r=>if k=k' then maxD (.int k (if y>x then y else x)) r else none
 | _,_=>none
def minD:D->List D->Option D
 | d,[]=>some d
 | .int k x,.int k' y::r=>if k=k' then minD (.int k (if y<x then y else x)) r else none
 | _,_=>none
def Ak:PK->D->D->Option Bool
 | .i,.int k a,.int k' b=>if k=k' then some (a == b)else none
 | .b,.bool a,.bool b=>some (a == b)
 | .s,.str a,.str b=>some (a == b)
 | _,_,_=>none
def lB:List PK->List D->List D->Option Bool
 | [],[],[]=>some true
 | k::ks,x::xs,y::ys=>match Ak k x y with
  | some true=>lB ks xs ys
  | some false=>some false
  | none=>none
 | _,_,_=>none
end Go.AM
namespace Go.AM
mutual
def D.beq:D->D->Bool
 | .undef,.undef=>true
 | .bool a,.bool b=>a == b
 | .int k a,.int k' b=>decide (k=k') && decide (a=b)
 | .str a,.str b=>a == b
 | .nilp,.nilp=>true
 | .nilsl,.nilsl=>true
 | .nilf,.nilf=>true
 | .esl,.esl=>true
 | .fptr a,.fptr b=>D.kQ a b
 | .fsl a n,.fsl b m=>Nat.beq n m && D.kQ a b
 | .ptr a o,.ptr b p=>Nat.beq a b && Nat.beq o p
 | .rptr a h o,.rptr b g p=>Nat.beq a b && Nat.beq h g && Nat.beq o p
 | .osl a h o n,.osl b g p m=>Nat.beq a b && Nat.beq h g && Nat.beq o p && Nat.beq n m
 | .func f a c,.func g b d=>Nat.beq f g && D.kQ a b && D.kQ c d
 | .yield a,.yield b=>Nat.beq a b
 | .mp a,.mp b=>Nat.beq a b
 | .agg a,.agg b=>D.kQ a b
 | .tup a,.tup b=>D.kQ a b
 | .sym a k,.sym b l=>a == b && k == l
 | _,_=>false
def D.kQ:List D->List D->Bool
 | [],[]=>true
 | a::as,b::bs=>a.beq b && D.kQ as bs
 | _,_=>false
end
def aI(G:gT)(env:Env):Arg->D
 | .t i=>env.get i
 | .c d=>d
 | .g n=>match G n with
  | some cs=>.fptr cs
  | none=>.undef
def gK(G:gT)(env:Env):List (Nat×Nat×Arg)->List (Nat×Nat×D)
 | []=>[]
 | (o,s,x)::r=>(o,s,aI G env x)::gK G env r
def fM(G:gT)(env:Env):List Arg->List D
 | []=>[]
 | x::r=>aI G env x::fM G env r
def cZ(G:gT)(env:Env):Option Arg->Option D
 | none=>none
 | some x=>some (aI G env x)
def eB(z:List D):Nat->List D
 | 0=>[]
 | n+1=>z++eB z n
section
variable(G:gT)(b:Nat)(call:cT)
def step(env:Env)(H:aA):AOp->rT
 | .mov x=>match aI G env x with
  | .undef=>none
  | d=>some (d,H)
 | .resv es=>if 0<es then some (.osl H.length 0 0 0,H++[.row es [] true])else none
 | .pick c a b=>match aI G env c with
  | .bool x=>match(if x then aI G env a else aI G env b)with
   | .undef=>none
   | d=>some (d,H)
  | _=>none
 | .allocB zs res=>match bU H zs res with
  | some (H',cs)=>some (.ptr H'.length 0,H'++[.box cs])
  | none=>none
 | .boxF n x=>match(aI G env x).cells with
  | cs=>if cs.length=n∧D.aD 0 cs∧D.aF cs then some (.fptr cs,H)else none
 | .boxB n x res=>match(aI G env x).cells with
  | cs=>if cs.length=n then
   match bU H cs res with
   | some (H',cs)=>if storable b H' H'.length cs then some (.ptr H'.length 0,H'++[.box cs])else none
   | none=>none
   else none
 | .build zs ps=>match fT zs (gK G env ps)with
  | some cs=>if D.aF cs then some (.agg cs,H)else none
  | none=>none
 | .bslF zs n ps=>match fT zs (gK G env ps)with
  | some cs=>if D.aD 0 cs∧D.aF cs then some (.fsl cs n,H)else none
  | none=>none
 | .bslR es zs n ps=>match fT zs (gK G env ps)with
  | some cs=>if storable b H H.length cs then some (.osl H.length (n*es) 0 n,H++[.row es cs false])else none
  | none=>none
 | .load ag n p=>match hZ H (aI G env p)with
  | some cs=>match aJ ag n cs with
   | some .undef=>none
   | some d=>some (d,H)
   | none=>none
  | none=>none
 | .store n p v=>match jI b H n (aI G env p) (aI G env v)with
  | some H'=>some (.tup [],H')
  | none=>none
 | .nilchk x=>match aI G env x with
  | .ptr i o=>some (.ptr i o,H)
  | .rptr i h o=>some (.rptr i h o,H)
  | .fptr cs=>some (.fptr cs,H)
  | _=>none
 | .bin op x y=>match cQ op (aI G env x) (aI G env y)with
  | some d=>some (d,H)
  | none=>none
 | .eqB neg x y=>match aI G env x,aI G env y with
  | .bool a,.bool b=>some (.bool (neg != (a == b)),H)
  | _,_=>none
 | .eqP neg x y=>match lW (aI G env x) (aI G env y)with
  | some b=>some (.bool (neg != b),H)
  | none=>none
 | .eqS neg x y=>match pU (aI G env x) (aI G env y)with
  | some b=>some (.bool (neg != b),H)
  | none=>none
 | .un op x=>match rB op (aI G env x)with
  | some d=>some (d,H)
  | none=>none
 | .convI k x=>match aI G env x with
  | .int _ n=>some (.int k (k.wrap n),H)
  | _=>none
 | .convSB x=>match aI G env x with
  | .str s=>if s.length<=aX then some (.fsl (aZ s) s.length,H)else none
  | _=>none
 | .convIS x=>match aI G env x with
  | .int _ n=>if 0<=n∧n<128 then some (.str [UInt8.ofNat n.toNat],H)else none
  | _=>none
 | .convBS x=>match elems H 1 (aI G env x)with
  | some (cs,_)=>match jD cs with
   | some s=>some (.str s,H)
   | none=>none
  | none=>none
 | .mkf f pre caps=>if D.fA (fM G env pre) && D.fA (fM G env caps)then some (.func f (fM G env pre) (fM G env caps),H)else none
 | .msl es bytes z len cap=>match aI G env len,aI G env cap with
  | .int .i64 l,.int .i64 c=>if 0<=l∧l<=c∧c.toNat*bytes<=aX∧c.toNat<=aX then
    some (.osl H.length (l.toNat*es) 0 l.toNat,H++[.row es (eB z l.toNat) false])else none
  | _,_=>none
 | .sliceS x lo hi=>match aI G env x with
  | .str s=>match fD s (cZ G env lo) (cZ G env hi)with
   | some d=>some (d,H)
   | none=>none
  | _=>none
 | .sliceL es x lo hi mx=>match iD es (aI G env x) (cZ G env lo) (cZ G env hi) (cZ G env mx)with
  | some d=>some (d,H)
  | none=>none
 | .faddr off p=>match aI G env p with
  | .ptr i o=>some (.ptr i (o+off),H)
  | .rptr i h o=>some (.rptr i h (o+off),H)
  | .fptr cs=>some (.fptr (cs.drop off),H)
  | _=>none
 | .iaddr es s i=>match aI G env s,aI G env i with
  | .fsl cs n,.int _ j=>if 0<=j∧j<n then some (.fptr (cs.drop (j.toNat*es)),H)else none
  | .osl id hw off n,.int _ j=>if 0<=j∧j<n then some (.rptr id hw (off+j.toNat*es),H)else none
  | _,_=>none
 | .iaddrA n es p i=>match aI G env p,aI G env i with
  | .fptr cs,.int _ j=>if 0<=j∧j<n then some (.fptr (cs.drop (j.toNat*es)),H)else none
  | .ptr id off,.int _ j=>if 0<=j∧j<n then some (.ptr id (off+j.toNat*es),H)else none
  | _,_=>none
 | .field ag off n x=>match aI G env x with
  | .agg cs=>match aJ ag n (cs.drop off)with
   | some .undef=>none
   | some d=>some (d,H)
   | none=>none
  | _=>none
 | .indexS x i=>match aI G env x,aI G env i with
  | .str s,.int _ j=>if 0<=j then
    match s[j.toNat]? with
    | some b=>some (.int .u8 b.toNat,H)
    | none=>none
   else none
  | _,_=>none
 | .extract x i=>match aI G env x with
  | .tup vs=>match vs[i]? with
   | some .undef=>none
   | some d=>some (d,H)
   | none=>none
  | _=>none
 | .len st x=>match st,aI G env x with
  | true,.str s=>some (.int .i64 s.length,H)
  | false,.nilsl=>some (.int .i64 0,H)
  | false,.esl=>some (.int .i64 0,H)
  | false,.fsl _ n=>some (.int .i64 n,H)
  | false,.osl _ _ _ n=>some (.int .i64 n,H)
  | _,_=>none
 | .append es bytes x y=>match elems H es (aI G env y)with
  | some (ys,m)=>cR b H es bytes (aI G env x) ys m
  | none=>none
 | .appendS bytes x y=>match aI G env y with
  | .str s=>cR b H 1 bytes (aI G env x) (aZ s) s.length
  | _=>none
 | .maxs x xs=>match maxD (aI G env x) (fM G env xs)with
  | some d=>some (d,H)
  | none=>none
 | .mins x xs=>match minD (aI G env x) (fM G env xs)with
  | some d=>some (d,H)
  | none=>none
 | .eqA neg ks x y=>match aI G env x,aI G env y with
  | .agg a,.agg b=>match lB ks a b with
   | some r=>some (.bool (neg != r),H)
   | none=>none
  | _,_=>none
 | .hole _=>some (.undef,H)
 | .fill n v=>match v.box with
  | none=>match(aI G env v.arg).cells with
   | cs=>if cs.length=n∧D.aD 0 cs∧D.aF cs then some (.fptr cs,H)else none
  | some res=>match(aI G env v.arg).cells with
   | cs=>if cs.length=n then
    match bU H cs res with
    | some (H',cs)=>if storable b H' H'.length cs then some (.ptr H'.length 0,H'++[.box cs])else none
    | none=>none
    else none
 | .bad=>none
 | .dfrop f x=>match aI G env x with
  | .func g _ _=>if Nat.beq g f then some (.tup [],H)else none
  | _=>none
 | .call f args=>call (aI G env f) (fM G env args) H
 | .capn x=>match aI G env x with
  | .nilsl=>some (.int .i64 0,H)
  | _=>none
 | .appendZ es bytes zs x n=>match aI G env n with
  | .int _ q=>if 0<=q∧q.toNat*bytes<=aX∧q.toNat<=aX then
   match aI G env x with
   | .nilsl=>if q.toNat=0 then some (.nilsl,H)else some (.osl H.length (q.toNat*es) 0 q.toNat,H++[.row es (eB zs q.toNat) false])
   | .esl=>if q.toNat=0 then some (.esl,H)else some (.osl H.length (q.toNat*es) 0 q.toNat,H++[.row es (eB zs q.toNat) false])
   | _=>none
   else none
  | _=>none
 | .mkmap=>some (.mp H.length,H++[.map []])
 | .mget m k=>match aI G env m,aI G env k with
  | .mp id,.int .i64 n=>match H[id]? with
   | some (.map es)=>some (.bool (pL n es),H)
   | _=>none
  | _,_=>none
 | .copy es x y=>Az b H es (aI G env x) (aI G env y)
 | .mset m k v=>match aI G env m,aI G env k,aI G env v with
  | .mp id,.int .i64 n,.bool x=>match H[id]? with
   | some (.map es)=>some (.tup [],H.set id (.map (lR n x es)))
   | _=>none
  | _,_,_=>none
def gW(env:Env):Option (Nat×Bool)->Option Bool
 | none=>some true
 | some (t,b)=>match env.get t with
  | .bool x=>some (x == b)
  | .tup []=>some false
  | _=>none
def bS(env:Env):Option Nat->D->Env
 | some t,d=>env.put t d
 | none,_=>env
def bD(env:Env)(H:aA)(o:AOper):rT:=
 match gW env o.guard with
 | some true=>step G b call env H o.op
 | some false=>some (.tup [],H)
 | none=>none
def eU:List AOper->Env->aA->Option (Env×aA)
 | [],env,H=>some (env,H)
 | o::r,env,H=>match bD G b call env H o with
  | some (d,H')=>eU r (bS env o.dst d) H'
  | none=>none
def AOp.isE:AOp->Bool
 | .fill _ v=>v.box.isSome
 | .resv _ | .allocB _ _ | .boxB _ _ _ | .bslR _ _ _ _ | .store _ _ _ | .msl _ _ _ _ _ | .append _ _ _ _ | .appendS _ _ _ | .appendZ _ _ _ _ _ | .mkmap | .mset _ _ _ | .copy _ _ _ | .call _ _=>true
 | _=>false
def AOp.isL:AOp->Bool
 | .load _ _ _ | .convBS _ | .mget _ _=>true
 | _=>false
def sameAt(env:Env)(o:AOper)(d:D)(H:aA):Bool:=
 match bD G b call env H o with
 | some (d',_)=>d'.beq d
 | none=>false
def dR(env:Env)(o:AOper)(d:D)(lo:Nat):List (Nat×aA)->Bool
 | []=>true
 | (j,H)::r=>(Nat.blt j lo || sameAt G b call env o d H) && dR env o d lo r
def fQ(env:Env)(o:AOper)(d:D)(hi:Nat):List (Nat×aA)->Bool
 | []=>true
 | (j,H)::r=>(Nat.ble hi j || sameAt G b call env o d H) && fQ env o d hi r
def cV:Nat->List (AOper×Nat×Nat)->List (Nat×aA)->Env->aA->Option (Env×aA×List (Nat×aA))
 | _,[],_,env,H=>some (env,H,[])
 | i,(o,lo,hi)::r,past,env,H=>match bD G b call env H o with
  | some (d,H')=>
   if o.op.isE then
    match cV (i+1) r ((i,H)::past) (bS env o.dst d) H' with
    | some (e,h,fut)=>some (e,h,(i,H')::fut)
    | none=>none
   else
    match cV (i+1) r past (bS env o.dst d) H' with
    | some (e,h,fut)=>if o.op.isL then(if dR G b call env o d lo past && fQ G b call env o d hi fut then some (e,h,fut)else none)else some (e,h,fut)
    | none=>none
  | none=>none
inductive Ex where
 | normal
 | exit (id:Nat)
 | ret
 deriving Inhabited
structure St where
 env:Env
 H:aA
 dfs:List Nat
 deriving Inhabited
def loopN(f:St->Option (Ex×St)):Nat->St->Option (Ex×St)
 | 0,_=>none
 | n+1,s=>match f s with
  | some (.normal,s')=>loopN f n s'
  | r=>r
def iO:Option AJump->Ex
 | none=>.normal
 | some .ret=>.ret
 | some (.exit id)=>.exit id
def rR(rnd:Option Nat)(s:St)(ps:List Nat)(asg body:ACode):Option (aA×List Nat):=
 match rnd with
 | none=>some (s.H++[.dfr false]++[.loop ⟨s.env,ps,asg,body,.ready,none,s.H.length⟩],s.H.length::s.dfs)
 | some l=>match s.H[l]? with
  | some (.loop L)=>some (s.H++[.loop ⟨s.env,ps,asg,body,.ready,none,L.dfr⟩],s.dfs)
  | _=>none
def exec(lf:Nat)(rnd:Option Nat):ACode->St->Option (Ex×St)
 | .skip,s=>some (.normal,s)
 | .reg ops,s=>match eU G b call ops s.env s.H with
  | some (e,h)=>some (.normal,⟨e,h,s.dfs⟩)
  | none=>none
 | .dreg ops,s=>match cV G b call 0 ops [] s.env s.H with
  | some (e,h,_)=>some (.normal,⟨e,h,s.dfs⟩)
  | none=>none
 | .seq a b,s=>match exec lf rnd a s with
  | some (.normal,s')=>exec lf rnd b s'
  | r=>r
 | .cond c a b,s=>match aI G s.env c with
  | .bool x=>if x then exec lf rnd a s else exec lf rnd b s
  | _=>none
 | .block id b,s=>match exec lf rnd b s with
  | some (.exit id',s')=>if id'=id then some (.normal,s')else some (.exit id',s')
  | r=>r
 | .loop b,s=>loopN (exec lf rnd b) lf s
 | .rangeF f ps asg body,s=>match rR rnd s ps asg body with
  | some (H,dfs)=>match aI G s.env f with
   | .func g pre caps=>match call (.func g pre caps) [.yield (H.length-1)] H with
    | some (_,H')=>match H'[H.length-1]? with
     | some (.loop L)=>if L.st=.busy then none else
      some (iO L.pend,⟨s.env,H'.set (H.length-1) (.loop { L with st:=.exhausted }),dfs⟩)
     | _=>none
    | none=>none
   | _=>none
  | none=>none
 | .exit id,s=>some (.exit id,s)
 | .ret,s=>some (.ret,s)
end
def bN(g:D->Option D):List D->Option (List D)
 | []=>some []
 | d::ds=>match g d with
  | some d'=>match bN g ds with
   | some ds'=>some (d'::ds')
   | none=>none
  | none=>none
def fz(H:aA)(n:Nat):Nat->D->Option D
 | 0,_=>none
 | f+1,d=>match d with
  | .undef=>none
  | .ptr id off=>if id<n then some (.ptr id off)else
   match H[id]? with
   | some (.box cs)=>match bN (fz H n f) (cs.drop off)with
    | some cs'=>if D.aD 0 cs' && D.aF cs' then some (.fptr cs')else none
    | none=>none
   | _=>none
  | .osl id hw off m=>if id<n then some (.osl id hw off m)else
   match H[id]? with
   | some (.row es cs nil)=>
    if nil then(if m=0 then some .nilsl else none)else
    if cs.length=hw∧off+m*es<=hw then
     match bN (fz H n f) ((cs.drop off).take (m*es))with
     | some cs'=>if D.aD 0 cs' && D.aF cs' then some (.fsl cs' m)else none
     | none=>none
    else none
   | _=>none
  | .agg cs=>match bN (fz H n f) cs with
   | some cs'=>some (.agg cs')
   | none=>none
  | .tup cs=>match bN (fz H n f) cs with
   | some cs'=>some (.tup cs')
   | none=>none
  | .func g ps cs=>match bN (fz H n f) ps,bN (fz H n f) cs with
   | some ps',some cs'=>some (.func g ps' cs')
   | _,_=>none
  | .rptr id hw off=>if id<n then some (.rptr id hw off)else none
  | .yield id=>if id<n then some (.yield id)else none
  | .mp id=>if id<n then some (.mp id)else none
  | d=>some d
def kI(env:Env)(H:aA):List ARes->Option (List D)
 | []=>some []
 | .tmp t::r=>match kI env H r with
  | some ds=>some (env.get t::ds)
  | none=>none
 | .cell t ag n::r=>match hZ H (env.get t)with
  | some cs=>match aJ ag n cs with
   | some d=>match kI env H r with
    | some ds=>some (d::ds)
    | none=>none
   | none=>none
  | none=>none
def pack:List D->D
 | [d]=>d
 | ds=>.tup ds
def lH:aA->List Nat->Option aA
 | H,[]=>some H
 | H,id::r=>match H[id]? with
  | some (.dfr false)=>lH (H.set id (.dfr true)) r
  | _=>none
def nT(H:aA)(n:Nat)(ds:List D):rT:=
 match bN (fz H n 64) ds with
 | some ds'=>if D.aD n ds' then some (pack ds',H.take n)else none
 | none=>none
def finish(fn:AFunc)(n:Nat)(s:St):rT:=
 match lH s.H s.dfs with
 | none=>none
 | some H=>match kI s.env H fn.results with
  | none=>none
  | some ds=>match fn.keep with
   | none=>nT H n ds
   | some j=>if Nat.ble 1000 j then(if D.aD H.length ds then some (pack ds,H)else none)else match ds[j]? with
    | some (.osl id hw 0 m)=>
     if id<n then nT H n ds else
     match H[id]? with
     | some (.row es cs nil)=>
      if D.aD n cs then
       match bN (fz (H.set id (.dfr true)) n 64) (ds.set j .nilsl)with
       | some ds'=>if D.aD n ds' && Nat.blt j ds.length then some (pack (ds'.set j (.osl n hw 0 m)),H.take n++[.row es cs nil])else none
       | none=>none
      else none
     | _=>none
    | _=>nT H n ds
inductive FTab where
 | nil
 | node (l:FTab) (v:Option AFunc) (r:FTab)
 deriving Inhabited
def FTab.get:FTab->Nat->Option AFunc
 | .nil,_=>none
 | .node _ v _,0=>v
 | .node l _ r,n+1=>if Nat.beq (n % 2) 0 then l.get (n / 2)else r.get (n / 2)
structure Ctx where
 G:Nat->Option (List D)
 fn:Nat->Option AFunc
 prims:Nat->List D->Option D
def eA(ex:Ex)(L:ALoop):D×ALoop:=
 match ex with
 | .normal=>(.bool true, { L with st:=.ready,pend:=none })
 | .ret=>(.bool false, { L with st:=.done,pend:=some .ret })
 | .exit id=>(.bool false, { L with st:=.done,pend:=some (.exit id) })
def oY(G:gT)(call:cT)(lf:Nat)(l:Nat)(args:List D)(H:aA):rT:=
 match H[l]? with
 | some (.loop L)=>
  if L.st=.ready∧args.length=L.params.length then
   match exec G H.length call lf (some l) L.assign ⟨L.env.dX L.params args,H,[]⟩with
   | some (.normal,s1)=>match s1.H[l]? with
    | some (.loop L1)=>
     if L1.st=.ready then
      match exec G H.length call lf (some l) L.body ⟨s1.env,s1.H.set l (.loop { L1 with st:=.busy }),s1.dfs⟩with
      | some (ex,s2)=>match s2.H[l]? with
       | some (.loop L2)=>some ((eA ex L2).1,s2.H.set l (.loop (eA ex L2).2))
       | _=>none
      | none=>none
     else none
    | _=>none
   | _=>none
  else none
 | _=>none
def aY(X:Ctx):Nat->cT
 | 0,_,_,_=>none
 | k+1,.func f pre caps,args,H=>
  match X.prims f (pre++args++caps)with
  | some d=>some (d,H)
  | none=>match X.fn f with
   | none=>none
   | some fn=>if Nat.blt (pre++args++caps).length 65535 then
    match exec X.G H.length (aY X k) k none fn.body ⟨Env.nil.dL 0 (pre++args++caps),H,[]⟩with
    | some (.normal,s)=>finish fn H.length s
    | some (.ret,s)=>finish fn H.length s
    | _=>none
    else none
 | k+1,.yield l,args,H=>oY X.G (aY X k) k l args H
 | _+1,_,_,_=>none
end Go.AM
namespace Go.AM
def U7:Value->Option D
 | .bool b=>some (.bool b)
 | .int k n=>some (.int k n)
 | .string s=>some (.str s.data.toList)
 | .pointer none=>some .nilp
 | .slice none 0 0=>some .nilsl
 | .nilFunc=>some .nilf
 | .func (.func f) first captured=>if first.size=0∧captured.size=0 then some (.func f [] [])else none
 | _=>none
def uG:List Value->Option (List D)
 | []=>some []
 | v::r=>match U7 v with
  | some d=>match uG r with
   | some ds=>some (d::ds)
   | none=>none
  | none=>none
def Ga:Value->Option D
 | .agg cs=>match uG cs.toList with
  | some ds=>some (.agg ds)
  | none=>none
 | .tuple vs=>if vs.size=0 then some (.tup [])else none
 | v=>U7 v
def aM:Operand->Option Arg
 | .tmp t=>some (.t t)
 | .const v=>match Ga v with
  | some d=>some (.c d)
  | none=>none
 | .global g=>some (.g g)
 | .func f=>some (.c (.func f [] []))
def iT:List Operand->Option (List Arg)
 | []=>some []
 | x::r=>match aM x with
  | some a=>match iT r with
   | some as=>some (a::as)
   | none=>none
  | none=>none
def hY:Option Operand->Option (Option Arg)
 | none=>some none
 | some x=>match aM x with
  | some a=>some (some a)
  | none=>none
section
variable(P:Program)
def lZ(t:TypeId):Option Bool:=
 match P.underlying t with
 | some (.struct _)=>some true
 | some (.array _ _)=>some true
 | some _=>some false
 | none=>none
def gV(t:TypeId):Option (Nat×Nat×List D):=
 match P.info? t with
 | some i=>match i.zero with
  | some z=>if z.cells.size=i.size then match uG z.cells.toList with
   | some ds=>some (i.size,i.bytes,ds)
   | none=>none
   else none
  | none=>none
 | none=>none
def dP(t:TypeId):Option Nat:=
 match P.info? t with
 | some i=>some i.size
 | none=>none
def kP(place:Nat->Option (Nat×Nat)):List (Nat×Operand)->Option (List (Nat×Nat×Arg))
 | []=>some []
 | (i,x)::r=>match place i,aM x,kP place r with
  | some (o,s),some a,some ps=>some ((o,s,a)::ps)
  | _,_,_=>none
def Lv(fs:Array Field):Option (List (Nat×Nat)):=fs.toList.mapM (fun f=>(P.info? f.type).map fun i=>(f.offset,i.size))
inductive Pol where
 | frz
 | hole
 | res (l:List (Nat×Nat))
 | quiet (f:Nat)
 deriving Inhabited
def FR:Option Pol->List (Nat×Nat)
 | some (.res l)=>l
 | _=>[]
def N9(b:Builtin)(types:List TypeId)(args:List Operand):Option AOp:=
 match b,types,args with
 | .len,[t],[x]=>match P.underlying t,aM x with
  | some .string,some a=>some (.len true a)
  | some (.slice _),some a=>some (.len false a)
  | _,_=>none
 | .append,[t,u],[x,y]=>match P.underlying t,P.underlying u,aM x,aM y with
  | some (.slice e),some (.slice _),some a,some b=>match gV P e with
   | some (s,by_,_)=>if 0<s∧0<by_ then some (.append s by_ a b)else none
   | none=>none
  | some (.slice e),some .string,some a,some b=>match gV P e with
   | some (s,by_,_)=>if s=1∧0<by_ then some (.appendS by_ a b)else none
   | none=>none
  | some (.slice e),some (.int _),some a,some b=>match gV P e with
   | some (s,by_,zs)=>if 0<s∧0<by_ then some (.appendZ s by_ zs a b)else none
   | none=>none
  | _,_,_,_=>none
 | .cap,[t],[x]=>match P.underlying t,aM x with
  | some (.slice _),some a=>some (.capn a)
  | _,_=>none
 | .copy,[t,_],[x,y]=>match P.underlying t,aM x,aM y with
  | some (.slice e),some a,some b=>match dP P e with
   | some s=>if 0<s then some (.copy s a b)else none
   | none=>none
  | _,_,_=>none
 | .max,_,x::xs=>match aM x,iT xs with
  | some a,some as=>some (.maxs a as)
  | _,_=>none
 | .min,_,x::xs=>match aM x,iT xs with
  | some a,some as=>some (.mins a as)
  | _,_=>none
 | _,_,_=>none
def pB(t:TypeId):Option PK:=
 match P.underlying t with
 | some (.int _)=>some .i
 | some .bool=>some .b
 | some .string=>some .s
 | _=>none
def L4:Nat->List Field->Option (List PK)
 | _,[]=>some []
 | i,f::r=>if f.name≠ "_" ∧f.offset=i then
   match pB P f.type,L4 (i+1) r with
   | some k,some ks=>some (k::ks)
   | _,_=>none
  else none
def Ab(t:TypeId):Option (List PK):=
 match P.underlying t with
 | some (.struct fs)=>if P.stoodInHeld t=false∧P.eqGuardType P.depth t=false then L4 P 0 fs.toList else none
 | some (.array n e)=>if P.eqGuardType P.depth t=false∧dP P e=some 1 then
   match pB P e with
   | some k=>some (List.replicate n k)
   | none=>none
  else none
 | _=>none
def N8(op:BinOp)(t:TypeId)(x y:Arg):Option AOp:=
 match P.underlying t with
 | some (.int _)=>some (.bin op x y)
 | some .string=>some (.bin op x y)
 | some .bool=>match op with
  | .eql=>some (.eqB false x y)
  | .neq=>some (.eqB true x y)
  | _=>none
 | some (.pointer _)=>match op with
  | .eql=>some (.eqP false x y)
  | .neq=>some (.eqP true x y)
  | _=>none
 | some (.slice _)=>match op with
  | .eql=>some (.eqS false x y)
  | .neq=>some (.eqS true x y)
  | _=>none
 | some _=>match Ab P t with
  | some n=>match op with
   | .eql=>some (.eqA false n x y)
   | .neq=>some (.eqA true n x y)
   | _=>none
  | none=>none
 | none=>none
def N7(src dst:TypeId)(x:Arg):Option AOp:=
 match P.underlying src,P.underlying dst with
 | some (.int _),some (.int k)=>some (.convI k x)
 | some (.int _),some .string=>some (.convIS x)
 | some .string,some .string=>some (.sliceS x none none)
 | some .string,some (.slice e)=>match P.underlying e with
  | some (.int .u8)=>some (.convSB x)
  | _=>none
 | some (.slice e),some .string=>match P.underlying e with
  | some (.int .u8)=>some (.convBS x)
  | _=>none
 | _,_=>none
def vO(t:TypeId):Bool:=match P.underlying t with
 | some (.map k e)=>(match P.underlying k with | some (.int .i64)=>true | _=>false) && (match P.info? e with | some i=>(match i.zero with | some (.bool false)=>true | _=>false) | none=>false)
 | _=>false
def eC(pol:Option Pol)(op:Op):Option AOp:=
 match op with
 | .move x=>match aM x with
  | some a=>some (.mov a)
  | none=>none
 | .assign x=>match pol,x with
  | some (.res [(0,es)]),.const (.slice none 0 0)=>if 0<es then some (.resv es)else none
  | _,x=>match aM x with
   | some a=>some (.mov a)
   | none=>none
 | .pick c a b=>match aM c,aM a,aM b with
  | some c,some a,some b=>some (.pick c a b)
  | _,_,_=>none
 | .alloc e=>match gV P e with
  | some (s,_,zs)=>match pol with
   | some .hole=>some (.hole s)
   | p=>some (.allocB zs (FR p))
  | none=>none
 | .box e x=>match dP P e,aM x with
  | some s,some a=>match pol with
   | some .frz=>some (.boxF s a)
   | p=>some (.boxB s a (FR p))
  | _,_=>none
 | .build t ps=>match gV P t,P.underlying t with
  | some (_,_,zs),some (.struct fs)=>match Lv P fs with
   | some places=>match kP (places.toArray[·]?) ps.toList with
    | some l=>some (.build zs l)
    | none=>none
   | none=>none
  | some (_,_,zs),some (.array _ e)=>match dP P e with
   | some s=>match kP (fun i=>some (i*s,s)) ps.toList with
    | some l=>some (.build zs l)
    | none=>none
   | none=>none
  | _,_=>none
 | .buildSlice t n ps=>match P.underlying t with
  | some (.slice e)=>match gV P e with
   | some (s,_,zs)=>if 0<s∧n*s<=16777216 then
     match kP (fun i=>some (i*s,s)) ps.toList with
     | some l=>match pol with
      | some .frz=>some (.bslF (eB zs n) n l)
      | _=>some (.bslR s (eB zs n) n l)
     | none=>none
    else none
   | none=>none
  | _=>none
 | .load t p=>match lZ P t,dP P t,aM p with
  | some ag,some s,some a=>some (.load ag s a)
  | _,_,_=>none
 | .store t p v=>match dP P t,aM p,aM v with
  | some s,some a,some b=>match pol with
   | some .hole=>some (.fill s ⟨b,none⟩)
   | some (.res l)=>some (.fill s ⟨b,some l⟩)
   | _=>some (.store s a b)
  | _,_,_=>none
 | .nilCheck x=>match aM x with
  | some a=>some (.nilchk a)
  | none=>none
 | .binOp op t x y _=>match aM x,aM y with
  | some a,some b=>N8 P op t a b
  | _,_=>none
 | .unOp op _ x=>match aM x with
  | some a=>some (.un op a)
  | none=>none
 | .convert s d x=>match aM x with
  | some a=>N7 P s d a
  | none=>none
 | .makeFunc (.func f) first caps=>match iT first.toList,iT caps.toList with
   | some k,some l=>some (.mkf f k l)
   | _,_=>none
 | .makeSlice t l c=>match P.underlying t with
  | some (.slice e)=>match gV P e,aM l,aM c with
   | some (s,by_,zs),some a,some b=>if 0<s∧0<by_ then some (.msl s by_ zs a b)else none
   | _,_,_=>none
  | _=>none
 | .slice t x lo hi mx=>match P.underlying t,aM x,hY lo,hY hi,hY mx with
  | some .string,some a,some l,some h,some none=>some (.sliceS a l h)
  | some (.slice e),some a,some l,some h,some m=>match dP P e with
   | some s=>if 0<s then some (.sliceL s a l h m)else none
   | none=>none
  | _,_,_,_,_=>none
 | .fieldAddr s x f=>match P.underlying s,aM x with
  | some (.struct fs),some a=>match fs[f]? with
   | some fd=>match dP P fd.type with
    | some sz=>if 0<sz then some (.faddr fd.offset a)else none
    | none=>none
   | none=>none
  | _,_=>none
 | .indexAddr t x i=>match P.underlying t,aM x,aM i with
  | some (.slice e),some a,some b=>match dP P e with
   | some s=>if 0<s then some (.iaddr s a b)else none
   | none=>none
  | some (.array n e),some a,some b=>match dP P e with
   | some s=>if 0<s then some (.iaddrA n s a b)else none
   | none=>none
  | _,_,_=>none
 | .field t x f=>match P.underlying t,aM x with
  | some (.struct fs),some a=>match fs[f]? with
   | some fd=>match lZ P fd.type,dP P fd.type with
    | some ag,some sz=>some (.field ag fd.offset sz a)
    | _,_=>none
   | none=>none
  | _,_=>none
 | .index t x i=>match P.underlying t,aM x,aM i with
  | some .string,some a,some b=>some (.indexS a b)
  | _,_,_=>none
 | .extract x i=>match aM x with
  | some a=>some (.extract a i)
  | none=>none
 | .makeMap t none=>match vO P t with
  | true=>some .mkmap
  | false=>none
 | .lookup t m k false=>match vO P t,aM m,aM k with
  | true,some a,some b=>some (.mget a b)
  | _,_,_=>none
 | .mapUpdate t m k v=>match vO P t,aM m,aM k,aM v with
  | true,some a,some b,some c=>some (.mset a b c)
  | _,_,_,_=>none
 | .call c=>match c.callee with
  | .builtin b=>N9 P b c.argTypes.toList c.args.toList
  | .value f=>match aM f,iT c.args.toList with
   | some a,some l=>some (.call a l)
   | _,_=>none
  | _=>none
 | _=>none
def y5(ops:Array Oper):Option (Nat×Bool)->Option (Option (Nat×Bool))
 | none=>some none
 | some (j,b)=>match(ops[j]?).bind (·.dst)with
  | some t=>some (some (t,b))
  | none=>none
def LN(f:Nat)(c:Call):Option AOp:=
 match c.callee with
 | .value x=>if c.args.size=0 then
   match aM x with
   | some a=>some (.dfrop f a)
   | none=>none
   else none
 | _=>none
def JE(pol:Option Pol)(op:Op):Option (Nat×Call):=
 match op,pol with
 | .defer c,some (.quiet f)=>some (f,c)
 | _,_=>none
def Mu (pol : Option Pol) (ops : Array Oper) (o : Oper) : Option AOper :=
  match y5 ops o.guard with
  | some g => match JE pol o.op with
   | some (f, c) => match LN f c with
    | some a => some ⟨o.dst, g, a⟩
    | none => none
   | none => match (eC P pol o.op).getD .bad, o.op with
    | .fill n v, .store _ (.tmp t) _ => if o.dst = none then some ⟨some t, g, .fill n v⟩ else none
    | .fill _ _, _ => none
    | op, _ => some ⟨o.dst, g, op⟩
  | none => none
def lC(pol:Nat->Option Pol)(ops:Array Oper):Nat->List Oper->Option (List AOper)
 | _,[]=>some []
 | i,o::r=>match Mu P (pol i) ops o with
  | some a=>match lC pol ops (i+1) r with
   | some l=>some (a::l)
   | none=>none
  | none=>none
def mY(o:Oper):List Nat:=(o.after.toList.filter (Region.binds .any)).map (·.on)
def tS(ancs:List Nat):List Nat->Nat
 | []=>0
 | p::r=>(1 <<< p) ||| ancs.getD p 0 ||| tS ancs r
def qJ:List Nat->List Oper->List Nat
 | ancs,[]=>ancs
 | ancs,o::r=>qJ (ancs++[tS ancs (mY o)]) r
def eV:List (Nat×Nat)->Nat->Option Nat
 | [],_=>none
 | (t,s)::r,u=>if Nat.beq t u then some s else eV r u
def sS:List (Nat×Nat)->Nat->List (Nat×Nat)
 | [],_=>[]
 | (t,s)::r,u=>if Nat.beq t u then sS r u else(t,s)::sS r u
def nA:List (Nat×Nat)->List AOper->Bool
 | _,[]=>true
 | p,o::r=>match o.op with
  | .hole s=>match o.dst with
   | some t=>o.guard.isNone && (eV p t).isNone && nA ((t,s)::p) r
   | none=>false
  | .fill s _=>match o.dst with
   | some t=>o.guard.isNone && (match eV p t with | some s'=>Nat.beq s' s | none=>false) && nA (sS p t) r
   | none=>false
  | _=>(match o.dst with | some t=>(eV p t).isNone | none=>true) && nA p r
def ordered(i ai j aj:Nat):Bool:=if Nat.blt j i then ai.testBit j else aj.testBit i
def y0(t:Nat):List Nat->Bool
 | []=>false
 | u::r=>Nat.beq u t || y0 t r
def GF(rs:List Nat):Option Nat->Bool
 | none=>false
 | some t=>y0 t rs
def CY:Option Nat->Option Nat->Bool
 | some t,some u=>Nat.beq t u
 | _,_=>false
def qG(i:Nat)(a:AOper)(rs:List Nat)(lo hi:Nat)(j:Nat)(o:AOper):Bool:=
 !GF rs o.dst && !CY a.dst o.dst && (!o.op.isE || (!a.op.isE && (!a.op.isL || (if Nat.blt j i then Nat.ble lo j else Nat.blt j hi))))
def N2(i:Nat)(a:AOper)(rs:List Nat)(ai lo hi:Nat):Nat->List (AOper×Nat×Nat)->List Nat->Bool
 | _,[],_=>true
 | j,(o,_,_)::r,aj::ra=>(Nat.beq i j || ordered i ai j aj || qG i a rs lo hi j o) && N2 i a rs ai lo hi (j+1) r ra
 | _,_::_,[]=>false
def N3(l:List (AOper×Nat×Nat))(ancs:List Nat):Nat->List (AOper×Nat×Nat)->List Nat->Bool
 | _,[],_=>true
 | i,(a,lo,hi)::r,ai::ra=>N2 i a a.reads ai lo hi 0 l ancs && N3 l ancs (i+1) r ra
 | _,_::_,[]=>false
def CH(i ai:Nat):Nat->List AOper->List Nat->Nat×Nat->Nat×Nat
 | j,o::r,aj::ra,(lo,hi)=>
  CH i ai (j+1) r ra (if Nat.beq i j || !o.op.isE || ordered i ai j aj then(lo,hi)else if Nat.blt j i then(if Nat.blt j lo then(j,hi)else(lo,hi))else(lo,j+1))
 | _,_,_,x=>x
def D7(as:List AOper)(ancs:List Nat):Nat->List AOper->List Nat->List (AOper×Nat×Nat)
 | i,a::r,ai::ra=>(a,if a.op.isL then CH i ai 0 as ancs (i,0)else(0,0))::D7 as ancs (i+1) r ra
 | _,_,_=>[]
def Al(md:Region.Mode)(n:Nat)(ρ:List Nat)(k:Nat):List Edge->Bool
 | []=>true
 | e::r=>(!Region.binds md e || (Nat.blt e.on n && Nat.blt (ρ.getD e.on n) k)) && Al md n ρ k r
def F0(md:Region.Mode)(n:Nat)(ρ:List Nat):Nat->List Oper->Bool
 | _,[]=>true
 | i,o::r=>Al md n ρ (ρ.getD i n) o.after.toList && F0 md n ρ (i+1) r
def GH(md:Region.Mode)(ops:Array Oper):List Nat:=
 if F0 md ops.size (List.range ops.size) 0 ops.toList then List.range ops.size
 else(List.range ops.size).map fun j=>(Region.linearise md ops 0).idxOf j
def Y5(md:Region.Mode)(ops:Array Oper):Bool:=F0 md ops.size (GH md ops) 0 ops.toList
def Mv(ops:Array Oper)(as:List AOper):Option (List (AOper×Nat×Nat)):=
 let ancs:=qJ [] ops.toList
 let l:=D7 as ancs 0 as ancs
 if nA [] as && ((Y5 .any ops && Y5 .text ops && Y5 .gc ops) && N3 l ancs 0 l ancs)then some l else none
def yE(pol:Nat->Nat->Option Pol)(r i:Nat):Option Pol:=
 match pol r i with
 | some (.quiet _)=>none
 | p=>p
def fN(pol:Nat->Nat->Option Pol):Code->Option ACode
 | .skip=>some .skip
 | .region id ops false=>match lC P (pol id) ops 0 ops.toList with
  | some l=>if nA [] l then some (.reg l)else none
  | none=>none
 | .region id ops true=>match lC P (pol id) ops 0 ops.toList with
  | some as=>match Mv ops as with
   | some l=>some (.dreg l)
   | none=>none
  | none=>none
 | .seq a b=>match fN pol a,fN pol b with
  | some x,some y=>some (.seq x y)
  | _,_=>none
 | .cond c a b=>match aM c,fN pol a,fN pol b with
  | some c,some x,some y=>some (.cond c x y)
  | _,_,_=>none
 | .block id b=>match fN pol b with
  | some x=>some (.block id x)
  | none=>none
 | .loop b=>match fN pol b with
  | some x=>some (.loop x)
  | none=>none
 | .rangeFunc f ps a b=>match aM f,fN (yE pol) a,fN (yE pol) b with
  | some g,some x,some y=>some (.rangeF g ps.toList x y)
  | _,_,_=>none
 | .exit id=>some (.exit id)
 | .ret=>some .ret
 | _=>none
def rY:List ResultVar->Option (List ARes)
 | []=>some []
 | .tmp t::r=>match rY r with
  | some l=>some (.tmp t::l)
  | none=>none
 | .cell a t::r=>match lZ P t,dP P t,rY r with
  | some ag,some s,some l=>some (.cell a ag s::l)
  | _,_,_=>none
def vC(l:List (Nat×Nat×Pol))(r i:Nat):Option Pol:=
 match l with
 | []=>none
 | (r',i',p)::rest=>if r'=r∧i'=i then some p else vC rest r i
def wP(pols:List (Nat×Nat×Pol))(keep:Option Nat)(fn:Func):Option AFunc:=
 match fn.body with
 | some c=>if fn.name == "runtime.NumGoroutine" then none else
  match fN P (vC pols) c,rY P fn.results.toList with
  | some b,some rs=>if b.fits fn.ntmps && Nat.blt fn.ntmps 65535 then some ⟨fn.params.size+fn.nfree,b,rs,keep⟩else none
  | _,_=>none
 | none=>none
end
end Go.AM
namespace Go.AM
abbrev Bk:=Nat->Nat->Option (Nat×Nat)
abbrev Fz:=Nat->Option Obj
def Bk.none:Bk:=fun _ _=>Option.none
mutual
def VR:D->Bk->Fz->Value->Prop
 | .undef,_,_,_=>True
 | .bool b,_,_,v=>v=.bool b
 | .int k n,_,_,v=>v=.int k n
 | .str s,_,_,v=>v=.string ⟨s.toArray⟩
 | .nilp,_,_,v=>v=.pointer none
 | .nilsl,_,_,v=>v=.slice none 0 0
 | .nilf,_,_,v=>v=.nilFunc
 | .esl,_,_,v=> ∃a,v=.slice a 0 0
 | .fptr cs,_, Φ,v=> ∃ad,v=.pointer (some ad)∧(cs=[]∨∃cur e fr, Φ ad.block=some (.cells cur e fr)∧ad.spot=none∧bJ cs Φ cur ad.off)
 | .fsl cs n,_, Φ,v=> ∃ad cap,n<=cap∧v=.slice (some ad) n cap∧(cs=[]∨∃cur e fr, Φ ad.block=some (.cells cur e fr)∧ad.spot=none∧bJ cs Φ cur ad.off)
 | .ptr id off,β,_,v=> ∃b c,β id 0=some (b,c)∧v=.pointer (some ⟨b,off,none⟩)
 | .rptr id hw off,β,_,v=> ∃b c,β id hw=some (b,c)∧v=.pointer (some ⟨b,off,none⟩)
 | .osl id hw off n,β,_,v=>(∃b c,β id hw=some (b,c)∧((off=0∧n<=c∧v=.slice (some ⟨b,0,none⟩) n c)∨(off≠0∧∃a cap,n<=cap∧v=.slice (some a) n cap∧(n≠0->a=⟨b,off,none⟩))))∨
   (β id 0=none∧hw=0∧off=0∧n=0∧v=.slice none 0 0)
 | .func f pre caps,β, Φ,v=> ∃us vs,v=.func (.func f) us.toArray vs.toArray∧aE pre β Φ us∧aE caps β Φ vs
 | .yield id,β,_,v=> ∃b c,β id 0=some (b,c)∧v=.func (.yield b) #[] #[]
 | .mp id,β,_,v=> ∃b c,β id 0=some (b,c)∧v=.map (some b)
 | .agg cs,β, Φ,v=> ∃vs,v=.agg vs.toArray∧aE cs β Φ vs
 | .tup ds,β, Φ,v=> ∃vs,v=.tuple vs.toArray∧aE ds β Φ vs
 | .sym s l,_,_,v=>v=.string ⟨s.toArray⟩∧∀x∈l,x≠s
def aE:List D->Bk->Fz->List Value->Prop
 | [],_,_,vs=>vs=[]
 | d::ds,β, Φ,vs=> ∃v r,vs=v::r∧VR d β Φ v∧aE ds β Φ r
def bJ:List D->Fz->Array Value->Nat->Prop
 | [],_,_,_=>True
 | d::ds, Φ,cur,o=>(∃v,cur[o]? =some v∧d.under 0=true∧VR d Bk.none Φ v)∧bJ ds Φ cur (o+1)
end
structure More(n:Nat)(β:Bk)(Φ :Fz)(β':Bk)(Φ' :Fz):Prop where
 some:∀id v x,id<n->β id v=Option.some x->β' id v=Option.some x
 none:∀id,id<n->β id 0=Option.none->β' id 0=Option.none
 fz:∀b o, Φ b=Option.some o-> Φ' b=Option.some o
mutual
theorem VR.more:∀(d:D) {n:Nat} {β β':Bk} {Φ Φ' :Fz} {v:Value},d.under n=true->More n β Φ β' Φ' ->VR d β Φ v->VR d β' Φ' v
 | .undef,_,_,_,_,_,_,_,_,_=>by simp[VR]
 | .bool b,_,_,_,_,_,_,_,_,h=>by simpa [VR]using h
 | .int k x,_,_,_,_,_,_,_,_,h=>by simpa [VR]using h
 | .str s,_,_,_,_,_,_,_,_,h=>by simpa [VR]using h
 | .nilp,_,_,_,_,_,_,_,_,h=>by simpa [VR]using h
 | .nilsl,_,_,_,_,_,_,_,_,h=>by simpa [VR]using h
 | .nilf,_,_,_,_,_,_,_,_,h=>by simpa [VR]using h
 | .esl,_,_,_,_,_,_,_,_,h=>by simpa [VR]using h
 | .fptr cs,n,_,_,_,_,_,_,hm,h=>by
  simp only[VR]at h ⊢;obtain⟨ad,hv,h⟩:=h;refine⟨ad,hv,h.imp id ?_⟩;rintro⟨cur,e,fr,h1,h2,h3⟩;exact⟨cur,e,fr,hm.fz _ _ h1,h2,bJ.more cs hm.fz h3⟩
 | .fsl cs k,n,_,_,_,_,_,_,hm,h=>by
  simp only[VR]at h ⊢;obtain⟨ad,cap,hc,hv,h⟩:=h;refine⟨ad,cap,hc,hv,h.imp id ?_⟩;rintro⟨cur,e,fr,h1,h2,h3⟩;exact⟨cur,e,fr,hm.fz _ _ h1,h2,bJ.more cs hm.fz h3⟩
 | .ptr id off,n,_,_,_,_,_,hu,hm,h=>by
  simp only[VR]at h ⊢;obtain⟨b,c,h1,h2⟩:=h;exact⟨b,c,hm.some _ _ _ (by simpa [D.under,Nat.blt_eq]using hu) h1,h2⟩
 | .rptr id hw off,n,_,_,_,_,_,hu,hm,h=>by
  simp only[VR]at h ⊢;obtain⟨b,c,h1,h2⟩:=h;exact⟨b,c,hm.some _ _ _ (by simpa [D.under,Nat.blt_eq]using hu) h1,h2⟩
 | .osl id hw off k,n,_,_,_,_,_,hu,hm,h=>by
  simp only[VR]at h ⊢;have hid:id<n:=by simpa [D.under,Nat.blt_eq]using hu
  rcases h with⟨b,c,h1,h2⟩ | ⟨h1,h2⟩
  ·exact .inl ⟨b,c,hm.some _ _ _ hid h1,h2⟩
  ·exact .inr ⟨hm.none _ hid h1,h2⟩
 | .func f pre caps,n,_,_,_,_,_,hu,hm,h=>by
  simp only[VR]at h ⊢;simp only[D.under,Bool.and_eq_true]at hu;obtain⟨us,vs,h1,h2,h3⟩:=h;exact⟨us,vs,h1,aE.more pre hu.1 hm h2,aE.more caps hu.2 hm h3⟩
 | .yield id,n,_,_,_,_,_,hu,hm,h=>by
  simp only[VR]at h ⊢;obtain⟨b,c,h1,h2⟩:=h;exact⟨b,c,hm.some _ _ _ (by simpa [D.under,Nat.blt_eq]using hu) h1,h2⟩
 | .mp id,n,_,_,_,_,_,hu,hm,h=>by
  simp only[VR]at h ⊢;obtain⟨b,c,h1,h2⟩:=h;exact⟨b,c,hm.some _ _ _ (by simpa [D.under,Nat.blt_eq]using hu) h1,h2⟩
 | .agg cs,n,_,_,_,_,_,hu,hm,h=>by
  simp only[VR]at h ⊢;obtain⟨vs,h1,h2⟩:=h;exact⟨vs,h1,aE.more cs (by simpa [D.under]using hu) hm h2⟩
 | .tup cs,n,_,_,_,_,_,hu,hm,h=>by
  simp only[VR]at h ⊢;obtain⟨vs,h1,h2⟩:=h;exact⟨vs,h1,aE.more cs (by simpa [D.under]using hu) hm h2⟩
 | .sym s l,_,_,_,_,_,_,_,_,h=>by simpa [VR]using h
theorem aE.more:∀(ds:List D) {n:Nat} {β β':Bk} {Φ Φ' :Fz} {vs:List Value},D.aD n ds=true->More n β Φ β' Φ' ->aE ds β Φ vs->aE ds β' Φ' vs
 | [],_,_,_,_,_,_,_,_,h=>by simpa [aE]using h
 | d::ds,n,_,_,_,_,vs,hu,hm,h=>by
  simp only[D.aD,Bool.and_eq_true]at hu;simp only[aE]at h ⊢;obtain⟨v,r,h1,h2,h3⟩:=h;exact⟨v,r,h1,VR.more d hu.1 hm h2,aE.more ds hu.2 hm h3⟩
theorem bJ.more:∀(ds:List D) {Φ Φ' :Fz} {cur:Array Value} {o:Nat},(∀b x, Φ b=some x-> Φ' b=some x)->bJ ds Φ cur o->bJ ds Φ' cur o
 | [],_,_,_,_,_,h=>by simp[bJ]
 | d::ds, Φ, Φ',cur,o,hm,h=>by
  simp only[bJ]at h ⊢;obtain⟨⟨v,h1,h0,h2⟩,h3⟩:=h;refine⟨⟨v,h1,h0,VR.fz d hm h2⟩,bJ.more ds hm h3⟩
theorem VR.fz:∀(d:D) {Φ Φ' :Fz} {v:Value},(∀b x, Φ b=some x-> Φ' b=some x)->VR d Bk.none Φ v->VR d Bk.none Φ' v
 | .undef,_,_,_,_,_=>by simp[VR]
 | .bool b,_,_,_,_,h=>by simpa [VR]using h
 | .int k x,_,_,_,_,h=>by simpa [VR]using h
 | .str s,_,_,_,_,h=>by simpa [VR]using h
 | .nilp,_,_,_,_,h=>by simpa [VR]using h
 | .nilsl,_,_,_,_,h=>by simpa [VR]using h
 | .nilf,_,_,_,_,h=>by simpa [VR]using h
 | .esl,_,_,_,_,h=>by simpa [VR]using h
 | .fptr cs,_,_,_,hm,h=>by
  simp only[VR]at h ⊢;obtain⟨ad,hv,h⟩:=h;refine⟨ad,hv,h.imp id ?_⟩;rintro⟨cur,e,fr,h1,h2,h3⟩;exact⟨cur,e,fr,hm _ _ h1,h2,bJ.more cs hm h3⟩
 | .fsl cs k,_,_,_,hm,h=>by
  simp only[VR]at h ⊢;obtain⟨ad,cap,hc,hv,h⟩:=h;refine⟨ad,cap,hc,hv,h.imp id ?_⟩;rintro⟨cur,e,fr,h1,h2,h3⟩;exact⟨cur,e,fr,hm _ _ h1,h2,bJ.more cs hm h3⟩
 | .ptr id off,_,_,_,hm,h=>by simpa [VR,Bk.none]using h
 | .rptr id hw off,_,_,_,hm,h=>by simpa [VR,Bk.none]using h
 | .osl id hw off k,_,_,_,hm,h=>by simpa [VR,Bk.none]using h
 | .func f pre caps,_,_,_,hm,h=>by
  simp only[VR]at h ⊢;obtain⟨us,vs,h1,h2,h3⟩:=h;exact⟨us,vs,h1,aE.fz pre hm h2,aE.fz caps hm h3⟩
 | .yield id,_,_,_,hm,h=>by simpa [VR,Bk.none]using h
 | .mp id,_,_,_,hm,h=>by simpa [VR,Bk.none]using h
 | .agg cs,_,_,_,hm,h=>by
  simp only[VR]at h ⊢;obtain⟨vs,h1,h2⟩:=h;exact⟨vs,h1,aE.fz cs hm h2⟩
 | .tup cs,_,_,_,hm,h=>by
  simp only[VR]at h ⊢;obtain⟨vs,h1,h2⟩:=h;exact⟨vs,h1,aE.fz cs hm h2⟩
 | .sym s l,_,_,_,_,h=>by simpa [VR]using h
theorem aE.fz:∀(ds:List D) {Φ Φ' :Fz} {vs:List Value},(∀b x, Φ b=some x-> Φ' b=some x)->aE ds Bk.none Φ vs->aE ds Bk.none Φ' vs
 | [],_,_,_,_,h=>by simpa [aE]using h
 | d::ds,_,_,vs,hm,h=>by
  simp only[aE]at h ⊢;obtain⟨v,r,h1,h2,h3⟩:=h;exact⟨v,r,h1,VR.fz d hm h2,aE.fz ds hm h3⟩
end
mutual
theorem VR.closed:∀(d:D) {β β':Bk} {Φ :Fz} {v:Value},d.under 0=true->VR d β Φ v->VR d β' Φ v
 | .undef,_,_,_,_,hu,_=>by simp[VR]
 | .bool b,_,_,_,_,_,h=>by simpa [VR]using h
 | .int k x,_,_,_,_,_,h=>by simpa [VR]using h
 | .str s,_,_,_,_,_,h=>by simpa [VR]using h
 | .nilp,_,_,_,_,_,h=>by simpa [VR]using h
 | .nilsl,_,_,_,_,_,h=>by simpa [VR]using h
 | .nilf,_,_,_,_,_,h=>by simpa [VR]using h
 | .esl,_,_,_,_,_,h=>by simpa [VR]using h
 | .fptr cs,_,_,_,_,_,h=>by simpa [VR]using h
 | .fsl cs k,_,_,_,_,_,h=>by simpa [VR]using h
 | .ptr id off,_,_,_,_,hu,_=>by simp[D.under,Nat.blt_eq]at hu
 | .rptr id hw off,_,_,_,_,hu,_=>by simp[D.under,Nat.blt_eq]at hu
 | .osl id hw off k,_,_,_,_,hu,_=>by simp[D.under,Nat.blt_eq]at hu
 | .func f pre caps,_,_,_,_,hu,h=>by
  simp only[VR]at h ⊢;simp only[D.under,Bool.and_eq_true]at hu;obtain⟨us,vs,h1,h2,h3⟩:=h;exact⟨us,vs,h1,aE.closed pre hu.1 h2,aE.closed caps hu.2 h3⟩
 | .yield id,_,_,_,_,hu,_=>by simp[D.under,Nat.blt_eq]at hu
 | .mp id,_,_,_,_,hu,_=>by simp[D.under,Nat.blt_eq]at hu
 | .agg cs,_,_,_,_,hu,h=>by
  simp only[VR]at h ⊢;obtain⟨vs,h1,h2⟩:=h;exact⟨vs,h1,aE.closed cs (by simpa [D.under]using hu) h2⟩
 | .tup cs,_,_,_,_,hu,h=>by
  simp only[VR]at h ⊢;obtain⟨vs,h1,h2⟩:=h;exact⟨vs,h1,aE.closed cs (by simpa [D.under]using hu) h2⟩
 | .sym s l,_,_,_,_,_,h=>by simpa [VR]using h
theorem aE.closed:∀(ds:List D) {β β':Bk} {Φ :Fz} {vs:List Value},D.aD 0 ds=true->aE ds β Φ vs->aE ds β' Φ vs
 | [],_,_,_,_,_,h=>by simpa [aE]using h
 | d::ds,_,_,_,vs,hu,h=>by
  simp only[D.aD,Bool.and_eq_true]at hu;simp only[aE]at h ⊢;obtain⟨v,r,h1,h2,h3⟩:=h;exact⟨v,r,h1,VR.closed d hu.1 h2,aE.closed ds hu.2 h3⟩
end
end Go.AM
namespace Go.AM
def LState.LJ:LState->LoopState
 | .ready=>.ready
 | .busy=>.busy
 | .done=>.done
 | .exhausted=>.exhausted
def Lb:Option AJump->Option Code
 | none=>none
 | some .ret=>some .ret
 | some (.exit id)=>some (.exit id)
def EU(n:Nat)(env:Env):Prop:=∀t,env.get t=.undef∨(env.get t).under n=true
def ER(β:Bk)(Φ :Fz)(env:Env)(tmps:Array Value):Prop:=∀t,VR (env.get t) β Φ (tmps.getD t undef)
def Chunk.aD(n:Nat):Chunk->Prop
 | .box cs=>D.aD n cs=true
 | .row _ cs _=>D.aD n cs=true
 | .loop L=>EU n L.env∧L.dfr<n
 | .dfr _=>True
 | .map _=>True
def Chunk.blk(β:Bk)(id:Nat):Chunk->Option Nat
 | .box _=>(β id 0).map (·.1)
 | .row _ cs nil=>if nil then none else(β id cs.length).map (·.1)
 | .loop _=>(β id 0).map (·.1)
 | .dfr _=>(β id 0).map (·.1)
 | .map _=>(β id 0).map (·.1)
section
variable(P:Program)(G:gT)
def CR(n:Nat)(c:Code)(ac:ACode):Prop:=ac.fits n=true∧∃pol,(∀i j f,pol i j≠some (.quiet f))∧fN P pol c=some ac
structure LoopRel(β:Bk)(Φ :Fz)(L:ALoop)(r:Loop):Prop where
 state:r.state=L.st.LJ
 pend:r.pending=Lb L.pend
 params:r.params.toList=L.params
 code:∃n,n<65535∧n<=r.tmps.size∧zH n L.params=true∧CR P n r.assign L.assign∧CR P n r.body L.body
 env:ER β Φ L.env r.tmps
 dfr:∃c,β L.dfr 0=some (r.defers,c)
def uF(β:Bk)(Φ :Fz)(w:World)(id:Nat):Chunk->Prop
 | .box cs=>D.aF cs=true∧∃k c cur e,β id 0=some (k,c)∧w.heap[k]? =some (.cells cur e (0,0))∧aE cs β Φ cur.toList
 | .row es cs nil=>0<es∧D.aF cs=true∧(∀v,cs.length<v->β id v=none)∧
   if nil then cs=[]∧β id 0=none else
   ∃k c cur e,β id cs.length=some (k,c)∧w.heap[k]? =some (.cells cur e (0,0))∧cur.size=c*es∧c<=maxLen∧cs.length<=cur.size∧aE cs β Φ (cur.toList.take cs.length)
 | .loop L=> ∃k c r,β id 0=some (k,c)∧w.heap[k]? =some (.loop r)∧LoopRel P β Φ L r
 | .dfr t=> ∃k c,β id 0=some (k,c)∧w.heap[k]? =some (.deferred (if t then none else some []))
 | .map es=> ∃k c es' clock,β id 0=some (k,c)∧w.heap[k]? =some (.map es' clock)∧es'.toList.map (fun e=>(e.key,e.val))=es.map fun p=>(Value.int .i64 p.1,Value.bool p.2)
structure WR(β:Bk)(Φ :Fz)(b:Nat)(H:aA)(w:World):Prop where
 ch:∀id (c:Chunk),H[id]? =some c->uF P β Φ w id c
 fz:∀k o, Φ k=some o->w.heap[k]? =some o
 apart:∀id (c:Chunk) k,H[id]? =some c->c.blk β id=some k-> Φ k=none
 inj:∀id (c:Chunk) id' (c':Chunk) k,H[id]? =some c->H[id']? =some c'->c.blk β id=some k->c'.blk β id'=some k->id=id'
 dom:∀id v,H.length<=id->β id v=none
 base:b<=H.length
 ids:∀id (c:Chunk),H[id]? =some c->c.aD (if id<b then b else H.length)
 glob:∀g cs,G g=some cs->∃cur e fr, Φ g=some (.cells cur e fr)∧bJ cs Φ cur 0
end
def live(β:Bk)(H:aA)(k:Nat):Prop:=∃id,∃c:Chunk,H[id]? =some c∧c.blk β id=some k
structure Ext(β:Bk)(Φ :Fz)(H:aA)(w:World)(β':Bk)(Φ' :Fz)(H':aA)(w':World):Prop where
 more:More H.length β Φ β' Φ'
 len:H.length<=H'.length
 os:w'.os=w.os
 tape:w'.tape=w.tape
 output:w'.output=w.output
 size:w.heap.size<=w'.heap.size
 same:∀k,k<w.heap.size-> ¬live β H k->w'.heap[k]? =w.heap[k]?
 fresh:∀k,live β' H' k->live β H k∨w.heap.size<=k
 fzn:∀k o, Φ' k=some o-> Φ k=some o∨live β H k∨w.heap.size<=k
theorem More.refl(n:Nat)(β:Bk)(Φ :Fz):More n β Φ β Φ :=⟨fun _ _ _ _ h=>h,fun _ _ h=>h,fun _ _ h=>h⟩
theorem More.trans {n n':Nat}{β β' β'':Bk}{Φ Φ' Φ'' :Fz}(h:More n β Φ β' Φ')(hn:n<=n')(k:More n' β' Φ' β'' Φ''):More n β Φ β'' Φ'' :=
 ⟨fun id v x hi hx=>k.some id v x (by omega) (h.some id v x hi hx),fun id hi hx=>k.none id (by omega) (h.none id hi hx),fun b o hx=>k.fz _ _ (h.fz _ _ hx)⟩
theorem More.le {n n':Nat}{β β':Bk}{Φ Φ' :Fz}(h:More n β Φ β' Φ')(hn:n'<=n):More n' β Φ β' Φ' :=
 ⟨fun id v x hi hx=>h.some id v x (by omega) hx,fun id hi hx=>h.none id (by omega) hx,h.fz⟩
theorem Ext.refl(β:Bk)(Φ :Fz)(H:aA)(w:World):Ext β Φ H w β Φ H w:=
 ⟨More.refl _ _ _,Nat.le_refl _,rfl,rfl,rfl,Nat.le_refl _,fun _ _ _=>rfl,fun _ h=>.inl h,fun _ _ h=>.inl h⟩
theorem Ext.trans {β β' β'':Bk}{Φ Φ' Φ'' :Fz}{H H' H'':aA}{w w' w'':World}(h:Ext β Φ H w β' Φ' H' w')(k:Ext β' Φ' H' w' β'' Φ'' H'' w''):Ext β Φ H w β'' Φ'' H'' w'':=by
 refine⟨h.more.trans h.len k.more,Nat.le_trans h.len k.len,k.os.trans h.os,k.tape.trans h.tape,k.output.trans h.output,Nat.le_trans h.size k.size,?_,?_,?_⟩
 ·intro i hi hl
  rw[← h.same i hi hl];refine k.same i (Nat.lt_of_lt_of_le hi h.size) (fun hl'=>?_);rcases h.fresh i hl' with h' | h'
  ·exact hl h'
  ·omega
 ·intro i hi
  rcases k.fresh i hi with h' | h'
  ·exact h.fresh i h'
  ·exact .inr (Nat.le_trans h.size h')
 ·intro i o hi
  rcases k.fzn i o hi with h' | h' | h'
  ·exact h.fzn i o h'
  ·exact .inr (h.fresh i h')
  ·exact .inr (.inr (Nat.le_trans h.size h'))
mutual
theorem D.C8:∀(d:D) {n n':Nat},n<=n'->d.under n=true->d.under n'=true
 | .undef,_,_,_,h=>by simp[D.under]at h
 | .bool _,_,_,_,_=>by simp[D.under]
 | .int _ _,_,_,_,_=>by simp[D.under]
 | .str _,_,_,_,_=>by simp[D.under]
 | .nilp,_,_,_,_=>by simp[D.under]
 | .nilsl,_,_,_,_=>by simp[D.under]
 | .nilf,_,_,_,_=>by simp[D.under]
 | .esl,_,_,_,_=>by simp[D.under]
 | .fptr _,_,_,_,_=>by simp[D.under]
 | .fsl _ _,_,_,_,_=>by simp[D.under]
 | .ptr _ _,_,_,hn,h=>by simp only[D.under,Nat.blt_eq]at h ⊢;omega
 | .rptr _ _ _,_,_,hn,h=>by simp only[D.under,Nat.blt_eq]at h ⊢;omega
 | .osl _ _ _ _,_,_,hn,h=>by simp only[D.under,Nat.blt_eq]at h ⊢;omega
 | .yield _,_,_,hn,h=>by simp only[D.under,Nat.blt_eq]at h ⊢;omega
 | .mp _,_,_,hn,h=>by simp only[D.under,Nat.blt_eq]at h ⊢;omega
 | .func _ pre caps,_,_,hn,h=>by simp only[D.under,Bool.and_eq_true]at h ⊢;exact⟨D.dI pre hn h.1,D.dI caps hn h.2⟩
 | .agg caps,_,_,hn,h=>by simp only[D.under]at h ⊢;exact D.dI caps hn h
 | .tup caps,_,_,hn,h=>by simp only[D.under]at h ⊢;exact D.dI caps hn h
 | .sym _ _,_,_,_,_=>by simp[D.under]
theorem D.dI:∀(ds:List D) {n n':Nat},n<=n'->D.aD n ds=true->D.aD n' ds=true
 | [],_,_,_,_=>rfl
 | d::ds,_,_,hn,h=>by
  simp only[D.aD,Bool.and_eq_true]at h ⊢;exact⟨D.C8 d hn h.1,D.dI ds hn h.2⟩
end
theorem EU.le {n n':Nat}{env:Env}(h:EU n env)(hn:n<=n'):EU n' env:=fun t=>(h t).imp id (D.C8 _ hn)
theorem Chunk.dI {c:Chunk}{n n':Nat}(hn:n<=n')(h:c.aD n):c.aD n':=by
 cases c with
 | box cs=>exact D.dI cs hn h
 | row es cs nil=>exact D.dI cs hn h
 | loop L=>exact⟨h.1.le hn,Nat.lt_of_lt_of_le h.2 hn⟩
 | dfr t=>trivial
 | map es=>trivial
theorem ER.more {n:Nat}{β β':Bk}{Φ Φ' :Fz}{env:Env}{tmps:Array Value}(h:ER β Φ env tmps)(hu:EU n env)(hm:More n β Φ β' Φ'):ER β' Φ' env tmps:=by
 intro t;rcases hu t with h' | h'
 ·rw[h'];trivial
 ·exact VR.more _ h' hm (h t)
theorem LoopRel.more {P:Program}{n:Nat}{β β':Bk}{Φ Φ' :Fz}{L:ALoop}{r:Loop}(h:LoopRel P β Φ L r)(hu:(Chunk.loop L).aD n)(hm:More n β Φ β' Φ'):LoopRel P β' Φ' L r:=by
 obtain⟨c,hc⟩:=h.dfr;exact⟨h.state,h.pend,h.params,h.code,h.env.more hu.1 hm,c,hm.some _ _ _ hu.2 hc⟩
theorem uF.more {P:Program}{n:Nat}{β β':Bk}{Φ Φ' :Fz}{w w':World}{id:Nat}{c:Chunk}(h:uF P β Φ w id c)(hu:c.aD n)(hid:id<n)(hm:More n β Φ β' Φ')
  (hb:∀v,β' id v=β id v) (hw:∀k,c.blk β id=some k->w'.heap[k]? =w.heap[k]?):uF P β' Φ' w' id c:=by
 cases c with
 | box cs=>
  obtain⟨h1,k,c,cur,e,h2,h3,h4⟩:=h;exact⟨h1,k,c,cur,e,by rw[hb];exact h2,by rw[hw k (by simp[Chunk.blk,h2])];exact h3,aE.more cs hu hm h4⟩
 | row es cs nil=>
  obtain⟨h0,h1,ht,h2⟩:=h;refine⟨h0,h1,fun v hv=>by rw[hb];exact ht v hv,?_⟩
  cases nil with
  | true=>simp only[if_true]at h2 ⊢;exact⟨h2.1,by rw[hb];exact h2.2⟩
  | false=>
   simp only[Bool.false_eq_true,if_false]at h2 ⊢;obtain⟨k,c,cur,e,h3,h4,h5,h6,h7,h8⟩:=h2;exact⟨k,c,cur,e,by rw[hb];exact h3,by rw[hw k (by simp[Chunk.blk,h3])];exact h4,h5,h6,h7,aE.more cs hu hm h8⟩
 | loop L=>
  obtain⟨k,c,r,h1,h2,h3⟩:=h;exact⟨k,c,r,by rw[hb];exact h1,by rw[hw k (by simp[Chunk.blk,h1])];exact h2,h3.more hu hm⟩
 | dfr t=>
  obtain⟨k,c,h1,h2⟩:=h;exact⟨k,c,by rw[hb];exact h1,by rw[hw k (by simp[Chunk.blk,h1])];exact h2⟩
 | map es=>
  obtain⟨k,c,es',cl,h1,h2,h3⟩:=h;exact⟨k,c,es',cl,by rw[hb];exact h1,by rw[hw k (by simp[Chunk.blk,h1])];exact h2,h3⟩
section
variable {P:Program}{G:Nat->Option (List D)}{β:Bk}{Φ :Fz}{b:Nat}{H:aA}{w:World}
theorem WR.aD(h:WR P G β Φ b H w){id:Nat}{c:Chunk}(hc:H[id]? =some c):c.aD H.length:=by
 have:=h.ids id c hc;have hb:=h.base;split at this
 ·exact Chunk.dI hb this
 ·exact this
theorem gZ {α:Type}{l:List α}{i:Nat}{x:α}(h:l[i]? =some x):i<l.length:=(List.getElem?_eq_some_iff.1 h).1
theorem WR.lD(h:WR P G β Φ b H w){id:Nat}{c:Chunk}(hc:H[id]? =some c){k:Nat}(hk:c.blk β id=some k):k<w.heap.size:=by
 have hr:=h.ch id c hc;have key:∀o,w.heap[k]? =some o->k<w.heap.size:=fun o ho=>(Array.getElem?_eq_some_iff.1 ho).1
 cases c with
 | box cs=>
  obtain⟨h1,k',c,cur,e,h2,h3,h4⟩:=hr;simp[Chunk.blk,h2]at hk;subst hk;exact key _ h3
 | row es cs nil=>
  obtain⟨h0,h1,_,h2⟩:=hr
  cases nil with
  | true=>simp[Chunk.blk]at hk
  | false=>
   simp only[Bool.false_eq_true,if_false]at h2;obtain⟨k',c,cur,e,h3,h4,_⟩:=h2;simp[Chunk.blk,h3]at hk;subst hk;exact key _ h4
 | loop L=>
  obtain⟨k',c,r,h1,h2,_⟩:=hr;simp[Chunk.blk,h1]at hk;subst hk;exact key _ h2
 | dfr t=>
  obtain⟨k',c,h1,h2⟩:=hr;simp[Chunk.blk,h1]at hk;subst hk;exact key _ h2
 | map es=>
  obtain⟨k',c,es',cl,h1,h2,_⟩:=hr;simp[Chunk.blk,h1]at hk;subst hk;exact key _ h2
theorem WR.tJ(h:WR P G β Φ b H w){k:Nat}{o:Obj}(hk: Φ k=some o):k<w.heap.size:=(Array.getElem?_eq_some_iff.1 (h.fz k o hk)).1
structure Grow(w w':World)(o:Obj):Prop where
 os:w'.os=w.os
 tape:w'.tape=w.tape
 output:w'.output=w.output
 heap:w'.heap=w.heap.push o
theorem Grow.old {w w':World}{o:Obj}(h:Grow w w' o){k:Nat}(hk:k<w.heap.size):w'.heap[k]? =w.heap[k]? :=by
 rw[h.heap,Array.getElem?_push,if_neg (by omega)]
theorem Grow.new {w w':World}{o:Obj}(h:Grow w w' o):w'.heap[w.heap.size]? =some o:=by
 rw[h.heap,Array.getElem?_push,if_pos rfl]
theorem Grow.size {w w':World}{o:Obj}(h:Grow w w' o):w'.heap.size=w.heap.size+1:=by rw[h.heap,Array.size_push]
theorem Grow.alloc(w:World)(o:Obj):Grow w (w.alloc o) o:=⟨rfl,rfl,rfl,rfl⟩
theorem Grow.Aq(w:World)(o:Obj):Grow w (w.drew.alloc o) o:=⟨rfl,rfl,rfl,rfl⟩
theorem WR.same(h:WR P G β Φ b H w){w':World}(hh:w'.heap=w.heap):WR P G β Φ b H w':=by
 refine⟨fun id c hc=>?_,fun k o hk=>by rw[hh];exact h.fz k o hk,h.apart,h.inj,h.dom,h.base,h.ids,h.glob⟩;exact(h.ch id c hc).more (h.aD hc) (gZ hc) (More.refl _ _ _) (fun _=>rfl) (fun k _=>by rw[hh])
def Fz.put(Φ :Fz)(k:Nat)(o:Obj):Fz:=fun i=>if i=k then some o else Φ i
theorem Fz.vA {Φ :Fz}{k:Nat}(o:Obj)(h: Φ k=none):∀i x, Φ i=some x->Fz.put Φ k o i=some x:=by
 intro i x hi;unfold Fz.put;split
 ·rename_i e;subst e;rw[h]at hi;cases hi
 ·exact hi
theorem WR.zEP(h:WR P G β Φ b H w){w':World}{o:Obj}(hg:Grow w w' o):
  WR P G β (Fz.put Φ w.heap.size o) b H w'∧Ext β Φ H w β (Fz.put Φ w.heap.size o) H w':=by
 have hn: Φ w.heap.size=none:=by
  cases hx: Φ w.heap.size with
  | none=>rfl
  | some x=>exact absurd (h.tJ hx) (by omega)
 have hm:More H.length β Φ β (Fz.put Φ w.heap.size o):=⟨fun _ _ _ _ h=>h,fun _ _ h=>h,Fz.vA o hn⟩;refine⟨⟨fun id c hc=>?_,fun k o' hk=>?_,fun id c k hc hk=>?_,h.inj,h.dom,h.base,h.ids,fun g cs hgc=>?_⟩,⟨hm,Nat.le_refl _,hg.os,hg.tape,hg.output,by rw[hg.size];omega,fun k hk _=>hg.old hk,fun k hk=>.inl hk,fun k o' hk=>?_⟩⟩
 ·exact(h.ch id c hc).more (h.aD hc) (gZ hc) hm (fun _=>rfl) (fun k hk=>hg.old (h.lD hc hk))
 ·unfold Fz.put at hk
  split at hk
  ·rename_i e;subst e;cases hk;exact hg.new
  ·rw[hg.old (h.tJ hk)];exact h.fz k o' hk
 ·have:=h.lD hc hk
  unfold Fz.put;rw[if_neg (by omega)];exact h.apart id c k hc hk
 ·obtain⟨cur,e,fr,h1,h2⟩:=h.glob g cs hgc
  exact⟨cur,e,fr,Fz.vA o hn _ _ h1,bJ.more cs (Fz.vA o hn) h2⟩
 ·unfold Fz.put at hk
  split at hk
  ·rename_i e;subst e;exact .inr (.inr (Nat.le_refl _))
  ·exact .inl hk
def Bk.put(β:Bk)(id v:Nat)(x:Nat×Nat):Bk:=fun i u=>if i=id∧u=v then some x else β i u
theorem Bk.fZ(β:Bk)(id v:Nat)(x:Nat×Nat):Bk.put β id v x id v=some x:=by simp[Bk.put]
theorem Bk.kJ {β:Bk}{id v i u:Nat}{x:Nat×Nat}(h:i≠id):Bk.put β id v x i u=β i u:=by simp[Bk.put,h]
theorem Bk.Ho {β:Bk}{id v u:Nat}{x:Nat×Nat}(h:u≠v):Bk.put β id v x id u=β id u:=by simp[Bk.put,h]
theorem gU {α:Type}{l:List α}{x y:α}{i:Nat}(h:(l++[x])[i]? =some y):l[i]? =some y∨(i=l.length∧y=x):=by
 rw[List.getElem?_append]at h;split at h
 ·exact .inl h
 ·right
  have hi:i-l.length=0:=by
   cases hz:i-l.length with
   | zero=>rfl
   | succ n=>rw[hz]at h;simp at h
  rw[hi]at h;simp at h;exact⟨by omega,h.symm⟩
theorem WR.G2(h:WR P G β Φ b H w){w':World}{o:Obj}(hg:Grow w w' o){c:Chunk}{v cap:Nat}
  (hc:uF P (Bk.put β H.length v (w.heap.size,cap)) Φ w' H.length c) (hb:c.blk (Bk.put β H.length v (w.heap.size,cap)) H.length=some w.heap.size) (hu:c.aD (H.length+1)):
  WR P G (Bk.put β H.length v (w.heap.size,cap)) Φ b (H++[c]) w'∧Ext β Φ H w (Bk.put β H.length v (w.heap.size,cap)) Φ (H++[c]) w':=by
 have hold:∀i u,i<H.length->Bk.put β H.length v (w.heap.size,cap) i u=β i u:=fun i u hi=>Bk.kJ (by omega)
 have hm:More H.length β Φ (Bk.put β H.length v (w.heap.size,cap)) Φ :=
  ⟨fun id u x hi hx=>by rw[hold id u hi];exact hx,fun id hi hx=>by rw[hold id 0 hi];exact hx,fun _ _ h=>h⟩
 have hbl:∀id (c:Chunk),H[id]? =some c->c.blk (Bk.put β H.length v (w.heap.size,cap)) id=c.blk β id:=fun id c hc=>by
  cases c <;> simp[Chunk.blk,hold _ _ (gZ hc)]
 refine⟨⟨fun id c' hc'=>?_,fun k o' hk=>?_,fun id c' k hc' hk=>?_,fun id c' id' c'' k hc' hc'' hk hk'=>?_,fun id u hi=>?_,?_,fun id c' hc'=>?_,h.glob⟩,
  ⟨hm,by simp,hg.os,hg.tape,hg.output,by rw[hg.size];omega,fun k hk _=>hg.old hk,?_,fun k o' hk=>.inl hk⟩⟩
 ·rcases gU hc' with h1 | ⟨h1,h2⟩
  ·exact(h.ch id c' h1).more (h.aD h1) (gZ h1) hm (fun u=>hold id u (gZ h1)) (fun k hk=>hg.old (h.lD h1 hk))
  ·subst h1;subst h2;exact hc
 ·rw[hg.old (h.tJ hk)];exact h.fz k o' hk
 ·rcases gU hc' with h1 | ⟨h1,h2⟩
  ·rw[hbl id c' h1]at hk;exact h.apart id c' k h1 hk
  ·subst h1;subst h2
   rw[hb]at hk;cases hk
   cases hx: Φ w.heap.size with
   | none=>rfl
   | some x=>exact absurd (h.tJ hx) (by omega)
 ·rcases gU hc' with h1 | ⟨h1,h2⟩ <;> rcases gU hc'' with h3 | ⟨h3,h4⟩
  ·rw[hbl id c' h1]at hk;rw[hbl id' c'' h3]at hk';exact h.inj id c' id' c'' k h1 h3 hk hk'
  ·subst h3;subst h4
   rw[hb]at hk';cases hk';rw[hbl id c' h1]at hk;exact absurd (h.lD h1 hk) (by omega)
  ·subst h1;subst h2
   rw[hb]at hk;cases hk;rw[hbl id' c'' h3]at hk';exact absurd (h.lD h3 hk') (by omega)
  ·rw[h1,h3]
 ·simp only[List.length_append,List.length_cons,List.length_nil]at hi
  rw[Bk.kJ (by omega)];exact h.dom id u (by omega)
 ·have:=h.base;simp;omega
 ·rcases gU hc' with h1 | ⟨h1,h2⟩
  ·have:=h.ids id c' h1
   split at this
   ·rename_i hlt;rw[if_pos hlt];exact this
   ·rename_i hge;rw[if_neg hge];exact Chunk.dI (by simp) this
  ·subst h1;subst h2
   rw[if_neg (by have:=h.base;omega)];simpa using hu
 ·rintro k ⟨id,c',h1,h2⟩
  rcases gU h1 with h3 | ⟨h3,h4⟩
  ·rw[hbl id c' h3]at h2;exact .inl ⟨id,c',h3,h2⟩
  ·subst h3;subst h4;rw[hb]at h2;cases h2;exact .inr (Nat.le_refl _)
theorem WR.zEO(h:WR P G β Φ b H w)(es:Nat)(hes:0<es):
  WR P G β Φ b (H++[.row es [] true]) w∧Ext β Φ H w β Φ (H++[.row es [] true]) w:=by
 refine⟨⟨fun id c' hc'=>?_,h.fz,fun id c' k hc' hk=>?_,fun id c' id' c'' k hc' hc'' hk hk'=>?_,fun id u hi=>?_,?_,fun id c' hc'=>?_,h.glob⟩,
  ⟨More.refl _ _ _,by simp,rfl,rfl,rfl,Nat.le_refl _,fun k hk _=>rfl,?_,fun k o' hk=>.inl hk⟩⟩
 ·rcases gU hc' with h1 | ⟨h1,h2⟩
  ·exact h.ch id c' h1
  ·subst h1;subst h2
   exact⟨hes,rfl,fun v _=>h.dom _ v (Nat.le_refl _),by simp;exact h.dom _ 0 (Nat.le_refl _)⟩
 ·rcases gU hc' with h1 | ⟨h1,h2⟩
  ·exact h.apart id c' k h1 hk
  ·subst h2;simp[Chunk.blk]at hk
 ·rcases gU hc' with h1 | ⟨h1,h2⟩ <;> rcases gU hc'' with h3 | ⟨h3,h4⟩
  ·exact h.inj id c' id' c'' k h1 h3 hk hk'
  ·subst h4;simp[Chunk.blk]at hk'
  ·subst h2;simp[Chunk.blk]at hk
  ·rw[h1,h3]
 ·simp only[List.length_append,List.length_cons,List.length_nil]at hi
  exact h.dom id u (by omega)
 ·have:=h.base;simp;omega
 ·rcases gU hc' with h1 | ⟨h1,h2⟩
  ·have:=h.ids id c' h1
   split at this
   ·rename_i hlt;rw[if_pos hlt];exact this
   ·rename_i hge;rw[if_neg hge];exact Chunk.dI (by simp) this
  ·subst h2;simp[Chunk.aD,D.aD]
 ·rintro k ⟨id,c',h1,h2⟩
  rcases gU h1 with h3 | ⟨h3,h4⟩
  ·exact .inl ⟨id,c',h3,h2⟩
  ·subst h4;simp[Chunk.blk]at h2
structure Turn(w w':World)(k:Nat)(o:Obj):Prop where
 os:w'.os=w.os
 tape:w'.tape=w.tape
 output:w'.output=w.output
 size:w'.heap.size=w.heap.size
 here:w'.heap[k]? =some o
 other:∀i,i≠k->w'.heap[i]? =w.heap[i]?
theorem kG {α:Type}{l:List α}{x y:α}{i j:Nat}(h:(l.set j x)[i]? =some y):(i≠j∧l[i]? =some y)∨(i=j∧y=x∧j<l.length):=by
 rw[List.getElem?_set]at h;split at h
 ·rename_i e
  split at h
  ·right;simp at h;exact⟨e.symm,h.symm,by omega⟩
  ·cases h
 ·exact .inl ⟨fun e=>by simp_all,h⟩
theorem WR.turn(h:WR P G β Φ b H w){w':World}{id k:Nat}{o:Obj}{c c':Chunk}{β':Bk}(hc:H[id]? =some c)(hk:c.blk β id=some k)(ht:Turn w w' k o)
  (hold:∀i u,i≠id->β' i u=β i u) (hsome:∀u x,β id u=some x->β' id u=some x) (hnone:β id 0=none->β' id 0=none)
  (hc':uF P β' Φ w' id c') (hk':c'.blk β' id=some k) (hu:c'.aD (if id<b then b else H.length)):
  WR P G β' Φ b (H.set id c') w'∧Ext β Φ H w β' Φ (H.set id c') w':=by
 have hm:More H.length β Φ β' Φ :=by
  refine⟨fun i u x hi hx=>?_,fun i hi hx=>?_,fun _ _ h=>h⟩
  ·by_cases e:i=id
   ·subst e;exact hsome u x hx
   ·rw[hold i u e];exact hx
  ·by_cases e:i=id
   ·subst e;exact hnone hx
   ·rw[hold i 0 e];exact hx
 have hbl:∀i (x:Chunk),i≠id->H[i]? =some x->x.blk β' i=x.blk β i:=fun i x hi hx=>by cases x <;> simp[Chunk.blk,hold _ _ hi]
 refine⟨⟨fun i x hx=>?_,fun i o' hi=>?_,fun i x j hx hj=>?_,fun i x i' x' j hx hx' hj hj'=>?_,fun i u hi=>?_,?_,fun i x hx=>?_,h.glob⟩,
  ⟨hm,by simp,ht.os,ht.tape,ht.output,by rw[ht.size];omega,fun i hi hl=>?_,?_,fun k o' hk=>.inl hk⟩⟩
 ·rcases kG hx with⟨h1,h2⟩ | ⟨h1,h2,h3⟩
  ·refine(h.ch i x h2).more (h.aD h2) (gZ h2) hm (fun u=>hold i u h1) (fun j hj=>ht.other j (fun e=>?_))
   subst e;exact h1 (h.inj i x id c j h2 hc hj hk)
  ·subst h1;subst h2;exact hc'
 ·have:i≠k:=fun e=>by subst e;rw[h.apart id c i hc hk]at hi;cases hi
  rw[ht.other i this];exact h.fz i o' hi
 ·rcases kG hx with⟨h1,h2⟩ | ⟨h1,h2,h3⟩
  ·rw[hbl i x h1 h2]at hj;exact h.apart i x j h2 hj
  ·subst h1;subst h2;rw[hk']at hj;cases hj;exact h.apart i c k hc hk
 ·rcases kG hx with⟨h1,h2⟩ | ⟨h1,h2,h3⟩ <;> rcases kG hx' with⟨g1,g2⟩ | ⟨g1,g2,g3⟩
  ·rw[hbl i x h1 h2]at hj;rw[hbl i' x' g1 g2]at hj';exact h.inj i x i' x' j h2 g2 hj hj'
  ·subst g1;subst g2;rw[hk']at hj';cases hj';rw[hbl i x h1 h2]at hj;exact h.inj i x i' c k h2 hc hj hk
  ·subst h1;subst h2;rw[hk']at hj;cases hj;rw[hbl i' x' g1 g2]at hj';exact h.inj i c i' x' k hc g2 hk hj'
  ·rw[h1,g1]
 ·simp only[List.length_set]at hi
  rw[hold i u (by have:=gZ hc;omega)];exact h.dom i u hi
 ·simpa using h.base
 ·rcases kG hx with⟨h1,h2⟩ | ⟨h1,h2,h3⟩
  ·simpa using h.ids i x h2
  ·subst h1;subst h2;simpa using hu
 ·exact ht.other i (fun e=>hl ⟨id,c,hc,by rw[e];exact hk⟩)
 ·rintro j ⟨i,x,h1,h2⟩
  rcases kG h1 with⟨g1,g2⟩ | ⟨g1,g2,g3⟩
  ·rw[hbl i x g1 g2]at h2;exact .inl ⟨i,x,g2,h2⟩
  ·subst g1;subst g2;rw[hk']at h2;cases h2;exact .inl ⟨i,c,hc,hk⟩
theorem WR.move(h:WR P G β Φ b H w){w':World}{id:Nat}{o:Obj}{c c':Chunk}{v cap:Nat}(hc:H[id]? =some c)(hg:Grow w w' o)(hnew:β id v=none)(hv:v≠0)
  (hc':uF P (Bk.put β id v (w.heap.size,cap)) Φ w' id c') (hk':c'.blk (Bk.put β id v (w.heap.size,cap)) id=some w.heap.size) (hu:c'.aD (if id<b then b else H.length)):
  WR P G (Bk.put β id v (w.heap.size,cap)) Φ b (H.set id c') w'∧Ext β Φ H w (Bk.put β id v (w.heap.size,cap)) Φ (H.set id c') w':=by
 have hm:More H.length β Φ (Bk.put β id v (w.heap.size,cap)) Φ :=by
  refine⟨fun i u x hi hx=>?_,fun i hi hx=>?_,fun _ _ h=>h⟩
  ·unfold Bk.put
   split
   ·rename_i e;obtain⟨rfl,rfl⟩:=e;rw[hnew]at hx;cases hx
   ·exact hx
  ·unfold Bk.put
   rw[if_neg (by omega)];exact hx
 have hbl:∀i (x:Chunk),i≠id->H[i]? =some x->x.blk (Bk.put β id v (w.heap.size,cap)) i=x.blk β i:=fun i x hi hx=>by cases x <;> simp[Chunk.blk,Bk.kJ hi]
 refine⟨⟨fun i x hx=>?_,fun i o' hi=>?_,fun i x j hx hj=>?_,fun i x i' x' j hx hx' hj hj'=>?_,fun i u hi=>?_,?_,fun i x hx=>?_,h.glob⟩,
  ⟨hm,by simp,hg.os,hg.tape,hg.output,by rw[hg.size];omega,fun i hi hl=>hg.old hi,?_,fun k o' hk=>.inl hk⟩⟩
 ·rcases kG hx with⟨h1,h2⟩ | ⟨h1,h2,h3⟩
  ·exact(h.ch i x h2).more (h.aD h2) (gZ h2) hm (fun u=>Bk.kJ h1) (fun j hj=>hg.old (h.lD h2 hj))
  ·subst h1;subst h2;exact hc'
 ·rw[hg.old (h.tJ hi)];exact h.fz i o' hi
 ·rcases kG hx with⟨h1,h2⟩ | ⟨h1,h2,h3⟩
  ·rw[hbl i x h1 h2]at hj;exact h.apart i x j h2 hj
  ·subst h1;subst h2;rw[hk']at hj;cases hj
   cases hx: Φ w.heap.size with
   | none=>rfl
   | some x=>exact absurd (h.tJ hx) (by omega)
 ·rcases kG hx with⟨h1,h2⟩ | ⟨h1,h2,h3⟩ <;> rcases kG hx' with⟨g1,g2⟩ | ⟨g1,g2,g3⟩
  ·rw[hbl i x h1 h2]at hj;rw[hbl i' x' g1 g2]at hj';exact h.inj i x i' x' j h2 g2 hj hj'
  ·subst g1;subst g2;rw[hk']at hj';cases hj';rw[hbl i x h1 h2]at hj;exact absurd (h.lD h2 hj) (by omega)
  ·subst h1;subst h2;rw[hk']at hj;cases hj;rw[hbl i' x' g1 g2]at hj';exact absurd (h.lD g2 hj') (by omega)
  ·rw[h1,g1]
 ·simp only[List.length_set]at hi
  rw[Bk.kJ (by have:=gZ hc;omega)];exact h.dom i u hi
 ·simpa using h.base
 ·rcases kG hx with⟨h1,h2⟩ | ⟨h1,h2,h3⟩
  ·simpa using h.ids i x h2
  ·subst h1;subst h2;simpa using hu
 ·rintro j ⟨i,x,h1,h2⟩
  rcases kG h1 with⟨g1,g2⟩ | ⟨g1,g2,g3⟩
  ·rw[hbl i x g1 g2]at h2;exact .inl ⟨i,x,g2,h2⟩
  ·subst g1;subst g2;rw[hk']at h2;cases h2;exact .inr (Nat.le_refl _)
end
end Go.AM
