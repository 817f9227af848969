/- Walks. -/
import Derived.Test.YtbgdifdbgcgjnaaGreatDoorRules
import Derived.Test.YtbgdifdbgcgjnaaGreatDoorAmK
set_option linter.unusedVariables false
set_option linter.unusedSimpArgs false
set_option linter.unnecessarySimpa false
set_option maxRecDepth 100000
namespace Go.AM.T
section
variable {X:Ctx}
def In(H:aA)(p:Nat):Prop:=p<H.length
theorem In.of {H:aA}{p:Nat}{c:Chunk}(h:H[p]? =some c):In H p:=(List.getElem?_eq_some_iff.1 h).1
theorem In.set {H:aA}{p q:Nat}{c:Chunk}(h:In H p):In (H.set q c) p:=by unfold In at *;simpa using h
theorem Gz {H:aA}{p:Nat}{a b:Chunk}:(H.set p a).set p b=H.set p b:=List.set_set ..
theorem JN {H:aA}{p:Nat}{a:Chunk}(h:In H p):(H.set p a)[p]? =some a:=by rw[List.getElem?_set];simp[show p<H.length from h]
theorem BI {H l:aA}{p:Nat}{a:Chunk}:(H.set p a++l).take H.length=H.set p a:=by
 have:(H.set p a).length=H.length:=List.length_set;rw[List.take_append_of_le_length (by omega), ← this,List.take_length]
theorem RQ {H:aA}{p:Nat}{a:Chunk}:(H.set p a).take H.length=H.set p a:=by
 have:=BI (H:=H) (l:=[]) (p:=p) (a:=a)
 rwa [List.append_nil]at this
theorem JO {H l:aA}{p:Nat}(h:In H p):(H++l)[p]? =H[p]? :=List.getElem?_append_left h
theorem CM {H l:aA}{p:Nat}{b:Chunk}(h:In H p):(H++l).set p b=H.set p b++l:=List.set_append_left _ _ h
theorem dE {H:aA}{p:Nat}{b:Chunk}(h:H[p]? =some b):H.set p b=H:=by
 apply List.ext_getElem?;intro i;rw[List.getElem?_set];split
 ·rename_i e;subst e;split
  ·exact h.symm
  ·rename_i q;exact absurd (List.getElem?_eq_some_iff.1 h).1 q
 ·rfl
theorem zHq {H l:aA}{p:Nat}{a:Chunk}(h:In H p):(H.set p a++l)[p]? =some a:=by rw[JO h.set,JN h]
theorem WB {H l:aA}{p:Nat}{a b:Chunk}(h:In H p):(H.set p a++l).set p b=H.set p b++l:=by rw[CM h.set,Gz]
attribute [simp high] zHq WB
attribute [simp] Gz JN BI RQ JO CM In.set
end
section
variable {X:Ctx}
structure PS where
 l:List Token
 f:Nl
 at_:Nat
 end_:Int
 depth:Nat
 bad:Int
 place:Int
abbrev PS.box(s:PS):Chunk:=.box [SL s.f (Token.aC s.l) s.l.length,.int .i64 s.at_,.int .i64 s.end_,.int .i64 s.depth,.int .i64 s.bad,.int .i64 s.place]
theorem PS.Oa {l:List Token}{f:Nl}{a d:Nat}{e b p:Int}:PS.box ⟨l,f,a,e,d,b,p⟩=.box [SL f (Token.aC l) l.length,.int .i64 a,.int .i64 e,.int .i64 d,.int .i64 b,.int .i64 p]:=rfl
theorem Token.RE(x:Token)(r:List D):aJ false 1 (x.cells++r).tail=some (.str x.text):=by rw[Token.bF];simp[aJ]
attribute [simp] PS.Oa Token.RE
structure PS.ok(s:PS):Prop where
 at_:s.at_<=s.l.length
 len:s.l.length<=1000000
 dep:s.depth<=1000000
def PS.here(s:PS):Int:=if h:s.at_<s.l.length then s.l[s.at_].at_ else s.end_
theorem lJ(hX:CX X){G:aA}{p:Nat}{s:PS}(hp:G[p]? =some s.box)(ho:s.ok):cF X fR [.ptr p 0] G=some (.int .i64 s.here,G):=by
 refine zLH hX ?_;unfold PS.here;by_cases h:s.at_<s.l.length
 ·have h':(s.at_:Int)<s.l.length:=by omega
  simp[Dz,aB,hp,h,h',Token.dG h]
 ·have h':¬(s.at_:Int)<s.l.length:=by omega
  simp[Dz,aB,hp,h,h']
def PS.fail(s:PS)(e:Int):PS:=if s.bad=0 then { s with bad:=e,place:=s.here } else s
theorem E7(hX:CX X){G:aA}{p:Nat}{s:PS}(hp:G[p]? =some s.box)(ho:s.ok)(e:Int):cF X kZ [.ptr p 0,.int .i64 e] G=some (.tup [],G.set p (s.fail e).box):=by
 refine zLI hX ?_;have hi:=In.of hp;have hh:=lJ hX hp ho;unfold PS.fail;by_cases h:s.bad=0
 ·simp[Ea,aB,hp,h,hh,hi]
 ·simp[Ea,aB,hp,h,dE hp]
def PS.dD(s:PS):PS:=if s.at_<s.l.length then s.fail 33 else s.fail 8
theorem rF(hX:CX X){G:aA}{p:Nat}{s:PS}(hp:G[p]? =some s.box)(ho:s.ok):cF X iF [.ptr p 0] G=some (.tup [],G.set p s.dD.box):=by
 refine zLx hX ?_;have hf:=fun e=>E7 hX hp ho e
 unfold PS.dD;by_cases h:s.at_<s.l.length
 ·have h':¬(s.l.length:Int)<=s.at_:=by omega
  have h2:¬s.l.length<=s.at_:=by omega
  simp[Dl,aB,hp,h,h',h2,hf]
 ·have h':(s.l.length:Int)<=s.at_:=by omega
  have h2:s.l.length<=s.at_:=by omega
  simp[Dl,aB,hp,h,h',h2,hf]
def PS.is(s:PS)(k:Int)(t:Bs):Bool:=decide (s.bad=0) && (if h:s.at_<s.l.length then decide (s.l[s.at_].kind=k) && decide (s.l[s.at_].text=t)else false)
theorem X8(hX:CX X){G:aA}{p:Nat}{s:PS}(hp:G[p]? =some s.box)(ho:s.ok)(k:Int)(t:Bs):cF X pI [.ptr p 0,.int .i64 k,.str t] G=some (.bool (s.is k t),G):=by
 refine zLG hX ?_;unfold PS.is;by_cases hb:s.bad=0
 ·by_cases h:s.at_<s.l.length
  ·have h':(s.at_:Int)<s.l.length:=by omega
   by_cases hk:s.l[s.at_].kind=k
   ·simp[A7,aB,hp,hb,h,h',hk,Token.dG h]
   ·simp[A7,aB,hp,hb,h,h',hk,Token.dG h]
  ·have h':¬(s.at_:Int)<s.l.length:=by omega
   simp[A7,aB,hp,hb,h,h']
 ·simp[A7,aB,hp,hb]
def PS.next(s:PS):PS:= { s with at_:=s.at_+1 }
theorem PS.is_lt {s:PS}{k:Int}{t:Bs}(h:s.is k t=true):s.at_<s.l.length:=by
 unfold PS.is at h;rcases Nat.lt_or_ge s.at_ s.l.length with q | q
 ·exact q
 ·simp[show¬s.at_<s.l.length by omega]at h
theorem eQ(hX:CX X){G:aA}{p:Nat}{s:PS}(hp:G[p]? =some s.box)(ho:s.ok)(k:Int)(t:Bs):cF X bE [.ptr p 0,.int .i64 k,.str t] G=some (.bool (s.is k t),G.set p (if s.is k t then s.next else s).box):=by
 refine zLz hX ?_;have hi:=In.of hp;have hs:=X8 hX hp ho k t;by_cases h:s.is k t=true
 ·have w1:IntKind.i64.wrap ((s.at_:Int)+1)=(s.at_:Int)+1:=wrap_i64 (by omega) (by have:=ho.len;have:=ho.at_;omega)
  simp[Dn,aB,hp,hs,h,w1,hi,PS.next]
 ·simp at h
  simp[Dn,aB,hp,hs,h,dE hp]
def PS.want(s:PS)(k:Int)(t:Bs):PS:=if s.is k t then s.next else s.dD
theorem PS.zEN {s:PS}(h:s.ok)(hl:s.at_<s.l.length):s.next.ok:=⟨hl,h.len,h.dep⟩
theorem PS.zIA {s:PS}(h:s.ok)(e:Int):(s.fail e).ok:=by
 unfold PS.fail;split
 ·exact⟨h.at_,h.len,h.dep⟩
 ·exact h
theorem iY(hX:CX X){G:aA}{p:Nat}{s:PS}(hp:G[p]? =some s.box)(ho:s.ok)(k:Int)(t:Bs):cF X cN [.ptr p 0,.int .i64 k,.str t] G=some (.tup [],G.set p (s.want k t).box):=by
 refine zLy hX ?_;have hi:=In.of hp;have hs:=eQ hX hp ho k t;have hw:=rF hX hp ho;unfold PS.want;by_cases h:s.is k t=true
 ·simp[h]at hs
  simp[Dm,aB,hs,h,hi]
 ·simp at h
  simp[h,dE hp]at hs;simp[Dm,aB,hs,h,hw,hi]
def PS.kind(s:PS):Int:=if s.bad=0 then(if h:s.at_<s.l.length then s.l[s.at_].kind else 0)else 0
theorem kV(hX:CX X){G:aA}{p:Nat}{s:PS}(hp:G[p]? =some s.box)(ho:s.ok):cF X eI [.ptr p 0] G=some (.int .i64 s.kind,G):=by
 refine zLF hX ?_;unfold PS.kind;by_cases hb:s.bad=0
 ·by_cases h:s.at_<s.l.length
  ·have h':¬(s.l.length:Int)<=s.at_:=by omega
   have h2:¬s.l.length<=s.at_:=by omega
   have h3:(s.at_:Int)<s.l.length:=by omega
   simp[S4,aB,hp,hb,h,h',h2,h3,Token.dG h]
  ·have h':(s.l.length:Int)<=s.at_:=by omega
   have h2:s.l.length<=s.at_:=by omega
   simp[S4,aB,hp,hb,h,h',h2]
 ·simp[S4,aB,hp,hb]
theorem PS.K3 {s:PS}(h:s.kind≠0):s.at_<s.l.length:=by
 unfold PS.kind at h;rcases Nat.lt_or_ge s.at_ s.l.length with q | q
 ·exact q
 ·simp[show¬s.at_<s.l.length by omega]at h
def PS.text(s:PS)(k:Int):Bs:=if s.kind=k then(if h:s.at_<s.l.length then s.l[s.at_].text else [])else []
def PS.past(s:PS)(k:Int):PS:=if s.kind=k then s.next else s.dD
theorem mV(hX:CX X){G:aA}{p:Nat}{s:PS}(hp:G[p]? =some s.box)(ho:s.ok)(k:Int)(hk:k≠0):cF X fL [.ptr p 0,.int .i64 k] G=some (.str (s.text k),G.set p (s.past k).box):=by
 refine zLA hX ?_;have hi:=In.of hp;have hs:=kV hX hp ho;have hw:=rF hX hp ho;unfold PS.text PS.past;by_cases h:s.kind=k
 ·have hl:=PS.K3 (s:=s) (by omega)
  have w1:IntKind.i64.wrap ((s.at_:Int)+1)=(s.at_:Int)+1:=wrap_i64 (by omega) (by have:=ho.len;omega);have w2:IntKind.i64.wrap (s.at_:Int)=(s.at_:Int):=wrap_i64 (by omega) (by have:=ho.len;omega);have h3:(s.at_:Int)<s.l.length:=by omega
  simp[Dp,aB,hp,hs,h,hl,h3,w1,w2,hi,PS.next,Token.dG hl]
 ·simp[Dp,aB,hs,h,hw,hi]
def PS.deep(s:PS):PS:=let t:=if s.bad=0∧s.depth=200 then(if s.at_<s.l.length then s.fail 42 else s.fail 8)else s; { t with depth:=s.depth+1 }
theorem X9(hX:CX X){G:aA}{p:Nat}{s:PS}(hp:G[p]? =some s.box)(ho:s.ok):cF X pJ [.ptr p 0] G=some (.bool (decide (s.deep.bad=0)),G.set p s.deep.box):=by
 refine zLJ hX ?_;have hi:=In.of hp;have hf:=fun e=>E7 hX hp ho e
 have w1:IntKind.i64.wrap ((s.depth:Int)+1)=(s.depth:Int)+1:=wrap_i64 (by omega) (by have:=ho.dep;omega);have w2:IntKind.i64.wrap 201=201:=rfl;unfold PS.deep;by_cases hb:s.bad=0
 ·by_cases hd:s.depth=200
  ·have hd':(s.depth:Int)=200:=by omega
   by_cases h:s.at_<s.l.length
   ·have h3:(s.at_:Int)<s.l.length:=by omega
    simp[A8,aB,hp,hb,hd,hd',h,h3,hf,hi,w2,PS.fail]
   ·have h3:¬(s.at_:Int)<s.l.length:=by omega
    simp[A8,aB,hp,hb,hd,hd',h,h3,hf,hi,w2,PS.fail]
  ·have hd':¬(s.depth:Int)=200:=by omega
   simp[A8,aB,hp,hb,hd,hd',hi,w1]
 ·simp[A8,aB,hp,hb,hi,w1]
end
end Go.AM.T
namespace Go.AM
mutual
def VW:Val->Nat
 | .mk _ _ _ _ l _ _=>min (rE 1 l) 1048576
def rE:Nat->List Val->Nat
 | n,[]=>n
 | n,v::r=>if 1048576<=n then n else rE (n+VW v) r
end
def Hy(a b:Int):Int:=if a≠0 then a else b
def cont(b:UInt8):Bool:=decide (0x80<=b.toNat∧b.toNat<=0xBF)
def cL:Bs->Nat
 | []=>0
 | a::r=>
  if a.toNat<0x80 then 1 else if a.toNat<0xC2 then 0 else
  if a.toNat<0xE0 then(match r with | b::_=>if cont b then 2 else 0 | _=>0)else
  if a.toNat<0xF0 then(match r with | b::c::_=>if(if a.toNat=0xE0 then decide (0xA0<=b.toNat∧b.toNat<=0xBF)else if a.toNat=0xED then decide (0x80<=b.toNat∧b.toNat<=0x9F)else cont b) && cont c then 3 else 0 | _=>0)else
  if a.toNat<0xF5 then(match r with | b::c::d::_=>if(if a.toNat=0xF0 then decide (0x90<=b.toNat∧b.toNat<=0xBF)else if a.toNat=0xF4 then decide (0x80<=b.toNat∧b.toNat<=0x8F)else cont b) && (cont c && cont d)then 4 else 0 | _=>0)else 0
theorem Ax(s:Bs):cL s<=s.length:=by
 unfold cL
 repeat' split
 all_goals simp
 all_goals (try split) <;> omega
def iH(s:Bs):Nat:=
 if h:cL s=0 then 0 else cL s+iH (s.drop (cL s))
termination_by s.length
decreasing_by have:=Ax s;simp only[List.length_drop];omega
def sM(s:Bs):Bool:=decide (iH s=s.length)
def cG:List Int->Nat
 | []=>0
 | x::r=>x.toNat+4294967296*cG r
def eS(n:Nat):Nat:=if h:n=0 then 0 else eS (n / 10)+1
def lM(l:List Int):Int:=if l.length>256 then 5 else if l.getLast?=some 0 then 9 else 0
def Ml(d:Dec):Int:=
 if lM d.coef≠0∨d.coef.length>40 then 9 else
 if d.coef=[]then(if d.neg=true∨d.exp≠0 then 9 else 0)else
 if cG d.coef % 10=0∨eS (cG d.coef)>300∨d.exp < -1000∨d.exp>1000 then 9 else 0
def Dec.wf(d:Dec):Prop:=(∀x∈d.coef,0<=x∧x<4294967296)∧(d.coef.length:Int)<=9223372036854775807
mutual
def Val.wf:Val->Prop
 | .mk k num t lf l kf ks=>num.wf∧(t.length:Int)<=9223372036854775807∧(l.length:Int)<=9223372036854775807∧(ks.length:Int)<=9223372036854775807∧(∀s∈ks,(s.length:Int)<=9223372036854775807)∧Val.wfL l
def Val.wfL:List Val->Prop
 | []=>True
 | v::r=>v.wf∧Val.wfL r
end
end Go.AM
namespace Go.AM.T
section
variable {X:Ctx}
structure TokOk(m:Int)(t:Token):Prop where
 text:t.text.length<=1000000
 num:t.num.wf
 lo:0<=t.at_
 hi:t.at_<=m
mutual
def pw:Pat->Nat
 | .mk _ _ _ ks _ ps=>1+ks.length+bV ps
def bV:List Pat->Nat
 | []=>0
 | p::r=>pw p+bV r
end
theorem uZ:∀(a b:List Pat),bV (a++b)=bV a+bV b
 | [],b=>by simp[bV]
 | x::r,b=>by simp[bV,uZ r b];omega
theorem oZ:∀l:List Pat,l.length<=bV l
 | []=>by simp[bV]
 | .mk _ _ _ _ _ _::r=>by have:=oZ r;simp[bV,pw];omega
theorem F3(p:Pat):bV [p]=pw p:=by simp[bV]
mutual
def aL(m:Int):Expr->Prop
 | .mk _ n t d _ ks _ ps _ ds a=>n.length<=1000000∧t.length<=1000000000000∧d.wf∧ks.length<=2000000∧uD m ks∧bV ps<=4000000∧mG m ps∧ds.length<=2000000∧C1 m ds∧0<=a∧a<=m
def uD(m:Int):List Expr->Prop
 | []=>True
 | e::r=>aL m e∧uD m r
def fC(m:Int):Pat->Prop
 | .mk _ n _ ks _ ps=>n.length<=1000000∧ks.length<=2000000∧uD m ks∧ps.length<=2000000∧mG m ps
def mG(m:Int):List Pat->Prop
 | []=>True
 | p::r=>fC m p∧mG m r
def uE(m:Int):Def->Prop
 | .mk n _ l b=>n.length<=1000000∧l.length<=2000000∧(∀s∈l,s.length<=2000000)∧aL m b
def C1(m:Int):List Def->Prop
 | []=>True
 | d::r=>uE m d∧C1 m r
end
theorem Fi {m:Int}:∀ {l:List Expr},uD m l↔∀e∈l,aL m e
 | []=>by simp[uD]
 | e::r=>by simp[uD,Fi (l:=r)]
theorem B9 {m:Int}:∀ {l:List Pat},mG m l↔∀e∈l,fC m e
 | []=>by simp[mG]
 | e::r=>by simp[mG,B9 (l:=r)]
theorem PG {m:Int}:∀ {l:List Def},C1 m l↔∀e∈l,uE m e
 | []=>by simp[C1]
 | e::r=>by simp[C1,PG (l:=r)]
theorem mJ {m:Int}{e:Expr}:aL m e↔e.name.length<=1000000∧e.text.length<=1000000000000∧e.num.wf∧e.kids.length<=2000000∧(∀x∈e.kids,aL m x)∧bV e.pats<=4000000∧(∀x∈e.pats,fC m x)∧e.defs.length<=2000000∧(∀x∈e.defs,uE m x)∧0<=e.at_∧e.at_<=m:=by
 cases e;rw[aL,Fi,B9,PG];rfl
def dN:Dec:=.mk false .nil [] 0
theorem rW:dN.wf:=by unfold Dec.wf;simp[dN,Dec.coef]
def eK(k:Int)(n t:Bs)(f:Nl)(ks:List Expr)(a:Int):Expr:=.mk k n t dN f ks .nil [] .nil [] a
theorem cK {m k a:Int}{n t:Bs}{f:Nl}{ks:List Expr}(hn:n.length<=1000000)(ht:t.length<=1000000000000)(hk:ks.length<=2000000)(h:∀x∈ks,aL m x)(h0:0<=a)(h1:a<=m):aL m (eK k n t f ks a):=
 mJ.2 ⟨hn,ht,rW,hk,h,by simp[eK,Expr.pats,bV],by simp[eK,Expr.pats],by simp[eK,Expr.defs],by simp[eK,Expr.defs],h0,h1⟩
def e0:Expr:=eK 0 [] [] .nil [] 0
theorem hU {m:Int}(h:0<=m):aL m e0:=cK (by decide) (by decide) (by decide) (by simp) (by decide) h
structure PS.good(s:PS):Prop where
 ok:s.ok
 toks:∀t∈s.l,TokOk s.end_ t
 e0:0<=s.end_
 d:s.depth<=201
structure PS.to(s s':PS):Prop where
 l:s'.l=s.l
 e:s'.end_=s.end_
 at_:s.at_<=s'.at_
 dep:s'.depth=s.depth
 good:s'.good
theorem PS.to.refl {s:PS}(h:s.good):s.to s:=⟨rfl,rfl,Nat.le_refl _,rfl,h⟩
theorem PS.to.trans {s t u:PS}(h:s.to t)(g:t.to u):s.to u:=⟨g.l.trans h.l,g.e.trans h.e,Nat.le_trans h.at_ g.at_,g.dep.trans h.dep,g.good⟩
theorem PS.pN {s:PS}(h:s.good):0<=s.here∧s.here<=s.end_:=by
 unfold PS.here;split
 ·exact⟨(h.toks _ (by simp)).lo,(h.toks _ (by simp)).hi⟩
 ·exact⟨h.e0,Int.le_refl _⟩
theorem PS.iI {s:PS}(h:s.good)(e:Int):s.to (s.fail e):=by
 have hk:=PS.zIA h.ok e;unfold PS.fail at *;split
 ·rename_i hb
  rw[if_pos hb]at hk;exact⟨rfl,rfl,Nat.le_refl _,rfl,hk,h.toks,h.e0,h.d⟩
 ·exact PS.to.refl h
theorem PS.mT {s:PS}(h:s.good):s.to s.dD:=by
 unfold PS.dD;split <;> exact PS.iI h _
theorem PS.cC {s:PS}(h:s.good)(hl:s.at_<s.l.length):s.to s.next:=⟨rfl,rfl,Nat.le_succ _,rfl,PS.zEN h.ok hl,h.toks,h.e0,h.d⟩
theorem PS.dO {s:PS}(h:s.good)(k:Int)(t:Bs):s.to (s.want k t):=by
 unfold PS.want;split
 ·rename_i q;exact PS.cC h (PS.is_lt q)
 ·exact PS.mT h
theorem PS.jH {s:PS}(h:s.good){k:Int}(hk:k≠0):s.to (s.past k):=by
 unfold PS.past;split
 ·rename_i q;exact PS.cC h (PS.K3 (by omega))
 ·exact PS.mT h
theorem PS.jU {s:PS}(h:s.good)(k:Int):(s.text k).length<=1000000:=by
 unfold PS.text;split
 ·split
  ·exact(h.toks _ (by simp)).text
  ·simp
 ·simp
def bB(X:Ctx)(f:Nat)(args:List D)(s:PS):Prop:=∃(e:Expr) (s':PS),aL s.end_ e∧s.to s'∧∀(G:aA) (p:Nat),G[p]? =some s.box->cF X f (.ptr p 0::args) G=some (.agg e.cells,G.set p s'.box)
def uB(X:Ctx)(s:PS):Prop:=∃(e:Pat) (s':PS),(fC s.end_ e∧pw e+3*s.at_<=3*s'.at_+1)∧s.to s'∧∀(G:aA) (p:Nat),G[p]? =some s.box->cF X tA [.ptr p 0] G=some (.agg e.cells,G.set p s'.box)
theorem YJ(hX:CX X)(H:aA)(t:Bs):∃b:Bool,∀H,cF X Kf [.str t] H=some (.bool b,H):=by
 obtain⟨l,hle⟩:∃l:List (Bs),l=[[100,101,102],[105,102],[116,104,101,110],[101,108,105,102],[101,108,115,101],[101,110,100],[97,115],[116,114,121],[99,97,116,99,104],[114,101,100,117,99,101],[102,111,114,101,97,99,104],[108,97,98,101,108],[98,114,101,97,107],[111,114],[97,110,100]]:=⟨_,rfl⟩;refine⟨decide (t∈l),fun H=>?_⟩;refine zLO hX ?_;have hl:l.length=15:=by rw[hle];rfl
 have hd:(l.map D.str)=[.str [100,101,102],.str [105,102],.str [116,104,101,110],.str [101,108,105,102],.str [101,108,115,101],.str [101,110,100],.str [97,115],.str [116,114,121],.str [99,97,116,99,104],.str [114,101,100,117,99,101],.str [102,111,114,101,97,99,104],.str [108,97,98,101,108],.str [98,114,101,97,107],.str [111,114],.str [97,110,100]]:=by rw[hle];rfl
 simp[Ww,z21];refine cH (fun(k:Nat) e H'=>H'=H∧k<=l.length∧e.get 0=.str t∧e.get 3=SL .full (l.map D.str) l.length∧e.get 4=.int .i64 k∧(t∈l↔t∈l.drop k)) (fun k=>l.length-k) ?_ 0 (by rw[hd,hl];simp[SL]);have hb:l.length<=100:=by rw[hl];decide
 clear hd hle hl;rintro k e H' ⟨rfl,hk,g0,g3,g4,hc⟩ L ih;have w1:IntKind.i64.wrap ((k:Int)+1)=(k:Int)+1:=wI;by_cases h:k<l.length
 ·have h':(k:Int)<l.length:=by omega
  have hl1:aJ false 1 (List.drop k (l.map D.str))=some (.str l[k]):=by rw[List.drop_eq_getElem_cons (by simpa using h)];simp[aJ]
  by_cases q:l[k]=t
  ·have:t∈l:=q ▸ List.getElem_mem h
   simp[Ek,aB,g0,g3,g4,h,h',hl1,q,this]
  ·rw[List.drop_eq_getElem_cons h,List.mem_cons]at hc
   simp[Ek,g0,g3,g4,h,h',hl1,q,w1];refine ih (k+1) _ _ (by omega) ?_;simp[g0,g3];exact⟨by omega,hc.trans ⟨fun x=>x.resolve_left fun y=>q y.symm,.inr⟩⟩
 ·obtain rfl:k=l.length:=by omega
  simp at hc;simp[Ek,aB,g0,g3,g4,hc]
end
section
variable {X:Ctx}
theorem aW(a b c d e f g h i j:D):aJ true 10 [a,b,c,d,e,f,g,h,i,j]=some (.agg [a,b,c,d,e,f,g,h,i,j]):=rfl
theorem jO(a b c d:D):aJ true 4 [a,b,c,d]=some (.agg [a,b,c,d]):=rfl
theorem uX(hX:CX X)(op:Bs)(a b:Expr)(H:aA):cF X rK [.str op,.agg a.cells,.agg b.cells] H=some (.agg (eK 29 op [] .full [a,b] a.at_).cells,H):=by
 refine zLM hX ?_;have hz:∀l:List D,l.length=10->List.drop 20 (a.cells++l)=[]:=fun l h=>List.drop_eq_nil_of_le (by simp[Expr.aK,h])
 simp[Ws,aB,z0,z2,eK,Expr.cells,dN,Dec.cells,Expr.aC,hz,D.cS,D.cW,aH,aW,SL,Pat.aC,Def.aC]
theorem wQ {m:Int}{op:Bs}{a b:Expr}(ho:op.length<=1000000)(ha:aL m a)(hb:aL m b):aL m (eK 29 op [] .full [a,b] a.at_):=
 cK ho (by decide) (by simp) (by intro x hx;simp at hx;rcases hx with rfl | rfl <;> assumption) (mJ.1 ha).2.2.2.2.2.2.2.2.2.1 (mJ.1 ha).2.2.2.2.2.2.2.2.2.2
def PS.sign(s:PS)(l:List (Bs)):Bs:=(l.find? fun t=>s.is 4 t).getD []
def PS.signed(s:PS)(l:List (Bs)):PS:=if(l.find? fun t=>s.is 4 t).isSome then s.next else s
theorem PS.V7 {s:PS}{l:List (Bs)}(h:s.sign l≠ []):s.sign l∈l∧s.at_<s.l.length∧s.signed l=s.next:=by
 unfold PS.sign PS.signed at *
 cases hf:l.find? fun t=>s.is 4 t with
 | none=>rw[hf]at h;exact absurd rfl h
 | some t=>
  have h1:=List.find?_some hf;exact⟨List.mem_of_find?_eq_some hf,PS.is_lt h1,by simp⟩
theorem PS.V6 {s:PS}{l:List (Bs)}(h0: []∉l)(h:s.sign l=[]):s.signed l=s:=by
 unfold PS.sign PS.signed at *
 cases hf:l.find? fun t=>s.is 4 t with
 | none=>simp
 | some t=>
  rw[hf]at h;have:=List.mem_of_find?_eq_some hf;simp at h;exact absurd (h ▸ this) h0
theorem zIh {α:Type}{q:α->Bool}{l:List α}{k:Nat}(h:k<l.length):(l.drop k).find? q=if q l[k]then some l[k]else(l.drop (k+1)).find? q:=by
 rw[List.drop_eq_getElem_cons h,List.find?_cons]
 cases q l[k] <;> simp
theorem X7(hX:CX X){G:aA}{p:Nat}{s:PS}(hp:G[p]? =some s.box)(ho:s.ok)(l:List (Bs))(hl:l.length<=100):cF X pG [.ptr p 0,.fsl (l.map D.str) l.length] G=some (.str (s.sign l),G.set p (s.signed l).box):=by
 refine zLC hX ?_;have hi:=In.of hp;have ht:=fun t=>eQ hX hp ho 4 t
 simp[Vf];refine cH (fun(k:Nat) e H'=>H'=G∧k<=l.length∧e.get 0=.ptr p 0∧e.get 1=.fsl (l.map D.str) l.length∧e.get 5=.int .i64 k∧(l.find? fun t=>s.is 4 t)=((l.drop k).find? fun t=>s.is 4 t)) (fun k=>l.length-k) ?_ 0 (by simp);rintro k e H' ⟨rfl,hk,g0,g1,g5,hc⟩ L ih;have w1:IntKind.i64.wrap ((k:Int)+1)=(k:Int)+1:=wI;by_cases h:k<l.length
 ·have h':(k:Int)<l.length:=by omega
  have hl1:aJ false 1 (List.drop k (l.map D.str))=some (.str l[k]):=by rw[List.drop_eq_getElem_cons (by simpa using h)];simp[aJ]
  rw[zIh h]at hc;have htk:=ht l[k];by_cases q:s.is 4 l[k]=true
  ·simp only[q,if_true]at hc htk
   simp[Ds,aB,g0,g1,g5,h,h',hl1,htk,PS.sign,PS.signed,hc,hi]
  ·simp only[q,if_false,dE hp,Bool.false_eq_true]at hc htk
   simp[Ds,g0,g1,g5,h,h',hl1,htk,w1];refine ih (k+1) _ _ (by omega) ?_;simp[g0,g1,w1];exact⟨by omega,hc⟩
 ·obtain rfl:k=l.length:=by omega
  simp at hc;have hn:(l.find? fun t=>s.is 4 t)=none:=by rw[List.find?_eq_none];simpa using hc
  simp[Ds,aB,g0,g1,g5,PS.sign,PS.signed,hn,dE hp]
end
section
variable {X:Ctx}
theorem Expr.zJe(x:Expr):x.cells.drop 10=[]:=List.drop_eq_nil_of_le (by simp[Expr.aK])
attribute [simp] Expr.zJe
theorem bA {X:Ctx}{b:Nat}{rnd:Option Nat}{p:ACode}{K:List Fr}{s:St}{Q:Ex->St->Prop}(h:∀L,L=p->YS X b rnd p (.lp L::K) s Q):YS X b rnd (.loop p) K s Q:=by rw[eT];exact h p rfl
theorem ZK(hX:CX X){D:Nat}(hs:∀s:PS,s.good->s.depth=D->bB X rJ [] s):∀(n:Nat) (t:PS) (e:Expr),t.good->t.depth=D->aL t.end_ e->t.l.length-t.at_<=n->∃e' t',aL t.end_ e'∧t.to t'∧∀(G:aA) (p:Nat) (env:Env),In G p->env.get 0=.ptr p 0->env.get 2=.ptr G.length 0->env.get 3=.ptr (G.length+1) 0->YS X G.length none (.loop Du) [Fr.blk 0] ⟨env,G.set p t.box++[.box e0.cells,.box e.cells],[]⟩ (fO [.cell 2 true 10] none G.length (.agg e'.cells,G.set p t'.box)):=by
 intro n
 induction n using Nat.strongRecOn with
 | ind n ih=>
  intro t e ht hd he hn;have hsg:∀(H:aA) (p:Nat),H[p]? =some t.box->cF X pG [.ptr p 0,.fsl [.str [42],.str [47],.str [37]] 3] H=some (.str (t.sign [[42],[47],[37]]),H.set p (t.signed [[42],[47],[37]]).box):=fun H p hp=>X7 hX hp ht.ok [[42],[47],[37]] (by decide)
  by_cases hop:t.sign [[42],[47],[37]]=[]
  ·refine⟨e,t,he,PS.to.refl ht,fun G p env hi g0 g2 g3=>?_⟩
   rw[PS.V6 (by decide) hop,hop]at hsg;rw[eT];simp[Du,aB,g0,g2,g3,hi,hsg,z24,aH]
  ·obtain⟨hm,hl,hsd⟩:=PS.V7 hop
   rw[hsd]at hsg;have h1:=PS.cC ht hl;obtain⟨e2,t2,he2,ht2,hc2⟩:=hs t.next h1.good (h1.dep.trans hd);have hlo:(t.sign [[42],[47],[37]]).length<=1000000:=by
    simp at hm;rcases hm with h | h | h <;> rw[h] <;> decide
   have hlt:t2.l.length-t2.at_<n:=by
    have q1:t2.l.length=t.l.length:=by rw[ht2.l];rfl
    have q2:t.at_+1<=t2.at_:=ht2.at_;omega
   obtain⟨e',t',he',ht',hgo⟩:=ih (t2.l.length-t2.at_) hlt t2 (eK 29 (t.sign [[42],[47],[37]]) [] .full [e,e2] e.at_) ht2.good (by rw[ht2.dep,h1.dep,hd]) (by rw[ht2.e];exact wQ hlo (by rw[h1.e];exact he) he2) (Nat.le_refl _);refine⟨e',t',by rw[← h1.e, ← ht2.e];exact he',(h1.trans ht2).trans ht',fun G p env hi g0 g2 g3=>?_⟩;have hb:=fun H=>uX hX (t.sign [[42],[47],[37]]) e e2 H
   refine bA fun L hL=>?_
   generalize t.sign [[42],[47],[37]]=op at *;simp[Du,g0,g2,g3,hi,hsg,z24,hop,hc2,hb,aH,aQ,aR,aS,aT,aO,aP, -aN];rw[hL];refine hgo G p _ hi ?_ ?_ ?_ <;> simp[g0,g2,g3]
theorem bP:e0.cells=[.int .i64 0,.str [],.str [],.bool false,.nilsl,.int .i64 0,.nilsl,.nilsl,.nilsl,.int .i64 0]:=by simp[e0,eK,dN,Expr.cells,Dec.cells,SL]
theorem zFO(hX:CX X){D:Nat}(hs:∀s:PS,s.good->s.depth=D->bB X rJ [] s):∀s:PS,s.good->s.depth=D->bB X yN [] s:=by
 intro s hg hd;obtain⟨e1,s1,he1,ht1,hc1⟩:=hs s hg hd;obtain⟨e',t',he',ht',hgo⟩:=ZK hX hs _ s1 e1 ht1.good (by rw[ht1.dep,hd]) (by rw[ht1.e];exact he1) (Nat.le_refl _);refine⟨e',t',by rw[← ht1.e];exact he',ht1.trans ht',fun G p hp=>?_⟩;refine zLD hX ?_;have hi:=In.of hp;have hz:z0=e0.cells:=by rw[bP];rfl
 simp[Vk,hp,hi,hc1,hz,aH];refine hgo G p _ hi ?_ ?_ ?_ <;> simp
end
section
variable {X:Ctx}
theorem SV(hX:CX X){D:Nat}(hs:∀s:PS,s.good->s.depth=D->bB X yN [] s):∀(n:Nat) (t:PS) (e:Expr),t.good->t.depth=D->aL t.end_ e->t.l.length-t.at_<=n->∃e' t',aL t.end_ e'∧t.to t'∧∀(G:aA) (p:Nat) (env:Env),In G p->env.get 0=.ptr p 0->env.get 2=.ptr G.length 0->env.get 3=.ptr (G.length+1) 0->YS X G.length none (.loop Dq) [Fr.blk 0] ⟨env,G.set p t.box++[.box e0.cells,.box e.cells],[]⟩ (fO [.cell 2 true 10] none G.length (.agg e'.cells,G.set p t'.box)):=by
 intro n
 induction n using Nat.strongRecOn with
 | ind n ih=>
  intro t e ht hd he hn;have hsg:∀(H:aA) (p:Nat),H[p]? =some t.box->cF X pG [.ptr p 0,.fsl [.str [43],.str [45]] 2] H=some (.str (t.sign [[43],[45]]),H.set p (t.signed [[43],[45]]).box):=fun H p hp=>X7 hX hp ht.ok [[43],[45]] (by decide)
  by_cases hop:t.sign [[43],[45]]=[]
  ·refine⟨e,t,he,PS.to.refl ht,fun G p env hi g0 g2 g3=>?_⟩
   rw[PS.V6 (by decide) hop,hop]at hsg;rw[eT];simp[Dq,aB,g0,g2,g3,hi,hsg,z4,aH]
  ·obtain⟨hm,hl,hsd⟩:=PS.V7 hop
   rw[hsd]at hsg;have h1:=PS.cC ht hl;obtain⟨e2,t2,he2,ht2,hc2⟩:=hs t.next h1.good (h1.dep.trans hd);have hlo:(t.sign [[43],[45]]).length<=1000000:=by
    simp at hm;rcases hm with h | h <;> rw[h] <;> decide
   have hlt:t2.l.length-t2.at_<n:=by
    have q1:t2.l.length=t.l.length:=by rw[ht2.l];rfl
    have q2:t.at_+1<=t2.at_:=ht2.at_;omega
   obtain⟨e',t',he',ht',hgo⟩:=ih (t2.l.length-t2.at_) hlt t2 (eK 29 (t.sign [[43],[45]]) [] .full [e,e2] e.at_) ht2.good (by rw[ht2.dep,h1.dep,hd]) (by rw[ht2.e];exact wQ hlo (by rw[h1.e];exact he) he2) (Nat.le_refl _);refine⟨e',t',by rw[← h1.e, ← ht2.e];exact he',(h1.trans ht2).trans ht',fun G p env hi g0 g2 g3=>?_⟩;have hb:=fun H=>uX hX (t.sign [[43],[45]]) e e2 H
   refine bA fun L hL=>?_
   generalize t.sign [[43],[45]]=op at *;simp[Dq,g0,g2,g3,hi,hsg,z4,hop,hc2,hb,aH,aQ,aR,aS,aT,aO,aP, -aN];rw[hL];refine hgo G p _ hi ?_ ?_ ?_ <;> simp[g0,g2,g3]
theorem zFJ(hX:CX X){D:Nat}(hs:∀s:PS,s.good->s.depth=D->bB X yN [] s):∀s:PS,s.good->s.depth=D->bB X H7 [] s:=by
 intro s hg hd;obtain⟨e1,s1,he1,ht1,hc1⟩:=hs s hg hd;obtain⟨e',t',he',ht',hgo⟩:=SV hX hs _ s1 e1 ht1.good (by rw[ht1.dep,hd]) (by rw[ht1.e];exact he1) (Nat.le_refl _);refine⟨e',t',by rw[← ht1.e];exact he',ht1.trans ht',fun G p hp=>?_⟩;refine zLB hX ?_;have hi:=In.of hp;have hz:z0=e0.cells:=by rw[bP];rfl
 simp[Vb,hp,hi,hc1,hz,aH];refine hgo G p _ hi ?_ ?_ ?_ <;> simp
theorem zFX(hX:CX X){D:Nat}(hs:∀s:PS,s.good->s.depth=D->bB X H7 [] s):∀s:PS,s.good->s.depth=D->bB X yP [] s:=by
 intro s hg hd;obtain⟨e,t,he,ht,hc⟩:=hs s hg hd;have hsg:∀(H:aA) (p:Nat),H[p]? =some t.box->cF X pG [.ptr p 0,.fsl [.str [61,61],.str [33,61],.str [60,61],.str [62,61],.str [60],.str [62]] 6] H=some (.str (t.sign [[61,61],[33,61],[60,61],[62,61],[60],[62]]),H.set p (t.signed [[61,61],[33,61],[60,61],[62,61],[60],[62]]).box):=fun H p hp=>X7 hX hp ht.good.ok [[61,61],[33,61],[60,61],[62,61],[60],[62]] (by decide)
 have hz:z0=e0.cells:=by rw[bP];rfl
 by_cases hop:t.sign [[61,61],[33,61],[60,61],[62,61],[60],[62]]=[]
 ·refine⟨e,t,he,ht,fun G p hp=>?_⟩
  refine NA hX ?_;have hi:=In.of hp;rw[PS.V6 (by decide) hop,hop]at hsg;simp[Ec,aB,hp,hi,hc,hsg,hz,Fm,aH]
 ·obtain⟨hm,hl,hsd⟩:=PS.V7 hop
  rw[hsd]at hsg;have h1:=PS.cC ht.good hl;obtain⟨e2,t2,he2,ht2,hc2⟩:=hs t.next h1.good (by rw[h1.dep,ht.dep,hd]);have hlo:(t.sign [[61,61],[33,61],[60,61],[62,61],[60],[62]]).length<=1000000:=by
   simp at hm;rcases hm with h | h | h | h | h | h <;> rw[h] <;> decide
  refine⟨eK 29 (t.sign [[61,61],[33,61],[60,61],[62,61],[60],[62]]) [] .full [e,e2] e.at_,t2,wQ hlo he (by rw[← ht.e, ← h1.e];exact he2),(ht.trans h1).trans ht2,fun G p hp=>?_⟩;have hb:=fun H=>uX hX (t.sign [[61,61],[33,61],[60,61],[62,61],[60],[62]]) e e2 H
  refine NA hX ?_;have hi:=In.of hp;generalize t.sign [[61,61],[33,61],[60,61],[62,61],[60],[62]]=op at *;simp[Ec,aB,hp,hi,hc,hsg,hop,hc2,hb,hz,Fm,aH,aQ,aR,aS,aT,aO,aP, -aN]
theorem zF2(hX:CX X){D:Nat}(hs:∀s:PS,s.good->s.depth=D->bB X H8 [] s):∀s:PS,s.good->s.depth=D->bB X yS [] s:=by
 intro s hg hd;obtain⟨e,t,he,ht,hc⟩:=hs s hg hd;have hsg:∀(H:aA) (p:Nat),H[p]? =some t.box->cF X pG [.ptr p 0,.fsl [.str [61],.str [124,61],.str [43,61],.str [45,61],.str [42,61],.str [47,61],.str [37,61],.str [47,47,61]] 8] H=some (.str (t.sign [[61],[124,61],[43,61],[45,61],[42,61],[47,61],[37,61],[47,47,61]]),H.set p (t.signed [[61],[124,61],[43,61],[45,61],[42,61],[47,61],[37,61],[47,47,61]]).box):=fun H p hp=>X7 hX hp ht.good.ok [[61],[124,61],[43,61],[45,61],[42,61],[47,61],[37,61],[47,47,61]] (by decide)
 have hz:z0=e0.cells:=by rw[bP];rfl
 by_cases hop:t.sign [[61],[124,61],[43,61],[45,61],[42,61],[47,61],[37,61],[47,47,61]]=[]
 ·refine⟨e,t,he,ht,fun G p hp=>?_⟩
  refine NC hX ?_;have hi:=In.of hp;rw[PS.V6 (by decide) hop,hop]at hsg;simp[Ef,aB,hp,hi,hc,hsg,hz,Fo,aH]
 ·obtain⟨hm,hl,hsd⟩:=PS.V7 hop
  rw[hsd]at hsg;have h1:=PS.cC ht.good hl;obtain⟨e2,t2,he2,ht2,hc2⟩:=hs t.next h1.good (by rw[h1.dep,ht.dep,hd]);have hlo:(t.sign [[61],[124,61],[43,61],[45,61],[42,61],[47,61],[37,61],[47,47,61]]).length<=1000000:=by
   simp at hm;rcases hm with h | h | h | h | h | h | h | h <;> rw[h] <;> decide
  refine⟨eK 29 (t.sign [[61],[124,61],[43,61],[45,61],[42,61],[47,61],[37,61],[47,47,61]]) [] .full [e,e2] e.at_,t2,wQ hlo he (by rw[← ht.e, ← h1.e];exact he2),(ht.trans h1).trans ht2,fun G p hp=>?_⟩;have hb:=fun H=>uX hX (t.sign [[61],[124,61],[43,61],[45,61],[42,61],[47,61],[37,61],[47,47,61]]) e e2 H
  refine NC hX ?_;have hi:=In.of hp;generalize t.sign [[61],[124,61],[43,61],[45,61],[42,61],[47,61],[37,61],[47,47,61]]=op at *;simp[Ef,aB,hp,hi,hc,hsg,hop,hc2,hb,hz,Fo,aH,aQ,aR,aS,aT,aO,aP, -aN]
end
section
variable {X:Ctx}
theorem zM7(hX:CX X){D:Nat}(hs:∀s:PS,s.good->s.depth=D->bB X yP [] s):∀(n:Nat) (t:PS) (e:Expr),t.good->t.depth=D->aL t.end_ e->t.l.length-t.at_<=n->∃e' t',aL t.end_ e'∧t.to t'∧∀(G:aA) (p:Nat) (env:Env) (K:List Fr) (Q:Ex->St->Prop),In G p->env.get 0=.ptr p 0->env.get 2=.ptr G.length 0->env.get 3=.ptr (G.length+1) 0->(∀env':Env,env'.get 2=.ptr G.length 0->env'.get 3=.ptr (G.length+1) 0->YX X G.length none (.exit 0) K ⟨env',G.set p t'.box++[.box e0.cells,.box e'.cells],[]⟩ Q)->YS X G.length none (.loop Eg) K ⟨env,G.set p t.box++[.box e0.cells,.box e.cells],[]⟩ Q:=by
 intro n
 induction n using Nat.strongRecOn with
 | ind n ih=>
  intro t e ht hd he hn;have hsg:∀(H:aA) (p:Nat),H[p]? =some t.box->cF X bE [.ptr p 0,.int .i64 1,.str [97,110,100]] H=some (.bool (t.is 1 [97,110,100]),H.set p (if t.is 1 [97,110,100]then t.next else t).box):=fun H p hp=>eQ hX hp ht.ok 1 [97,110,100]
  by_cases hop:t.is 1 [97,110,100]=true
  ·have hl:=PS.is_lt hop
   simp only[hop,if_true]at hsg;have h1:=PS.cC ht hl;obtain⟨e2,t2,he2,ht2,hc2⟩:=hs t.next h1.good (h1.dep.trans hd);have hlt:t2.l.length-t2.at_<n:=by
    have q1:t2.l.length=t.l.length:=by rw[ht2.l];rfl
    have q2:t.at_+1<=t2.at_:=ht2.at_;omega
   obtain⟨e',t',he',ht',hgo⟩:=ih (t2.l.length-t2.at_) hlt t2 (eK 29 [97,110,100] [] .full [e,e2] e.at_) ht2.good (by rw[ht2.dep,h1.dep,hd]) (by rw[ht2.e];exact wQ (by decide) (by rw[h1.e];exact he) he2) (Nat.le_refl _);refine⟨e',t',by rw[← h1.e, ← ht2.e];exact he',(h1.trans ht2).trans ht',fun G p env K Q hi g0 g2 g3 hk=>?_⟩;have hb:=fun H=>uX hX [97,110,100] e e2 H
   refine bA fun L hL=>?_
   simp[Eg,g0,g2,g3,hi,hsg,hc2,hb,aH,aQ,aR,aS,aT,aO,aP, -aN];rw[hL];refine hgo G p _ K Q hi ?_ ?_ ?_ hk <;> simp[g0,g2,g3]
  ·simp only[hop,if_false,Bool.false_eq_true]at hsg
   refine⟨e,t,he,PS.to.refl ht,fun G p env K Q hi g0 g2 g3 hk=>?_⟩;refine bA fun L hL=>?_
   simp[Eg,g0,g2,g3,hi,hsg];refine hk _ ?_ ?_ <;> simp[g2,g3]
theorem zF3(hX:CX X){D:Nat}(hs:∀s:PS,s.good->s.depth=D->bB X yP [] s):∀s:PS,s.good->s.depth=D->bB X yT [] s:=by
 intro s hg hd;obtain⟨e1,s1,he1,ht1,hc1⟩:=hs s hg hd;obtain⟨e',t',he',ht',hgo⟩:=zM7 hX hs _ s1 e1 ht1.good (by rw[ht1.dep,hd]) (by rw[ht1.e];exact he1) (Nat.le_refl _);refine⟨e',t',by rw[← ht1.e];exact he',ht1.trans ht',fun G p hp=>?_⟩;refine zLK hX ?_;have hi:=In.of hp;have hz:z0=e0.cells:=by rw[bP];rfl
 simp[Wl,hp,hi,hc1,hz,aH];refine hgo G p _ _ _ hi ?_ ?_ ?_ fun env' q2 q3=>?_
 ·simp
 ·simp
 ·simp
 ·simp[aB,q2,q3,hi,aH]
theorem zAx(hX:CX X){D:Nat}(hs:∀s:PS,s.good->s.depth=D->bB X yT [] s):∀(n:Nat) (t:PS) (e:Expr),t.good->t.depth=D->aL t.end_ e->t.l.length-t.at_<=n->∃e' t',aL t.end_ e'∧t.to t'∧∀(G:aA) (p:Nat) (env:Env) (K:List Fr) (Q:Ex->St->Prop),In G p->env.get 0=.ptr p 0->env.get 2=.ptr G.length 0->env.get 3=.ptr (G.length+1) 0->(∀env':Env,env'.get 2=.ptr G.length 0->env'.get 3=.ptr (G.length+1) 0->YX X G.length none (.exit 0) K ⟨env',G.set p t'.box++[.box e0.cells,.box e'.cells],[]⟩ Q)->YS X G.length none (.loop Dx) K ⟨env,G.set p t.box++[.box e0.cells,.box e.cells],[]⟩ Q:=by
 intro n
 induction n using Nat.strongRecOn with
 | ind n ih=>
  intro t e ht hd he hn;have hsg:∀(H:aA) (p:Nat),H[p]? =some t.box->cF X bE [.ptr p 0,.int .i64 1,.str [111,114]] H=some (.bool (t.is 1 [111,114]),H.set p (if t.is 1 [111,114]then t.next else t).box):=fun H p hp=>eQ hX hp ht.ok 1 [111,114]
  by_cases hop:t.is 1 [111,114]=true
  ·have hl:=PS.is_lt hop
   simp only[hop,if_true]at hsg;have h1:=PS.cC ht hl;obtain⟨e2,t2,he2,ht2,hc2⟩:=hs t.next h1.good (h1.dep.trans hd);have hlt:t2.l.length-t2.at_<n:=by
    have q1:t2.l.length=t.l.length:=by rw[ht2.l];rfl
    have q2:t.at_+1<=t2.at_:=ht2.at_;omega
   obtain⟨e',t',he',ht',hgo⟩:=ih (t2.l.length-t2.at_) hlt t2 (eK 29 [111,114] [] .full [e,e2] e.at_) ht2.good (by rw[ht2.dep,h1.dep,hd]) (by rw[ht2.e];exact wQ (by decide) (by rw[h1.e];exact he) he2) (Nat.le_refl _);refine⟨e',t',by rw[← h1.e, ← ht2.e];exact he',(h1.trans ht2).trans ht',fun G p env K Q hi g0 g2 g3 hk=>?_⟩;have hb:=fun H=>uX hX [111,114] e e2 H
   refine bA fun L hL=>?_
   simp[Dx,g0,g2,g3,hi,hsg,hc2,hb,aH,aQ,aR,aS,aT,aO,aP, -aN];rw[hL];refine hgo G p _ K Q hi ?_ ?_ ?_ hk <;> simp[g0,g2,g3]
  ·simp only[hop,if_false,Bool.false_eq_true]at hsg
   refine⟨e,t,he,PS.to.refl ht,fun G p env K Q hi g0 g2 g3 hk=>?_⟩;refine bA fun L hL=>?_
   simp[Dx,g0,g2,g3,hi,hsg];refine hk _ ?_ ?_ <;> simp[g2,g3]
theorem zFP(hX:CX X){D:Nat}(hs:∀s:PS,s.good->s.depth=D->bB X yT [] s):∀s:PS,s.good->s.depth=D->bB X H8 [] s:=by
 intro s hg hd;obtain⟨e1,s1,he1,ht1,hc1⟩:=hs s hg hd;obtain⟨e',t',he',ht',hgo⟩:=zAx hX hs _ s1 e1 ht1.good (by rw[ht1.dep,hd]) (by rw[ht1.e];exact he1) (Nat.le_refl _);refine⟨e',t',by rw[← ht1.e];exact he',ht1.trans ht',fun G p hp=>?_⟩;refine zLE hX ?_;have hi:=In.of hp;have hz:z0=e0.cells:=by rw[bP];rfl
 simp[Vp,hp,hi,hc1,hz,aH];refine hgo G p _ _ _ hi ?_ ?_ ?_ fun env' q2 q3=>?_
 ·simp
 ·simp
 ·simp
 ·simp[aB,q2,q3,hi,aH]
end
section
variable {X:Ctx}
def PS.up(s:PS):PS:= { s with depth:=s.depth-1 }
theorem PS.N6 {s:PS}(h:s.good)(hd:s.depth<=200):s.deep.good∧s.deep.l=s.l∧s.deep.end_=s.end_∧s.deep.at_=s.at_∧s.deep.depth=s.depth+1:=by
 have key:∀t:PS,t.good->({ t with depth:=s.depth+1 }:PS).good:=fun t ht=>⟨⟨ht.ok.at_,ht.ok.len,by show s.depth+1<=_;omega⟩,ht.toks,ht.e0,by show s.depth+1<=_;omega⟩
 have hf:∀e,(s.fail e).l=s.l∧(s.fail e).end_=s.end_∧(s.fail e).at_=s.at_:=fun e=>by unfold PS.fail;split <;> exact⟨rfl,rfl,rfl⟩
 unfold PS.deep;simp only;split
 ·split
  ·exact⟨key _ (PS.iI h _).good,(hf _).1,(hf _).2.1,(hf _).2.2,trivial⟩
  ·exact⟨key _ (PS.iI h _).good,(hf _).1,(hf _).2.1,(hf _).2.2,trivial⟩
 ·exact⟨key _ h,rfl,rfl,rfl,trivial⟩
theorem PS.Av {s:PS}(hd:s.depth=200):s.deep.bad≠0:=by
 unfold PS.deep;by_cases hb:s.bad=0
 ·simp only[hb,hd,and_self,if_true]
  split <;> simp[PS.fail,hb]
 ·simp[hb]
theorem PS.rA {s t:PS}(h1:s.deep.to t)(h:s.good)(hd:s.depth<=200):s.to t.up:=by
 obtain⟨g,q1,q2,q3,q4⟩:=PS.N6 h hd;have hdt:=h1.dep;refine⟨h1.l.trans q1,h1.e.trans q2,by rw[← q3];exact h1.at_,by show t.depth-1=s.depth;omega,⟨⟨h1.good.ok.at_,h1.good.ok.len,by show t.depth-1<=_;omega⟩,h1.good.toks,h1.good.e0,by show t.depth-1<=_;omega⟩⟩
theorem zFh(e:Expr)(a:Int):(eK 15 [] [] .full [e] a).cells=[.int .i64 15,.str [],.str [],.bool false,.nilsl,.int .i64 0,.fsl e.cells 1,.nilsl,.nilsl,.int .i64 a]:=by simp[eK,dN,Expr.cells,Dec.cells,SL,Expr.aC]
theorem Expr.bI(x:Expr)(l:List D):(x.cells++l).drop 10=l:=List.drop_left' (by simp[Expr.aK])
theorem IK(hX:CX X){D:Nat}(hD:D<=200)(hu:D<200->∀s:PS,s.good->s.depth=D+1->bB X rJ [] s)(hp:D<200->∀s:PS,s.good->s.depth=D+1->bB X pH [] s)
  (hb:D<200->∀(s:PS) (e:Expr),s.good->s.depth=D+1->aL s.end_ e->bB X I2 [.agg e.cells] s):∀s:PS,s.good->s.depth=D->bB X rJ [] s:=by
 intro s hg hd;obtain⟨g1,q1,q2,q3,q4⟩:=PS.N6 hg (by omega);have hz:z0=e0.cells:=by rw[bP];rfl
 have hdp:∀(H:aA) (p:Nat),H[p]? =some s.box->cF X pJ [.ptr p 0] H=some (.bool (decide (s.deep.bad=0)),H.set p s.deep.box):=fun H p h=>X9 hX h hg.ok
 by_cases hbad:s.deep.bad=0
 ·have hlt:D<200:=by
   rcases Nat.lt_or_ge D 200 with q | q
   ·exact q
   ·exact absurd hbad (PS.Av (by omega))
  have hh:∀(H:aA) (p:Nat),H[p]? =some s.deep.box->cF X fR [.ptr p 0] H=some (.int .i64 s.deep.here,H):=fun H p h=>lJ hX h g1.ok
  have ht:∀(H:aA) (p:Nat),H[p]? =some s.deep.box->cF X bE [.ptr p 0,.int .i64 4,.str [45]] H=some (.bool (s.deep.is 4 [45]),H.set p (if s.deep.is 4 [45]then s.deep.next else s.deep).box):=fun H p h=>eQ hX h g1.ok 4 [45]
  have hho:=PS.pN g1;simp only[hbad,decide_true]at hdp;generalize hs1:s.deep=s1 at *;by_cases hm:s1.is 4 [45]=true
  ·simp only[hm,if_true]at ht
   have h1:=PS.cC g1 (PS.is_lt hm);obtain⟨e2,t2,he2,ht2,hc2⟩:=hu hlt s1.next h1.good (by rw[h1.dep,q4,hd]);have hup:=PS.rA (s:=s) (t:=t2) (by rw[hs1];exact h1.trans ht2) hg (by omega);have hw:IntKind.i64.wrap ((t2.depth:Int)-1)=((t2.depth-1:Nat):Int):=by
    have:=ht2.dep;have:=h1.dep;rw[wrap_i64 (by omega) (by omega)];omega
   refine⟨eK 15 [] [] .full [e2] s1.here,t2.up,cK (by decide) (by decide) (by simp) (by intro x hx;simp at hx;subst hx;rw[← q2, ← h1.e];exact he2) hho.1 (by rw[← q2];exact hho.2),hup,fun G p hp=>?_⟩;refine Nq hX ?_;have hi:=In.of hp;simp[R4,aB,hp,hi,hdp,hh,ht,hc2,aH,z0,aW,zFh,Expr.bI,hw,PS.up]
  ·simp only[hm,if_false,Bool.false_eq_true]at ht
   obtain⟨e2,t2,he2,ht2,hc2⟩:=hp hlt s1 g1 (by rw[q4,hd]);obtain⟨e3,t3,he3,ht3,hc3⟩:=hb hlt t2 e2 ht2.good (by rw[ht2.dep,q4,hd]) (by rw[ht2.e];exact he2);have hup:=PS.rA (s:=s) (t:=t3) (by rw[hs1];exact ht2.trans ht3) hg (by omega);have hw:IntKind.i64.wrap ((t3.depth:Int)-1)=((t3.depth-1:Nat):Int):=by
    have:=ht2.dep;have:=ht3.dep;rw[wrap_i64 (by omega) (by omega)];omega
   refine⟨e3,t3.up,by rw[← q2, ← ht2.e];exact he3,hup,fun G p hp=>?_⟩;refine Nq hX ?_;have hi:=In.of hp;simp[R4,aB,hp,hi,hdp,hh,ht,hc2,hc3,aH,z0,aW,Expr.bI,hw,PS.up,Gz]
 ·have hup:=PS.rA (s:=s) (t:=s.deep) (PS.to.refl g1) hg (by omega)
  have hw:IntKind.i64.wrap ((s.deep.depth:Int)-1)=((s.deep.depth-1:Nat):Int):=by
   rw[q4,wrap_i64 (by omega) (by omega)];omega
  simp only[hbad,decide_false]at hdp;refine⟨e0,s.deep.up,hU hg.e0,hup,fun G p hp=>?_⟩;refine Nq hX ?_;have hi:=In.of hp;generalize s.deep=s1 at *;simp[R4,aB,hp,hi,hdp,aH,z0,aW,hw,PS.up,bP]
end
section
variable {X:Ctx}
theorem Bp {b:Nat}{H:aA}{id:Nat}{l:List Expr}{nl:Bool}(e:Expr)(h:H[id]? =some (.row 10 (Expr.aC l) nl))(hn:nl=true->l=[])(hl:l.length<=2000000):cR b H 10 160 (.osl id (l.length*10) 0 l.length) e.cells 1=some (.osl id ((l.length+1)*10) 0 (l.length+1),H.set id (.row 10 (Expr.aC (l++[e])) false)):=by
 have:=kB (b:=b) (H:=H) (id:=id) (hw:=l.length*10) (es:=10) (bytes:=160) (m:=1) (ys:=e.cells) (cs:=Expr.aC l) (nil:=nl) (n:=l.length) h (by rw[Expr.bC]) (by omega) (fun q=>by rw[hn q];rfl) (by unfold aX;omega) (by unfold aX;omega) (aH (fun n=>Expr.aD e n) (Expr.aF e)) (by omega);rw[this,Expr.iU];simp[Expr.aC,Nat.add_mul]
def tT(op:Bs):List Expr->Expr->Expr
 | [],o=>o
 | x::r,o=>tT op r (eK 29 op [] .full [x,o] x.at_)
theorem NX {m:Int}{op:Bs}(ho:op.length<=1000000):∀ {l:List Expr} {o:Expr},(∀x∈l,aL m x)->aL m o->aL m (tT op l o)
 | [],_,_,h=>h
 | x::r,o,h,h2=>by
  rw[tT];exact NX (l:=r) ho (fun y hy=>h y (List.mem_cons_of_mem _ hy)) (wQ ho (h x (List.mem_cons_self ..)) h2)
theorem zM8(hX:CX X){D:Nat}(hs:∀s:PS,s.good->s.depth=D->bB X yS [] s):∀(n:Nat) (t:PS) (l:List Expr),t.good->t.depth=D->(∀x∈l,aL t.end_ x)->l≠ []->l.length<=t.at_+1->t.l.length-t.at_<=n->∃l' t',(∀x∈l',aL t.end_ x)∧l'≠ []∧l'.length<=1000001∧t.to t'∧∀(G:aA) (p:Nat) (env:Env) (K:List Fr) (Q:Ex->St->Prop),In G p->env.get 0=.ptr p 0->env.get 2=.ptr G.length 0->env.get 3=.osl (G.length+1) (l.length*10) 0 l.length->(∀env':Env,env'.get 0=.ptr p 0->env'.get 2=.ptr G.length 0->env'.get 3=.osl (G.length+1) (l'.length*10) 0 l'.length->YX X G.length none (.exit 0) K ⟨env',G.set p t'.box++[.box e0.cells,.row 10 (Expr.aC l') false],[]⟩ Q)->YS X G.length none (.loop Eh) K ⟨env,G.set p t.box++[.box e0.cells,.row 10 (Expr.aC l) false],[]⟩ Q:=by
 intro n
 induction n using Nat.strongRecOn with
 | ind n ih=>
  intro t l ht hd he hne hll hn;have hsg:∀(H:aA) (p:Nat),H[p]? =some t.box->cF X bE [.ptr p 0,.int .i64 4,.str [47,47]] H=some (.bool (t.is 4 [47,47]),H.set p (if t.is 4 [47,47]then t.next else t).box):=fun H p hp=>eQ hX hp ht.ok 4 [47,47]
  have hlt0:=ht.ok.at_;have hlt1:=ht.ok.len;by_cases hop:t.is 4 [47,47]=true
  ·have hl:=PS.is_lt hop
   simp only[hop,if_true]at hsg;have h1:=PS.cC ht hl;obtain⟨e2,t2,he2,ht2,hc2⟩:=hs t.next h1.good (h1.dep.trans hd);have q2:t.at_+1<=t2.at_:=ht2.at_;have hlt:t2.l.length-t2.at_<n:=by
    have q1:t2.l.length=t.l.length:=by rw[ht2.l];rfl
    omega
   have hall:∀x∈l++[e2],aL t2.end_ x:=by
    intro x hx;rw[ht2.e,h1.e];rcases List.mem_append.1 hx with h | h
    ·exact he x h
    ·rw[List.mem_singleton.1 h, ← h1.e];exact he2
   obtain⟨l',t',he',hn',hl',ht',hgo⟩:=ih (t2.l.length-t2.at_) hlt t2 (l++[e2]) ht2.good (by rw[ht2.dep,h1.dep,hd]) hall (by simp) (by simp;omega) (Nat.le_refl _);refine⟨l',t',by rw[← h1.e, ← ht2.e];exact he',hn',hl',(h1.trans ht2).trans ht',fun G p env K Q hi g0 g2 g3 hk=>?_⟩;have hap:∀b,cR b (G.set p t2.box++[.box e0.cells,.row 10 (Expr.aC l) false]) 10 160 (.osl (G.length+1) (l.length*10) 0 l.length) e2.cells 1=some (.osl (G.length+1) ((l.length+1)*10) 0 (l.length+1),G.set p t2.box++[.box e0.cells,.row 10 (Expr.aC (l++[e2])) false]):=fun b=>by
    rw[Bp (nl:=false) e2 (by rw[List.getElem?_append_right (by simp)];simp) (by simp) (by omega)];congr 2;rw[List.set_append_right _ _ (by simp)];simp
   have hel:∀H:aA,elems H 10 (.fsl e2.cells 1)=some (e2.cells,1):=fun H=>by simp[elems,Expr.aK]
   refine bA fun L hL=>?_
   generalize hA:Expr.aC l=A at *;generalize hB:Expr.aC (l++[e2])=B at *;simp[Eh,g0,g2,g3,hi,hsg,hc2,aH,z0,hel,hap,Expr.bI];rw[hL];refine hgo G p _ K Q hi ?_ ?_ ?_ hk <;> simp[g0,g2]
  ·simp only[hop,if_false,Bool.false_eq_true]at hsg
   refine⟨l,t,he,hne,by omega,PS.to.refl ht,fun G p env K Q hi g0 g2 g3 hk=>?_⟩;refine bA fun L hL=>?_
   simp[Eh,g0,g2,g3,hi,hsg];refine hk _ ?_ ?_ ?_ <;> simp[g0,g2,g3]
theorem RO {α:Type}{l:List α}{k:Nat}(h:k<l.length):(l.take (k+1)).reverse=l[k]::(l.take k).reverse:=by
 rw[List.take_succ_eq_append_getElem h,List.reverse_append];rfl
theorem zF4(hX:CX X){D:Nat}(hs:∀s:PS,s.good->s.depth=D->bB X yS [] s):∀s:PS,s.good->s.depth=D->bB X tB [] s:=by
 intro s hg hd;obtain⟨e1,s1,he1,ht1,hc1⟩:=hs s hg hd;obtain⟨l,t,he,hne,hl,ht,hgo⟩:=zM8 hX hs _ s1 [e1] ht1.good (by rw[ht1.dep,hd]) (by intro x hx;rw[List.mem_singleton.1 hx,ht1.e];exact he1) (by simp) (by simp) (Nat.le_refl _);have hpos:0<l.length:=List.length_pos_iff.2 hne;obtain⟨n,hn⟩:∃n,l.length=n+1:=⟨l.length-1,by omega⟩;have hlast:aL s.end_ (l[n]'(by omega)):=by rw[← ht1.e];exact he _ (by simp)
 refine⟨tT [47,47] (l.take n).reverse (l[n]'(by omega)),t,NX (by decide) (fun x hx=>by rw[← ht1.e];exact he x (List.mem_of_mem_take (List.mem_reverse.1 hx))) hlast,ht1.trans ht,fun G p hp=>?_⟩;refine zLL hX ?_;have hi:=In.of hp;have hz:z0=e0.cells:=by rw[bP];rfl
 have hla:∀x:Expr,Expr.aC [x]=x.cells:=fun x=>by simp[Expr.aC]
 have hw1:IntKind.i64.wrap ((l.length:Int)-1)=(n:Int):=by rw[wrap_i64 (by omega) (by omega)];omega
 have hw2:IntKind.i64.wrap ((l.length:Int)-2)=(n:Int)-1:=by rw[wrap_i64 (by omega) (by omega)];omega
 simp[Wo,hp,hi,hc1,hz,aH,Expr.bI,aW];rw[← hla e1];refine hgo G p _ _ _ hi (by simp) (by simp) (by simp) fun env' g0 g2 g3=>?_
 have hld:∀k (h:k<l.length),(Expr.aC l).drop (k*10)=l[k].cells++Expr.rest l k:=fun k h=>Expr.dG h
 have hldn:=hld n (by omega);have hln:(n:Int)<l.length:=by omega
 have hln':n<l.length:=by omega
 generalize hA:Expr.aC l=A at *;simp[g0,g2,g3,hi,hw1,hw2,hln,hln',hldn,aH];have hlA:A.length=l.length*10:=by rw[← hA,Expr.bC]
 refine⟨hlA,?_⟩;refine cH (fun(q:Nat×Expr) e H'=>H'=G.set p t.box++[.box e0.cells,.row 10 A false,.box q.2.cells]∧q.1<=n∧e.get 2=.ptr G.length 0∧e.get 3=.osl (G.length+1) (l.length*10) 0 l.length∧e.get 4=.ptr (G.length+2) 0∧e.get 5=.int .i64 ((q.1:Int)-1)∧tT [47,47] (l.take q.1).reverse q.2=tT [47,47] (l.take n).reverse (l[n]'hln')) (fun q=>q.1) ?_ (n,l[n]'hln') (by simp[g2,g3]);rintro⟨k,o⟩ e H' ⟨rfl,hk,j2,j3,j4,j5,hr⟩ L ih;simp only at hk j5 hr ih;rcases Nat.eq_zero_or_pos k with rfl | hk0
 ·simp[tT]at hr
  rw[← hr];simp[Wn,aB,j2,j3,j4,j5,hi,aH]
 ·obtain⟨i,rfl⟩:∃i,k=i+1:=⟨k-1,by omega⟩
  have hil:i<l.length:=by omega
  have hil':(i:Int)<l.length:=by omega
  have hw3:IntKind.i64.wrap ((i:Int)-1)=(i:Int)-1:=wI;have hb:=fun H=>uX hX [47,47] l[i] o H
  have hldi:=hld i hil;rw[RO hil,tT]at hr;have e5:e.get 5=.int .i64 i:=by rw[j5];congr 1;omega
  simp[Wn,j2,j3,j4,e5,hi,aH,hil,hil',hldi,hb,hlA,hw3];refine ih (i,eK 29 [47,47] [] .full [l[i],o] l[i].at_) _ _ (by simp) ?_;simp[j2,j3,j4,hr];omega
end
section
variable {X:Ctx}
def xS(k:Int)(id n:Nat)(a:Int):List D:=[.int .i64 k,.str [],.str [],.bool false,.nilsl,.int .i64 0,.osl id (n*10) 0 n,.nilsl,.nilsl,.int .i64 a]
theorem FU(hX:CX X){H:aA}{id:Nat}{l:List Expr}(h:H[id]? =some (.row 10 (Expr.aC l) false))(hpos:0<l.length)(k a:Int):cF X yL [.int .i64 k,.osl id (l.length*10) 0 l.length,.int .i64 a] H=some (.agg (if l.length=1 then l[0].cells else xS k id l.length l[0].at_),H):=by
 refine zLw hX ?_;have hi:=In.of h;have hlA:(Expr.aC l).length=l.length*10:=Expr.bC l;have hl0:Expr.aC l=l[0].cells++Expr.rest l 0:=by
  have:=Expr.dG (l:=l) (k:=0) hpos;simpa using this
 have hpos':(0:Int)<l.length:=by omega
 have hid:id<H.length:=hi;generalize hA:Expr.aC l=A at *;by_cases h1:l.length=1
 ·have h1':(l.length:Int)=1:=by omega
  have hsz:A.length=10:=by omega
  simp only[h1,if_true];rw[h1]at hpos;simp[Di,aB,h,hi,hl0,z0,aW,h1,hsz,aH];rw[hl0,List.length_append,Expr.aK]at hsz;exact List.eq_nil_of_length_eq_zero (by omega)
 ·have h1':¬(l.length:Int)=1:=by omega
  simp only[h1,if_false];have hlA':10+(Expr.rest l 0).length=l.length*10:=by rw[← hlA,hl0,List.length_append,Expr.aK]
  simp[Di,aB,h,hi,hl0,z0,aW,h1,h1',hpos,hpos',hlA',aH,xS];have hst:∀(H':aA) (x:Int),H'.length=H.length+1->storable H.length H' H.length [.int .i64 k,.str [],.str [],.bool false,.nilsl,.int .i64 0,.osl id (l.length*10) 0 l.length,.nilsl,.nilsl,.int .i64 x]=true:=fun H' x hx=>by
   have:id<H.length+1:=by omega
   unfold storable;rw[if_neg (by omega),hx];simp[D.aD,D.aF,D.one,D.under,this]
  simp[hst,hid]
end
section
variable {X:Ctx}
theorem Hg(hX:CX X){s:PS}(hg:s.good):∃(n:Bs) (s':PS),n.length<=1000000∧s.to s'∧∀(G:aA) (p:Nat),G[p]? =some s.box->cF X yO [.ptr p 0] G=some (.str n,G.set p s'.box):=by
 have hk:∀(G:aA) (p:Nat),G[p]? =some s.box->cF X eI [.ptr p 0] G=some (.int .i64 s.kind,G):=fun G p h=>kV hX h hg.ok
 have ht:∀(u:PS),u.good->∀(G:aA) (p:Nat),G[p]? =some u.box->cF X fL [.ptr p 0,.int .i64 1] G=some (.str (u.text 1),G.set p (u.past 1).box):=fun u hu G p h=>mV hX h hu.ok 1 (by decide)
 have hw:∀(G:aA) (p:Nat),G[p]? =some s.box->cF X iF [.ptr p 0] G=some (.tup [],G.set p s.dD.box):=fun G p h=>rF hX h hg.ok
 by_cases h1:s.kind=1
 ·have hl:=PS.K3 (s:=s) (by omega)
  have hl':(s.at_:Int)<s.l.length:=by omega
  obtain⟨b,hb⟩:=YJ hX [] (s.l[s.at_]).text
  cases b with
  | true=>
   have hgw:=(PS.mT hg).good;have ht':=ht _ hgw;refine⟨s.dD.text 1,s.dD.past 1,PS.jU hgw 1,(PS.mT hg).trans (PS.jH hgw (by decide)),fun G p hp=>?_⟩;refine Ns hX ?_;have hi:=In.of hp;generalize s.dD.text 1=tx at *;generalize s.dD.past 1=sx at *;generalize s.dD=sw at *;simp[S2,aB,hp,hi,hk,h1,hl,hl',Token.dG hl,hb,hw,ht']
  | false=>
   have ht':=ht _ hg;refine⟨s.text 1,s.past 1,PS.jU hg 1,PS.jH hg (by decide),fun G p hp=>?_⟩;refine Ns hX ?_;have hi:=In.of hp;generalize s.text 1=tx at *;generalize s.past 1=sx at *;simp[S2,aB,hp,hi,hk,h1,hl,hl',Token.dG hl,hb,hw,ht']
 ·have ht':=ht _ hg
  refine⟨s.text 1,s.past 1,PS.jU hg 1,PS.jH hg (by decide),fun G p hp=>?_⟩;refine Ns hX ?_;have hi:=In.of hp;generalize s.text 1=tx at *;generalize s.past 1=sx at *;simp[S2,aB,hp,hi,hk,h1,hw,ht']
end
section
variable {X:Ctx}
theorem bW(k a:Int)(n t:Bs)(f:Nl)(ks:List Expr):(eK k n t f ks a).cells=[.int .i64 k,.str n,.str t,.bool false,.nilsl,.int .i64 0,SL f (Expr.aC ks) ks.length,.nilsl,.nilsl,.int .i64 a]:=by simp[eK,dN,Expr.cells,Dec.cells,SL,Pat.aC,Def.aC]
theorem dH:SL .nil (Expr.aC []) 0=.nilsl:=by simp[SL,Expr.aC]
theorem cA(cs:List D)(n:Nat):SL .full cs n=.fsl cs n:=by cases n <;> simp[SL]
theorem fH(a:Expr):Expr.aC [a]=a.cells:=by simp[Expr.aC]
theorem gQ(a b:Expr):Expr.aC [a,b]=a.cells++b.cells:=by simp[Expr.aC]
theorem zFM(hX:CX X){D:Nat}(hs:∀s:PS,s.good->s.depth=D->bB X dF [] s):∀s:PS,s.good->s.depth=D->bB X o7 [] s:=by
 intro s hg hd;obtain⟨e1,s1,he1,ht1,hc1⟩:=hs s hg hd;have hz:z0=e0.cells:=by rw[bP];rfl
 by_cases hq:s.bad=0∧s.at_=s.l.length
 ·refine⟨eK 1 [] [] .nil [] s.end_,s,cK (by decide) (by decide) (by decide) (by simp) hg.e0 (Int.le_refl _),PS.to.refl hg,fun G p hp=>?_⟩
  refine MU hX ?_;have hi:=In.of hp;have hq2:(s.at_:Int)=s.l.length:=by omega
  simp[R6,aB,hp,hi,hq.1,hq.2,z0,aW,aH,bW,dH,dE hp]
 ·refine⟨e1,s1,he1,ht1,fun G p hp=>?_⟩
  refine MU hX ?_;have hi:=In.of hp;by_cases hb:s.bad=0
  ·have ha:¬s.at_=s.l.length:=fun q=>hq ⟨hb,q⟩
   simp[R6,aB,hp,hi,hb,ha,hz,hc1,aH]
  ·simp[R6,aB,hp,hi,hb,hz,hc1,aH]
theorem zFS(hX:CX X){D:Nat}(hs:∀s:PS,s.good->s.depth=D->bB X dF [] s)(hq:∀(s:PS) (a:Int),s.good->s.depth=D->0<=a->a<=s.end_->bB X nL [.str [],.int .i64 a] s):∀s:PS,s.good->s.depth=D->∃(e:Expr) (n:Int) (s':PS),aL s.end_ e∧s.to s'∧∀(G:aA) (p:Nat),G[p]? =some s.box->cF X I0 [.ptr p 0] G=some (.tup [.agg e.cells,.int .i64 n],G.set p s'.box):=by
 intro s hg hd;have hz:z0=e0.cells:=by rw[bP];rfl
 have hh:∀(H:aA) (p:Nat),H[p]? =some s.box->cF X fR [.ptr p 0] H=some (.int .i64 s.here,H):=fun H p h=>lJ hX h hg.ok
 have hk:∀(G:aA) (p:Nat),G[p]? =some s.box->cF X eI [.ptr p 0] G=some (.int .i64 s.kind,G):=fun G p h=>kV hX h hg.ok
 have hho:=PS.pN hg;by_cases h1:s.kind=1
 ·have htx:∀(G:aA) (p:Nat),G[p]? =some s.box->cF X fL [.ptr p 0,.int .i64 1] G=some (.str (s.text 1),G.set p (s.past 1).box):=fun G p h=>mV hX h hg.ok 1 (by decide)
  refine⟨eK 9 [] (s.text 1) .nil [] s.here,1,s.past 1,cK (by decide) (by have:=PS.jU hg 1;omega) (by decide) (by simp) hho.1 hho.2,PS.jH hg (by decide),fun G p hp=>?_⟩;refine Bi hX ?_;have hi:=In.of hp;generalize s.text 1=tx at *;generalize s.past 1=sx at *;simp[A6,aB,hp,hi,hh,hk,h1,htx,z0,aW,aH,bW,dH]
 ·by_cases h7:s.kind=7
  ·obtain⟨e1,s1,he1,ht1,hc1⟩:=hq s s.here hg hd hho.1 hho.2
   refine⟨e1,7,s1,he1,ht1,fun G p hp=>?_⟩;refine Bi hX ?_;have hi:=In.of hp;simp[A6,aB,hp,hi,hh,hk,h1,h7,hc1,hz,aH]
  ·have htk:∀(H:aA) (p:Nat),H[p]? =some s.box->cF X bE [.ptr p 0,.int .i64 4,.str [40]] H=some (.bool (s.is 4 [40]),H.set p (if s.is 4 [40]then s.next else s).box):=fun H p h=>eQ hX h hg.ok 4 [40]
   by_cases hop:s.is 4 [40]=true
   ·simp only[hop,if_true]at htk
    have h1':=PS.cC hg (PS.is_lt hop);obtain⟨e1,s1,he1,ht1,hc1⟩:=hs s.next h1'.good (h1'.dep.trans hd);have hwt:∀(H:aA) (p:Nat),H[p]? =some s1.box->cF X cN [.ptr p 0,.int .i64 4,.str [41]] H=some (.tup [],H.set p (s1.want 4 [41]).box):=fun H p h=>iY hX h ht1.good.ok 4 [41]
    refine⟨e1,0,s1.want 4 [41],by rw[← h1'.e];exact he1,(h1'.trans ht1).trans (PS.dO ht1.good 4 [41]),fun G p hp=>?_⟩;refine Bi hX ?_;have hi:=In.of hp;simp[A6,aB,hp,hi,hh,hk,h1,h7,htk,hc1,hwt,hz,aH]
   ·simp only[hop,if_false,Bool.false_eq_true]at htk
    have hw:∀(G:aA) (p:Nat),G[p]? =some s.box->cF X iF [.ptr p 0] G=some (.tup [],G.set p s.dD.box):=fun G p h=>rF hX h hg.ok
    refine⟨e0,0,s.dD,hU hg.e0,PS.mT hg,fun G p hp=>?_⟩;refine Bi hX ?_;have hi:=In.of hp;generalize s.dD=sw at *;simp[A6,aB,hp,hi,hh,hk,h1,h7,htk,dE hp,hw,z0,aW,aH,bP]
theorem zJd(e:Expr):∀l:List D,l.length=10->List.drop 20 (e.cells++l)=[]:=fun l h=>List.drop_eq_nil_of_le (by simp[Expr.aK,h])
theorem aL.at_ {m:Int}{e:Expr}(h:aL m e):0<=e.at_∧e.at_<=m:=⟨(mJ.1 h).2.2.2.2.2.2.2.2.2.1,(mJ.1 h).2.2.2.2.2.2.2.2.2.2⟩
theorem zFV(hX:CX X){D:Nat}(hb:∀(s:PS) (e:Expr),s.good->s.depth=D->aL s.end_ e->bB X yR [.agg e.cells] s)(hq:∀(s:PS) (a:Int),s.good->s.depth=D->0<=a->a<=s.end_->bB X nL [.str [],.int .i64 a] s):∀(s:PS) (e:Expr),s.good->s.depth=D->aL s.end_ e->bB X o9 [.agg e.cells] s:=by
 intro s e hg hd he;have hz:z0=e0.cells:=by rw[bP];rfl
 have hh:∀(H:aA) (p:Nat),H[p]? =some s.box->cF X fR [.ptr p 0] H=some (.int .i64 s.here,H):=fun H p h=>lJ hX h hg.ok
 have hk:∀(G:aA) (p:Nat),G[p]? =some s.box->cF X eI [.ptr p 0] G=some (.int .i64 s.kind,G):=fun G p h=>kV hX h hg.ok
 have hho:=PS.pN hg;have hat:=aL.at_ he;by_cases h7:s.kind=7
 ·obtain⟨e1,s1,he1,ht1,hc1⟩:=hq s s.here hg hd hho.1 hho.2
  refine⟨eK 4 [] [] .full [e,e1] e.at_,s1,cK (by decide) (by decide) (by simp) (by intro x hx;simp at hx;rcases hx with rfl | rfl <;> assumption) hat.1 hat.2,ht1,fun G p hp=>?_⟩;refine Nv hX ?_;have hi:=In.of hp;have hz2:=zJd e;simp[S6,aB,hp,hi,hh,hk,h7,hc1,z0,z2,hz2,aW,aH,Go.AM.D.cS,Go.AM.D.cW,Fb,bW,gQ,cA,Expr.bI,aQ,aR,aS,aT,aO,aP, -aN]
 ·have htk:∀(H:aA) (p:Nat),H[p]? =some s.box->cF X bE [.ptr p 0,.int .i64 4,.str [91]] H=some (.bool (s.is 4 [91]),H.set p (if s.is 4 [91]then s.next else s).box):=fun H p h=>eQ hX h hg.ok 4 [91]
  by_cases hop:s.is 4 [91]=true
  ·simp only[hop,if_true]at htk
   have h1':=PS.cC hg (PS.is_lt hop);obtain⟨e1,s1,he1,ht1,hc1⟩:=hb s.next e h1'.good (h1'.dep.trans hd) (by rw[h1'.e];exact he);refine⟨e1,s1,by rw[← h1'.e];exact he1,h1'.trans ht1,fun G p hp=>?_⟩;refine Nv hX ?_;have hi:=In.of hp;simp[S6,aB,hp,hi,hk,h7,htk,hc1,hz,aH]
  ·simp only[hop,if_false,Bool.false_eq_true]at htk
   have hw:∀(G:aA) (p:Nat),G[p]? =some s.box->cF X iF [.ptr p 0] G=some (.tup [],G.set p s.dD.box):=fun G p h=>rF hX h hg.ok
   refine⟨e,s.dD,he,PS.mT hg,fun G p hp=>?_⟩;refine Nv hX ?_;have hi:=In.of hp;generalize s.dD=sw at *;simp[S6,aB,hp,hi,hk,h7,htk,dE hp,hw,hz,aH]
end
section
variable {X:Ctx}
theorem gB(e:Expr)(l:List D):List.drop 20 (e.cells++l)=List.drop 10 l:=by rw[List.drop_append,List.drop_eq_nil_of_le (by simp[Expr.aK])];simp[Expr.aK]
theorem Mh(e:Expr)(l:List D):List.drop 30 (e.cells++l)=List.drop 20 l:=by rw[List.drop_append,List.drop_eq_nil_of_le (by simp[Expr.aK])];simp[Expr.aK]
theorem D1(e:Expr)(l:List D):List.take 20 (e.cells++l)=e.cells++List.take 10 l:=by rw[List.take_append,List.take_of_length_le (by simp[Expr.aK])];simp[Expr.aK]
theorem lX(a b c:Expr):Expr.aC [a,b,c]=a.cells++(b.cells++c.cells):=by simp[Expr.aC]
theorem zFZ(hX:CX X){D:Nat}(hs:∀s:PS,s.good->s.depth=D->bB X dF [] s):∀(s:PS) (e:Expr),s.good->s.depth=D->aL s.end_ e->bB X yR [.agg e.cells] s:=by
 intro s e hg hd he;have hat:=aL.at_ he;have tk:∀(u:PS),u.good->∀(t:Bs) (H:aA) (p:Nat),H[p]? =some u.box->cF X bE [.ptr p 0,.int .i64 4,.str t] H=some (.bool (u.is 4 t),H.set p (if u.is 4 t then u.next else u).box):=fun u hu t H p h=>eQ hX h hu.ok 4 t
 have wt:∀(u:PS),u.good->∀(H:aA) (p:Nat),H[p]? =some u.box->cF X cN [.ptr p 0,.int .i64 4,.str [93]] H=some (.tup [],H.set p (u.want 4 [93]).box):=fun u hu H p h=>iY hX h hu.ok 4 [93]
 have hz:z0=e0.cells:=by rw[bP];rfl
 have wi:∀(u:PS),u.good->∀(H:aA) (p:Nat),H[p]? =some u.box->cF X pI [.ptr p 0,.int .i64 4,.str [93]] H=some (.bool (u.is 4 [93]),H):=fun u hu H p h=>X8 hX h hu.ok 4 [93]
 have t1:=tk s hg [93];by_cases h1:s.is 4 [93]=true
 ·simp only[h1,if_true]at t1
  refine⟨eK 6 [] [] .full [e] e.at_,s.next,cK (by decide) (by decide) (by simp) (by intro x hx;rw[List.mem_singleton.1 hx];exact he) hat.1 hat.2,PS.cC hg (PS.is_lt h1),fun G p hp=>?_⟩;refine O4 hX ?_;have hi:=In.of hp;generalize s.next=sx at *;simp[xC,aB,hp,hi,t1,z0,aW,aH,bW,fH,cA,Expr.bI]
 ·simp only[h1,if_false,Bool.false_eq_true]at t1
  have t2:=tk s hg [58];by_cases h2:s.is 4 [58]=true
  ·simp only[h2,if_true]at t2
   have k1:=PS.cC hg (PS.is_lt h2);obtain⟨e1,s1,he1,ht1,hc1⟩:=hs s.next k1.good (k1.dep.trans hd);have hw:=wt s1 ht1.good;have he1':aL s.end_ e1:=by rw[← k1.e];exact he1
   refine⟨eK 5 [] [] .full [e,e0,e1] e.at_,s1.want 4 [93],cK (by decide) (by decide) (by simp) (by intro x hx;simp at hx;rcases hx with rfl | rfl | rfl <;> first | assumption | exact hU hg.e0) hat.1 hat.2,(k1.trans ht1).trans (PS.dO ht1.good 4 [93]),fun G p hp=>?_⟩;refine O4 hX ?_;have hi:=In.of hp;generalize s1.want 4 [93]=sx at *;simp[xC,aB,hp,hi,t1,dE hp,t2,hc1,hw,z0,C2,aW,aH,bW,bP,lX,cA,Expr.bI,gB,Mh,D1,Go.AM.D.cS,Go.AM.D.cW]
  ·simp only[h2,if_false,Bool.false_eq_true]at t2
   obtain⟨e1,s1,he1,ht1,hc1⟩:=hs s hg hd;have t3:=tk s1 ht1.good [58];by_cases h3:s1.is 4 [58]=true
   ·simp only[h3,if_true]at t3
    have k3:=PS.cC ht1.good (PS.is_lt h3);have is3:=wi s1.next k3.good;by_cases h4:s1.next.is 4 [93]=true
    ·simp only[h4]at is3
     have hw:=wt s1.next k3.good;refine⟨eK 5 [] [] .full [e,e1,e0] e.at_,s1.next.want 4 [93],cK (by decide) (by decide) (by simp) (by intro x hx;simp at hx;rcases hx with rfl | rfl | rfl <;> first | assumption | exact hU hg.e0) hat.1 hat.2,(ht1.trans k3).trans (PS.dO k3.good 4 [93]),fun G p hp=>?_⟩;refine O4 hX ?_;have hi:=In.of hp;generalize s1.next.want 4 [93]=sx at *;generalize s1.next=sy at *;simp[xC,aB,hp,hi,t1,dE hp,t2,hc1,t3,is3,hw,z0,C2,aW,aH,bW,bP,lX,cA,Expr.bI,gB,Mh,D1,Go.AM.D.cS,Go.AM.D.cW]
    ·simp only[h4]at is3
     obtain⟨e2,s2,he2,ht2,hc2⟩:=hs s1.next k3.good (by rw[k3.dep,ht1.dep,hd]);have hw:=wt s2 ht2.good;have he2':aL s.end_ e2:=by rw[← ht1.e, ← k3.e];exact he2
     refine⟨eK 5 [] [] .full [e,e1,e2] e.at_,s2.want 4 [93],cK (by decide) (by decide) (by simp) (by intro x hx;simp at hx;rcases hx with rfl | rfl | rfl <;> assumption) hat.1 hat.2,((ht1.trans k3).trans ht2).trans (PS.dO ht2.good 4 [93]),fun G p hp=>?_⟩;refine O4 hX ?_;have hi:=In.of hp;generalize s2.want 4 [93]=sx at *;generalize s1.next=sy at *;simp[xC,aB,hp,hi,t1,dE hp,t2,hc1,t3,is3,hc2,hw,z0,C2,aW,aH,bW,lX,cA,Expr.bI,gB,Mh,D1,Go.AM.D.cS,Go.AM.D.cW]
   ·simp only[h3,if_false,Bool.false_eq_true]at t3
    have hw:=wt s1 ht1.good;refine⟨eK 4 [] [] .full [e,e1] e.at_,s1.want 4 [93],cK (by decide) (by decide) (by simp) (by intro x hx;simp at hx;rcases hx with rfl | rfl <;> assumption) hat.1 hat.2,ht1.trans (PS.dO ht1.good 4 [93]),fun G p hp=>?_⟩;refine O4 hX ?_;have hi:=In.of hp;generalize s1.want 4 [93]=sx at *;simp[xC,aB,hp,hi,t1,dE hp,t2,hc1,t3,hw,z0,z2,aW,aH,bW,gQ,cA,Expr.bI,gB,Go.AM.D.cS,Go.AM.D.cW]
end
section
variable {X:Ctx}
theorem zFK(hX:CX X){D:Nat}(hb:∀(s:PS) (e:Expr),s.good->s.depth=D->aL s.end_ e->bB X yR [.agg e.cells] s)(hdt:∀(s:PS) (e:Expr),s.good->s.depth=D->aL s.end_ e->bB X o9 [.agg e.cells] s):∀(s:PS) (e:Expr),s.good->s.depth=D->aL s.end_ e->∃(e':Expr) (b:Bool) (s':PS),aL s.end_ e'∧s.to s'∧(b=true->s.at_<s'.at_)∧(b=false->e'=e∧s'=s)∧∀(G:aA) (p:Nat),G[p]? =some s.box->cF X o6 [.ptr p 0,.agg e.cells] G=some (.tup [.agg e'.cells,.bool b],G.set p s'.box):=by
 intro s e hg hd he;have hat:=aL.at_ he;have hz:z0=e0.cells:=by rw[bP];rfl
 have tk:∀(t:Bs) (H:aA) (p:Nat),H[p]? =some s.box->cF X bE [.ptr p 0,.int .i64 4,.str t] H=some (.bool (s.is 4 t),H.set p (if s.is 4 t then s.next else s).box):=fun t H p h=>eQ hX h hg.ok 4 t
 have hk:∀(G:aA) (p:Nat),G[p]? =some s.box->cF X eI [.ptr p 0] G=some (.int .i64 s.kind,G):=fun G p h=>kV hX h hg.ok
 by_cases h0:s.kind=2
 ·have htx:∀(G:aA) (p:Nat),G[p]? =some s.box->cF X fL [.ptr p 0,.int .i64 2] G=some (.str (s.text 2),G.set p (s.past 2).box):=fun G p h=>mV hX h hg.ok 2 (by decide)
  refine⟨eK 3 [] (s.text 2) .full [e] e.at_,true,s.past 2,cK (by decide) (by have:=PS.jU hg 2;omega) (by simp) (by intro x hx;rw[List.mem_singleton.1 hx];exact he) hat.1 hat.2,PS.jH hg (by decide),fun _=>?_,(by simp),fun G p hp=>?_⟩
  ·unfold PS.past;rw[if_pos h0];exact Nat.lt_succ_self _
  refine O2 hX ?_;have hi:=In.of hp;generalize s.text 2=tx at *;generalize s.past 2=sx at *;simp[xA,aB,hp,hi,hk,h0,htx,z0,aW,aH,bW,fH,cA,Expr.bI,aQ,aR,aS,aT,aO,aP, -aN]
 ·have t1:=tk [46]
  by_cases h1:s.is 4 [46]=true
  ·simp only[h1,if_true]at t1
   have k1:=PS.cC hg (PS.is_lt h1);obtain⟨e1,s1,he1,ht1,hc1⟩:=hdt s.next e k1.good (k1.dep.trans hd) (by rw[k1.e];exact he);refine⟨e1,true,s1,by rw[← k1.e];exact he1,k1.trans ht1,fun _=>ht1.at_,(by simp),fun G p hp=>?_⟩;refine O2 hX ?_;have hi:=In.of hp;simp[xA,aB,hp,hi,hk,h0,t1,hc1,hz,aH]
  ·simp only[h1,if_false,Bool.false_eq_true]at t1
   have t2:=tk [91];by_cases h2:s.is 4 [91]=true
   ·simp only[h2,if_true]at t2
    have k1:=PS.cC hg (PS.is_lt h2);obtain⟨e1,s1,he1,ht1,hc1⟩:=hb s.next e k1.good (k1.dep.trans hd) (by rw[k1.e];exact he);refine⟨e1,true,s1,by rw[← k1.e];exact he1,k1.trans ht1,fun _=>ht1.at_,(by simp),fun G p hp=>?_⟩;refine O2 hX ?_;have hi:=In.of hp;simp[xA,aB,hp,hi,hk,h0,t1,dE hp,t2,hc1,hz,aH]
   ·simp only[h2,if_false,Bool.false_eq_true]at t2
    have t3:=tk [63];by_cases h3:s.is 4 [63]=true
    ·simp only[h3,if_true]at t3
     have k1:=PS.cC hg (PS.is_lt h3);refine⟨eK 7 [] [] .full [e] e.at_,true,s.next,cK (by decide) (by decide) (by simp) (by intro x hx;rw[List.mem_singleton.1 hx];exact he) hat.1 hat.2,k1,fun _=>Nat.lt_succ_self _,(by simp),fun G p hp=>?_⟩;refine O2 hX ?_;have hi:=In.of hp;generalize s.next=sx at *;simp[xA,aB,hp,hi,hk,h0,t1,dE hp,t2,t3,z0,aW,aH,bW,fH,cA,Expr.bI]
    ·simp only[h3,if_false,Bool.false_eq_true]at t3
     refine⟨e,false,s,he,PS.to.refl hg,(by simp),fun _=>⟨rfl,rfl⟩,fun G p hp=>?_⟩;refine O2 hX ?_;have hi:=In.of hp;simp[xA,aB,hp,hi,hk,h0,t1,dE hp,t2,t3,hz,aH]
end
section
variable {X:Ctx}
def Zl(X:Ctx)(s:PS)(e:Expr):Prop:=∃(e':Expr) (b:Bool) (s':PS),aL s.end_ e'∧s.to s'∧(b=true->s.at_<s'.at_)∧(b=false->e'=e∧s'=s)∧∀(G:aA) (p:Nat),G[p]? =some s.box->cF X o6 [.ptr p 0,.agg e.cells] G=some (.tup [.agg e'.cells,.bool b],G.set p s'.box)
theorem ZO(hX:CX X){D:Nat}(hs:∀(s:PS) (e:Expr),s.good->s.depth=D->aL s.end_ e->Zl X s e):∀(n:Nat) (t:PS) (e:Expr),t.good->t.depth=D->aL t.end_ e->t.l.length-t.at_<=n->∃e' t',aL t.end_ e'∧t.to t'∧∀(G:aA) (p:Nat) (env:Env) (K:List Fr) (Q:Ex->St->Prop),In G p->env.get 0=.ptr p 0->env.get 2=.ptr G.length 0->env.get 3=.ptr (G.length+1) 0->(∀env':Env,env'.get 0=.ptr p 0->env'.get 2=.ptr G.length 0->env'.get 3=.ptr (G.length+1) 0->YX X G.length none (.exit 0) K ⟨env',G.set p t'.box++[.box e0.cells,.box e'.cells],[]⟩ Q)->YS X G.length none (.loop R7) K ⟨env,G.set p t.box++[.box e0.cells,.box e.cells],[]⟩ Q:=by
 intro n
 induction n using Nat.strongRecOn with
 | ind n ih=>
  intro t e ht hd he hn;by_cases hb:t.bad=0
  ·obtain⟨e1,b,t1,he1,ht1,hb1,hb2,hc1⟩:=hs t e ht hd he
   cases b with
   | true=>
    have hlt:t1.l.length-t1.at_<n:=by
     have q1:t1.l.length=t.l.length:=by rw[ht1.l]
     have q2:=hb1 rfl;have q3:=ht1.good.ok.at_;omega
    obtain⟨e',t',he',ht',hgo⟩:=ih _ hlt t1 e1 ht1.good (ht1.dep.trans hd) (by rw[ht1.e];exact he1) (Nat.le_refl _);refine⟨e',t',by rw[← ht1.e];exact he',ht1.trans ht',fun G p env K Q hi g0 g2 g3 hk=>?_⟩;refine bA fun L hL=>?_
    simp[R7,g0,g2,g3,hi,hb,hc1,aH];rw[hL];refine hgo G p _ K Q hi ?_ ?_ ?_ hk <;> simp[g0,g2,g3]
   | false=>
    obtain⟨rfl,rfl⟩:=hb2 rfl;refine⟨e1,t1,he,PS.to.refl ht,fun G p env K Q hi g0 g2 g3 hk=>?_⟩;refine bA fun L hL=>?_
    simp[R7,g0,g2,g3,hi,hb,hc1,aH];refine hk _ ?_ ?_ ?_ <;> simp[g0,g2,g3]
  ·refine⟨e,t,he,PS.to.refl ht,fun G p env K Q hi g0 g2 g3 hk=>?_⟩
   refine bA fun L hL=>?_
   simp[R7,g0,g2,g3,hi,hb];refine hk _ ?_ ?_ ?_ <;> simp[g0,g2,g3]
theorem IL(hX:CX X){D:Nat}(hD:D<=200)(hbs:D<200->∀s:PS,s.good->s.depth=D+1->bB X I3 [] s)(hs:D<200->∀(s:PS) (e:Expr),s.good->s.depth=D+1->aL s.end_ e->Zl X s e):∀s:PS,s.good->s.depth=D->bB X pH [] s:=by
 intro s hg hd;obtain⟨g1,q1,q2,q3,q4⟩:=PS.N6 hg (by omega);have hz:z0=e0.cells:=by rw[bP];rfl
 have hdp:∀(H:aA) (p:Nat),H[p]? =some s.box->cF X pJ [.ptr p 0] H=some (.bool (decide (s.deep.bad=0)),H.set p s.deep.box):=fun H p h=>X9 hX h hg.ok
 by_cases hbad:s.deep.bad=0
 ·have hlt:D<200:=by
   rcases Nat.lt_or_ge D 200 with q | q
   ·exact q
   ·exact absurd hbad (PS.Av (by omega))
  simp only[hbad,decide_true]at hdp;generalize hs1:s.deep=s1 at *;obtain⟨e1,t1,he1,ht1,hc1⟩:=hbs hlt s1 g1 (by rw[q4,hd]);obtain⟨e',t',he',ht',hgo⟩:=ZO hX (hs hlt) _ t1 e1 ht1.good (by rw[ht1.dep,q4,hd]) (by rw[ht1.e];exact he1) (Nat.le_refl _);have hup:=PS.rA (s:=s) (t:=t') (by rw[hs1];exact ht1.trans ht') hg (by omega);have hw:IntKind.i64.wrap ((t'.depth:Int)-1)=((t'.depth-1:Nat):Int):=by
   have:=ht1.dep;have:=ht'.dep;rw[wrap_i64 (by omega) (by omega)];omega
  refine⟨e',t'.up,by rw[← q2, ← ht1.e];exact he',hup,fun G p hp=>?_⟩;refine MW hX ?_;have hi:=In.of hp;simp[Dv,hp,hi,hdp,hc1,aH,hz,Expr.aK,Expr.pM];refine hgo G p _ _ _ hi ?_ ?_ ?_ fun env' j0 j2 j3=>?_
  ·simp
  ·simp
  ·simp
  ·simp[aB,j0,j2,j3,hi,aH,hw,PS.up]
 ·have hup:=PS.rA (s:=s) (t:=s.deep) (PS.to.refl g1) hg (by omega)
  have hw:IntKind.i64.wrap ((s.deep.depth:Int)-1)=((s.deep.depth-1:Nat):Int):=by
   rw[q4,wrap_i64 (by omega) (by omega)];omega
  simp only[hbad,decide_false]at hdp;refine⟨e0,s.deep.up,hU hg.e0,hup,fun G p hp=>?_⟩;refine MW hX ?_;have hi:=In.of hp;generalize s.deep=s1 at *;simp[Dv,aB,hp,hi,hdp,aH,z0,aW,hw,PS.up,bP]
end
section
variable {X:Ctx}
theorem zAc(hX:CX X){D:Nat}(hs:∀s:PS,s.good->s.depth=D->bB X yM [] s):∀(n:Nat) (t:PS) (l:List Expr),t.good->t.depth=D->t.bad=0->(∀x∈l,aL t.end_ x)->l.length<=t.at_->t.l.length-t.at_<=n->∃l' t',(∀x∈l',aL t.end_ x)∧l'≠ []∧l'.length<=1000001∧t.to t'∧∀(G:aA) (p:Nat) (env:Env) (K:List Fr) (Q:Ex->St->Prop) (c1 c2:Chunk),In G p->env.get 0=.ptr p 0->env.get 5=.osl (G.length+2) (l.length*10) 0 l.length->(∀env':Env,(∀k,k<5->env'.get k=env.get k)->env'.get 5=.osl (G.length+2) (l'.length*10) 0 l'.length->YX X G.length none (.exit 0) K ⟨env',G.set p t'.box++[c1,c2,.row 10 (Expr.aC l') false],[]⟩ Q)->YS X G.length none (.loop A5) K ⟨env,G.set p t.box++[c1,c2,.row 10 (Expr.aC l) false],[]⟩ Q:=by
 intro n
 induction n using Nat.strongRecOn with
 | ind n ih=>
  intro t l ht hd hb he hll hn;have wi:∀(w:Bs) (H:aA) (p:Nat),H[p]? =some t.box->cF X pI [.ptr p 0,.int .i64 1,.str w] H=some (.bool (t.is 1 w),H):=fun w H p h=>X8 hX h ht.ok 1 w
  obtain⟨e2,t2,he2,ht2,hc2⟩:=hs t ht hd;have tk:∀(H:aA) (p:Nat),H[p]? =some t2.box->cF X bE [.ptr p 0,.int .i64 4,.str [124]] H=some (.bool (t2.is 4 [124]),H.set p (if t2.is 4 [124]then t2.next else t2).box):=fun H p h=>eQ hX h ht2.good.ok 4 [124]
  have hlt0:=ht.ok.at_;have hlt1:=ht.ok.len;have hall:∀x∈l++[e2],aL t.end_ x:=by
   intro x hx;rcases List.mem_append.1 hx with h | h
   ·exact he x h
   ·rw[List.mem_singleton.1 h];exact he2
  have hap:∀(G:aA) (p:Nat) (c1 c2:Chunk) b,cR b (G.set p t2.box++[c1,c2,.row 10 (Expr.aC l) false]) 10 160 (.osl (G.length+2) (l.length*10) 0 l.length) e2.cells 1=some (.osl (G.length+2) ((l.length+1)*10) 0 (l.length+1),G.set p t2.box++[c1,c2,.row 10 (Expr.aC (l++[e2])) false]):=fun G p c1 c2 b=>by
   rw[Bp (nl:=false) e2 (by rw[List.getElem?_append_right (by simp)];simp) (by simp) (by omega)];congr 2;rw[List.set_append_right _ _ (by simp)];simp
  have hel:∀H:aA,elems H 10 (.fsl e2.cells 1)=some (e2.cells,1):=fun H=>by simp[elems,Expr.aK]
  have hlen:(l++[e2]).length=l.length+1:=by simp
  generalize hw1:t.is 1 [100,101,102]=b1 at *;have w1:=wi [100,101,102];have w2:=wi [108,97,98,101,108];rw[hw1]at w1;generalize t.is 1 [108,97,98,101,108]=b2 at *;by_cases hgo:(b1 || b2)=false∧t2.is 4 [124]=true
  ·obtain⟨hbb,hop⟩:=hgo
   simp at hbb;obtain⟨rfl,rfl⟩:=hbb;simp only[hop,if_true]at tk;have k1:=PS.cC ht2.good (PS.is_lt hop);have hb2:t2.next.bad=0:=by
    show t2.bad=0;unfold PS.is at hop;simp at hop;exact hop.1
   have q2:=ht2.at_;have hlt:t2.next.l.length-t2.next.at_<n:=by
    have q1:t2.next.l.length=t.l.length:=by show t2.l.length=_;rw[ht2.l]
    have q3:t2.next.at_=t2.at_+1:=rfl;have:=PS.is_lt hop;have:t2.l.length=t.l.length:=by rw[ht2.l]
    omega
   obtain⟨l',t',he',hn',hl',ht',hgo⟩:=ih _ hlt t2.next (l++[e2]) k1.good (by rw[k1.dep,ht2.dep,hd]) hb2 (by rw[k1.e,ht2.e];exact hall) (by rw[hlen];show _<=t2.at_+1;omega) (Nat.le_refl _);refine⟨l',t',by rw[← ht2.e, ← k1.e];exact he',hn',hl',(ht2.trans k1).trans ht',fun G p env K Q c1 c2 hi g0 g5 hk=>?_⟩;have hap':=hap G p c1 c2;refine bA fun L hL=>?_
   rw[hlen]at hgo;generalize hA:Expr.aC l=A at *;generalize hB:Expr.aC (l++[e2])=B at *;simp[A5,g0,g5,hi,hb,w1,w2,hc2,tk,aH,z0,hel,hap',Expr.bI];rw[hL];refine hgo G p _ K Q c1 c2 hi ?_ ?_ fun env' j j5=>hk env' (fun k hk'=>?_) j5
   ·simp[g0]
   ·simp
   ·rw[j k hk']
    have:k=0∨k=1∨k=2∨k=3∨k=4:=by omega
    rcases this with rfl | rfl | rfl | rfl | rfl <;> simp
  ·refine⟨l++[e2],t2,hall,by simp,by rw[hlen];omega,ht2,fun G p env K Q c1 c2 hi g0 g5 hk=>?_⟩
   have hap':=hap G p c1 c2;rw[hlen]at hk;generalize hA:Expr.aC l=A at *;generalize hB:Expr.aC (l++[e2])=B at *;refine bA fun L hL=>?_
   have fin:∀env':Env,env'.get 0=env.get 0->env'.get 1=env.get 1->env'.get 2=env.get 2->env'.get 3=env.get 3->env'.get 4=env.get 4->env'.get 5=.osl (G.length+2) ((l.length+1)*10) 0 (l.length+1)->YX X G.length none (.exit 0) K ⟨env',G.set p t2.box++[c1,c2,.row 10 B false],[]⟩ Q:=fun env' a0 a1 a2 a3 a4 a5=>hk env' (fun k hk'=>by
    have:k=0∨k=1∨k=2∨k=3∨k=4:=by omega
    rcases this with rfl | rfl | rfl | rfl | rfl <;> assumption) a5
   cases b1 with
   | true=>
    simp[A5,g0,g5,hi,hb,w1,w2,hc2,aH,z0,hel,hap',Expr.bI];refine fin _ ?_ ?_ ?_ ?_ ?_ ?_ <;> simp[g0]
   | false=>
    cases b2 with
    | true=>
     simp[A5,g0,g5,hi,hb,w1,w2,hc2,aH,z0,hel,hap',Expr.bI];refine fin _ ?_ ?_ ?_ ?_ ?_ ?_ <;> simp[g0]
    | false=>
     have hop:t2.is 4 [124]=false:=by
      cases q:t2.is 4 [124]with
      | false=>rfl
      | true=>exact absurd ⟨rfl,q⟩ hgo
     simp only[hop,if_false,Bool.false_eq_true]at tk;simp[A5,g0,g5,hi,hb,w1,w2,hc2,tk,aH,z0,hel,hap',Expr.bI];refine fin _ ?_ ?_ ?_ ?_ ?_ ?_ <;> simp[g0]
theorem IM(hX:CX X){D:Nat}(hD:D<=200)(hs:D<200->∀s:PS,s.good->s.depth=D+1->bB X yM [] s):∀s:PS,s.good->s.depth=D->bB X dF [] s:=by
 intro s hg hd;obtain⟨g1,q1,q2,q3,q4⟩:=PS.N6 hg (by omega);have hz:z0=e0.cells:=by rw[bP];rfl
 have hdp:∀(H:aA) (p:Nat),H[p]? =some s.box->cF X pJ [.ptr p 0] H=some (.bool (decide (s.deep.bad=0)),H.set p s.deep.box):=fun H p h=>X9 hX h hg.ok
 by_cases hbad:s.deep.bad=0
 ·have hlt:D<200:=by
   rcases Nat.lt_or_ge D 200 with q | q
   ·exact q
   ·exact absurd hbad (PS.Av (by omega))
  have hh:∀(H:aA) (p:Nat),H[p]? =some s.deep.box->cF X fR [.ptr p 0] H=some (.int .i64 s.deep.here,H):=fun H p h=>lJ hX h g1.ok
  obtain⟨l,t,he,hne,hl,ht,hgo⟩:=zAc hX (hs hlt) _ s.deep [] g1 (by rw[q4,hd]) hbad (by simp) (by simp) (Nat.le_refl _);simp only[hbad,decide_true]at hdp;generalize hs1:s.deep=s1 at *;have hup:=PS.rA (s:=s) (t:=t) (by rw[hs1];exact ht) hg (by omega);have hw:IntKind.i64.wrap ((t.depth:Int)-1)=((t.depth-1:Nat):Int):=by
   have:=ht.dep;rw[wrap_i64 (by omega) (by omega)];omega
  have hpos:0<l.length:=List.length_pos_iff.2 hne;have he0:aL s.end_ l[0]:=by rw[← q2];exact he _ (by simp)
  have hat:=aL.at_ he0;refine⟨if l.length=1 then l[0]else eK 27 [] [] .full l l[0].at_,t.up,by
   split
   ·exact he0
   ·exact cK (by decide) (by decide) (by omega) (fun x hx=>by rw[← q2];exact he x hx) hat.1 hat.2,hup,fun G p hp=>?_⟩
  refine MX hX ?_;have hi:=In.of hp;simp[Dw,hp,hi,hdp,hh,aH,hz,Expr.aK];refine⟨aH (fun _=>rfl) rfl,?_⟩;refine hgo G p _ _ _ _ _ hi ?_ ?_ fun env' j j5=>?_
  ·simp
  ·simp
  have j0:=j 0 (by decide);have j2:=j 2 (by decide);have j3:=j 3 (by decide);have j4:=j 4 (by decide);simp at j0 j2 j3 j4;have hsv:∀(H:aA) (a:Int),H[G.length+2]? =some (.row 10 (Expr.aC l) false)->cF X yL [.int .i64 27,.osl (G.length+2) (l.length*10) 0 l.length,.int .i64 a] H=some (.agg (if l.length=1 then l[0].cells else xS 27 (G.length+2) l.length l[0].at_),H):=fun H a h=>FU hX h hpos 27 a
  by_cases h1:l.length=1
  ·simp only[h1,if_true]at hsv ⊢
   rw[h1]at j5;simp[aB,j0,j2,j3,j4,j5,hi,hsv,aH,hw,PS.up]
  ·simp only[h1,if_false]at hsv ⊢
   have hst:∀(H':aA) (i:Nat) (x:Int),G.length<=i->H'.length=G.length+3->storable G.length H' i [.int .i64 27,.str [],.str [],.bool false,.nilsl,.int .i64 0,.osl (G.length+2) (l.length*10) 0 l.length,.nilsl,.nilsl,.int .i64 x]=true:=fun H' i x hx hl=>by
    unfold storable;rw[if_neg (by omega),hl];simp[Go.AM.D.aD,Go.AM.D.aF,Go.AM.D.one,Go.AM.D.under]
   have htake:List.take (l.length*10) (Expr.aC l)=Expr.aC l:=List.take_of_length_le (by rw[Expr.bC];exact Nat.le_refl _);simp[aB,j0,j2,j3,j4,j5,hi,hsv,hst,hw,PS.up,xS,htake,Expr.eY,Expr.dQ,Expr.dT,aW,bW,cA,Expr.bC,bP]
 ·have hup:=PS.rA (s:=s) (t:=s.deep) (PS.to.refl g1) hg (by omega)
  have hw:IntKind.i64.wrap ((s.deep.depth:Int)-1)=((s.deep.depth-1:Nat):Int):=by
   rw[q4,wrap_i64 (by omega) (by omega)];omega
  simp only[hbad,decide_false]at hdp;refine⟨e0,s.deep.up,hU hg.e0,hup,fun G p hp=>?_⟩;refine MX hX ?_;have hi:=In.of hp;generalize s.deep=s1 at *;simp[Dw,aB,hp,hi,hdp,aH,z0,aW,hw,PS.up,bP]
end
end Go.AM.T
