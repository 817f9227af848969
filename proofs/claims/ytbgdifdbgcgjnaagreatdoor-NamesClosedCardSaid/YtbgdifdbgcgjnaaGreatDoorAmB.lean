/- The abstract machine: plain operations. -/
import Derived.Test.YtbgdifdbgcgjnaaGreatDoorAmA
import Derived.Laws.Strings
import Derived.Laws.Slices
import Derived.Laws.Cells
import Derived.Laws.Append
import Derived.Laws.CopyRow
import Derived.Laws.AppendOwn
import Derived.Laws.Tables
import Derived.Laws.Rows
import Derived.Laws.StructEq
import Derived.Lib.ConvBytes
import Derived.Laws.BytesString
import Derived.Laws.BytesArg
set_option linter.unusedVariables false
set_option linter.unusedSimpArgs false
set_option linter.unnecessarySimpa false
set_option maxRecDepth 100000
namespace Go.AM
theorem zFd(s:ByteArray):(⟨s.data.toList.toArray⟩:ByteArray)=s:=by cases s;simp
theorem Fy {v:Value}{d:D}(h:U7 v=some d):d.under 0=true∧d.one=true∧∀(β:Bk) (Φ :Fz),VR d β Φ v:=by
 unfold U7 at h;split at h
 all_goals first
  | (cases h;refine⟨by simp[D.under],rfl,fun β Φ =>?_⟩;first | (simp[VR,zFd];done))
  | cases h
  | skip
 split at h
 ·rename_i f first captured hc
  cases h
  refine⟨by simp[D.under,D.aD],rfl,fun β Φ =>?_⟩;have h1:first= #[]:=Array.eq_empty_of_size_eq_zero hc.1;have h2:captured= #[]:=Array.eq_empty_of_size_eq_zero hc.2;subst h1;subst h2;simp[VR,aE]
 ·cases h
theorem sL:∀ {vs:List Value} {ds:List D},uG vs=some ds->D.aD 0 ds=true∧D.aF ds=true∧∀(β:Bk) (Φ :Fz),aE ds β Φ vs:=by
 intro vs
 induction vs with
 | nil=>intro ds h;simp[uG]at h;subst h;exact⟨rfl,rfl,fun _ _=>rfl⟩
 | cons v r ih=>
  intro ds h;simp only[uG]at h;split at h
  ·rename_i d hd
   split at h
   ·rename_i ds' hds
    cases h
    obtain⟨a1,a2,a3⟩:=Fy hd;obtain⟨b1,b2,b3⟩:=ih hds;exact⟨by simp[D.aD,a1,b1],by simp[D.aF,a2,b2],fun β Φ =>⟨v,r,rfl,a3 β Φ,b3 β Φ⟩⟩
   ·cases h
  ·cases h
theorem AR {v:Value}{d:D}(h:Ga v=some d):d.under 0=true∧∀(β:Bk) (Φ :Fz),VR d β Φ v:=by
 unfold Ga at h;split at h
 ·split at h
  ·rename_i ds hds
   cases h
   obtain⟨a1,a2,a3⟩:=sL hds;refine⟨by simpa [D.under]using a1,fun β Φ =>?_⟩;simp only[VR];exact⟨_,by simp,a3 β Φ⟩
  ·cases h
 ·split at h
  ·rename_i vs hvs
   cases h
   have:vs= #[]:=Array.eq_empty_of_size_eq_zero hvs;subst this;exact⟨rfl,fun β Φ =>by simp[VR,aE]⟩
  ·cases h
 ·exact⟨(Fy h).1,(Fy h).2.2⟩
section
variable {P:Program}{G:Nat->Option (List D)}{β:Bk}{Φ :Fz}{b:Nat}{H:aA}{w:World}{env:Env}{a:Act}
theorem bH(h:WR P G β Φ b H w)(he:ER β Φ env a.tmps){x:Operand}{xa:Arg}(hc:aM x=some xa):VR (aI G env xa) β Φ (a.eval x):=by
 cases x with
 | tmp t=>simp[aM]at hc;subst hc;exact he t
 | const v=>
  simp only[aM]at hc;split at hc
  ·rename_i d hd;cases hc;exact(AR hd).2 β Φ
  ·cases hc
 | global g=>
  simp[aM]at hc;subst hc;simp only[aI]
  cases hg:G g with
  | none=>trivial
  | some cs=>
   obtain⟨cur,e,fr,h1,h2⟩:=h.glob g cs hg;simp only[VR];exact⟨⟨g,0,none⟩,rfl,.inr ⟨cur,e,fr,h1,rfl,h2⟩⟩
 | func f=>simp[aM]at hc;subst hc;simp[aI,VR,aE,Act.eval]
theorem zIO(hu:EU H.length env){x:Operand}{xa:Arg}(hc:aM x=some xa):aI G env xa=.undef∨(aI G env xa).under H.length=true:=by
 cases x with
 | tmp t=>simp[aM]at hc;subst hc;exact hu t
 | const v=>
  simp only[aM]at hc;split at hc
  ·rename_i d hd;cases hc;exact .inr (D.C8 _ (Nat.zero_le _) (AR hd).1)
  ·cases hc
 | global g=>
  simp[aM]at hc;subst hc;simp only[aI]
  cases G g with
  | none=>exact .inl rfl
  | some cs=>exact .inr rfl
 | func f=>simp[aM]at hc;subst hc;exact .inr rfl
theorem M8(h:WR P G β Φ b H w)(he:ER β Φ env a.tmps):∀ {xs:List Operand} {as:List Arg},iT xs=some as->aE (fM G env as) β Φ (xs.map a.eval):=by
 intro xs
 induction xs with
 | nil=>intro as hc;simp[iT]at hc;subst hc;rfl
 | cons x r ih=>
  intro as hc;simp only[iT]at hc;split at hc
  ·rename_i y hy
   split at hc
   ·rename_i ys hys
    cases hc
    exact⟨_,_,rfl,bH h he hy,ih hys⟩
   ·cases hc
  ·cases hc
def xH(P:Program)(G:gT)(β:Bk)(Φ :Fz)(b:Nat)(H:aA)(w:World)(a:Act)(o:Oper)(d:D)(H':aA):Prop:=
 ∃r v w' β' Φ',(execOp a.eval o).run P w=.ok r w'∧(r=.value v∨r=.skip∧v=undef)∧VR d β' Φ' v∧WR P G β' Φ' b H' w'∧Ext β Φ H w β' Φ' H' w'
theorem xH.pure {o:Oper}{d:D}{v:Value}(h:WR P G β Φ b H w)(hr:(execOp a.eval o).run P w=.ok (.value v) w)(hv:VR d β Φ v):xH P G β Φ b H w a o d H:=
 ⟨_,v,w,β, Φ,hr,.inl rfl,hv,h,Ext.refl _ _ _ _⟩
theorem xG(β:Bk)(Φ :Fz):VR (.tup []) β Φ undef:=by simp[VR,aE,undef]
theorem VR.sA {x:Bool}{v:Value}(h:VR (.bool x) β Φ v):v=.bool x:=by simpa [VR]using h
theorem VR.fG {k:IntKind}{n:Int}{v:Value}(h:VR (.int k n) β Φ v):v=.int k n:=by simpa [VR]using h
theorem VR.lI {s:Bs}{v:Value}(h:VR (.str s) β Φ v):v=.string ⟨s.toArray⟩:=by simpa [VR]using h
theorem XH {op : BinOp} {k : IntKind} {x y : Int} {d : D} (h : iV op k x y = some d) (t : TypeId) : ∃ v, (binOp op t (.int k x) (.int k y)).run P w = .ok v w ∧ ∀ β Φ, VR d β Φ v := by
  cases op <;> simp only [iV] at h
  all_goals first
    | (cases h; exact ⟨_, by simp [binOp, Op.intArith, Op.intBits, Op.intCmp]; rfl, fun _ _ => by simp [VR]⟩)
    | (split at h
       · cases h
       · rename_i hy; cases h; exact ⟨_, by simp [binOp, Op.intDiv, hy]; rfl, fun _ _ => by simp [VR]⟩)
    | cases h
theorem E2 {op:BinOp}{x y:Bs}{d:D}(h:pY op x y=some d)(t:TypeId):∃v,(binOp op t (.string ⟨x.toArray⟩) (.string ⟨y.toArray⟩)).run P w=.ok v w∧∀β Φ,VR d β Φ v:=by
 cases op <;> simp only[pY]at h
 case add=>
  split at h
  ·rename_i hl
   cases h
   refine⟨.string ⟨(x++y).toArray⟩,?_,fun _ _=>by simp[VR]⟩;have hs:∀l:Bs,(⟨l.toArray⟩:ByteArray).size=l.length:=fun l=>rfl
   have:¬(((x.length+y.length:Nat):Int)>IntKind.i64.max):=by
    have:IntKind.i64.max=9223372036854775807:=by decide
    rw[this];omega
   simp only[binOp,Op.stringOp,hs,if_neg this,Sem.run_pure];congr 2
  ·cases h
 all_goals first
  | (cases h;exact⟨_,by simp only[binOp,Op.stringOp,ByteArray.toList_mk,Sem.run_pure];rfl,fun _ _=>by simp[VR]⟩)
  | cases h
theorem zIY {a b:Bs}(h:zQ a b=true):a=b:=by
 induction a generalizing b with
 | nil=>cases b with
  | nil=>rfl
  | cons y t=>simp[zQ]at h
 | cons x a ih=>
  cases b with
  | nil=>simp[zQ]at h
  | cons y t=>
   simp only[zQ,Bool.and_eq_true]at h;rw[UInt8.toNat_inj.mp (Nat.eq_of_beq_eq_true h.1),ih h.2]
theorem JJ {a:Bs}{l:List (Bs)}(h:zC a l=true):a∈l:=by
 induction l with
 | nil=>simp[zC]at h
 | cons b r ih=>
  simp only[zC,Bool.or_eq_true]at h;rcases h with h | h
  ·rw[zIY h];simp
  ·exact List.mem_cons_of_mem _ (ih h)
theorem BK {op:BinOp}{a:Bs}{l:List (Bs)}{d:D}(h:xO op a l=some d):a∈l∧∃b,d=.bool b∧((op=.eql∧b=false)∨(op=.neq∧b=true)):=by
 unfold xO at h;split at h
 ·split at h
  ·rename_i hh;cases h;exact⟨JJ hh,_,rfl,.inl ⟨rfl,rfl⟩⟩
  ·cases h
 ·split at h
  ·rename_i hh;cases h;exact⟨JJ hh,_,rfl,.inr ⟨rfl,rfl⟩⟩
  ·cases h
 ·cases h
theorem XI {op:BinOp}{x y d:D}(h:cQ op x y=some d){vx vy:Value}(hx:VR x β Φ vx)(hy:VR y β Φ vy)(t:TypeId):
  ∃v,(binOp op t vx vy).run P w=.ok v w∧VR d β Φ v∧(∀o1 o2,(eqGuard op t o1 o2 vx vy).run P w=.ok () w):=by
 unfold cQ at h;split at h
 ·rename_i k p k' q
  obtain rfl:=hx.fG;obtain rfl:=hy.fG;have hg:∀o1 o2,(eqGuard op t o1 o2 (.int k p) (.int k' q)).run P w=.ok () w:=fun o1 o2=>by
   cases op <;> simp[eqGuard]
  split at h
  ·split at h
   ·cases h
   ·rename_i hq;cases h
    exact⟨_,by simp[binOp,Op.shift,hq];rfl,by simp[VR],hg⟩
  ·split at h
   ·cases h
   ·rename_i hq;cases h
    exact⟨_,by simp[binOp,Op.shift,hq];rfl,by simp[VR],hg⟩
  ·split at h
   ·rename_i hk;subst hk
    obtain⟨v,h1,h2⟩:=XH (P:=P) (w:=w) h t;exact⟨v,h1,h2 _ _,hg⟩
   ·cases h
 ·rename_i p q
  obtain rfl:=hx.lI;obtain rfl:=hy.lI;obtain⟨v,h1,h2⟩:=E2 (P:=P) (w:=w) h t;exact⟨v,h1,h2 _ _,fun o1 o2=>by cases op <;> simp[eqGuard]⟩
 ·rename_i a s l
  obtain rfl:=hx.lI;simp only[VR]at hy;obtain⟨rfl,hne⟩:=hy;obtain⟨h0,b,rfl,hb⟩:=BK h;have hn:=hne a h0;refine⟨.bool b,?_,by simp[VR],fun o1 o2=>by cases op <;> simp[eqGuard]⟩;rcases hb with⟨rfl,rfl⟩ | ⟨rfl,rfl⟩
  ·obtain⟨v,h1,h2⟩:=E2 (P:=P) (w:=w) (op:=.eql) (x:=a) (y:=s) (d:=.bool false) (by simp[pY,hn]) t
   have:=h2 β Φ;simp only[VR]at this;rw[h1,this]
  ·obtain⟨v,h1,h2⟩:=E2 (P:=P) (w:=w) (op:=.neq) (x:=a) (y:=s) (d:=.bool true) (by simp[pY,hn]) t
   have:=h2 β Φ;simp only[VR]at this;rw[h1,this]
 ·rename_i s l a
  obtain rfl:=hy.lI;simp only[VR]at hx;obtain⟨rfl,hne⟩:=hx;obtain⟨h0,b,rfl,hb⟩:=BK h;have hn:s≠a:=fun e=>hne a h0 e.symm
  refine⟨.bool b,?_,by simp[VR],fun o1 o2=>by cases op <;> simp[eqGuard]⟩;rcases hb with⟨rfl,rfl⟩ | ⟨rfl,rfl⟩
  ·obtain⟨v,h1,h2⟩:=E2 (P:=P) (w:=w) (op:=.eql) (x:=s) (y:=a) (d:=.bool false) (by simp[pY,hn]) t
   have:=h2 β Φ;simp only[VR]at this;rw[h1,this]
  ·obtain⟨v,h1,h2⟩:=E2 (P:=P) (w:=w) (op:=.neq) (x:=s) (y:=a) (d:=.bool true) (by simp[pY,hn]) t
   have:=h2 β Φ;simp only[VR]at this;rw[h1,this]
 ·cases h
theorem WO {op:UnOp}{x d:D}(h:rB op x=some d){vx:Value}(hx:VR x β Φ vx):∃v,(Op.unary op vx).run P w=.ok v w∧VR d β Φ v:=by
 unfold rB at h;split at h
 ·obtain rfl:=hx.fG
  split at h
  ·cases h;exact⟨_,by simp[Op.unary,Op.intArith];rfl,by simp[VR]⟩
  ·cases h;exact⟨_,by simp only[Op.unary,Op.intBits,Sem.run_pure];rfl,by simp[VR]⟩
  ·cases h
 ·obtain rfl:=hx.sA
  split at h
  ·cases h;exact⟨_,by simp[Op.unary];rfl,by simp[VR]⟩
  ·cases h
 ·cases h
end
end Go.AM
namespace Go.AM
theorem bJ.drop:∀(n:Nat) (cs:List D) {Φ :Fz} {cur:Array Value} {o:Nat},bJ cs Φ cur o->bJ (cs.drop n) Φ cur (o+n)
 | 0,cs,_,_,_,h=>by simpa using h
 | n+1,[],_,_,_,_=>by simp[bJ]
 | n+1,d::ds,_,_,o,h=>by
  simp only[bJ]at h;have:=bJ.drop n ds h.2;rw[show o+(n+1)=o+1+n by omega];simpa using this
theorem bJ.take:∀(n:Nat) (cs:List D) {Φ :Fz} {cur:Array Value} {o:Nat},bJ cs Φ cur o->bJ (cs.take n) Φ cur o
 | 0,cs,_,_,_,h=>by simp[bJ]
 | n+1,[],_,_,_,_=>by simp[bJ]
 | n+1,d::ds,_,_,o,h=>by
  simp only[bJ,List.take_succ_cons]at h ⊢;exact⟨h.1,bJ.take n ds h.2⟩
theorem bJ.Fx:∀(cs:List D) {β:Bk} {Φ :Fz} {cur:Array Value} {o:Nat},bJ cs Φ cur o->∃vs,aE cs β Φ vs∧∀j u,vs[j]? =some u->cur[o+j]? =some u
 | [],_,_,_,_,_=>⟨[],rfl,by simp⟩
 | d::ds,β,_,_,o,h=>by
  simp only[bJ]at h;obtain⟨⟨v,h1,h2,h3⟩,h4⟩:=h;obtain⟨vs,h5,h6⟩:=bJ.Fx ds (β:=β) h4;refine⟨v::vs,⟨v,vs,rfl,VR.closed d h2 h3,h5⟩,fun j u hj=>?_⟩
  cases j with
  | zero=>simp at hj;subst hj;simpa using h1
  | succ j=>rw[show o+(j+1)=o+1+j by omega];exact h6 j u (by simpa using hj)
theorem aE.length:∀ {ds:List D} {β:Bk} {Φ :Fz} {vs:List Value},aE ds β Φ vs->vs.length=ds.length
 | [],_,_,_,h=>by simp[aE]at h;subst h;rfl
 | d::ds,_,_,_,h=>by
  simp only[aE]at h;obtain⟨v,r,rfl,_,h2⟩:=h;simp[aE.length h2]
theorem aE.get:∀ {ds:List D} {β:Bk} {Φ :Fz} {vs:List Value} {i:Nat} {d:D},aE ds β Φ vs->ds[i]? =some d->∃v,vs[i]? =some v∧VR d β Φ v
 | [],_,_,_,_,_,_,hi=>by simp at hi
 | x::ds,_,_,_,0,d,h,hi=>by
  simp only[aE]at h;obtain⟨v,r,rfl,h1,h2⟩:=h;simp at hi;subst hi;exact⟨v,rfl,h1⟩
 | x::ds,_,_,_,i+1,d,h,hi=>by
  simp only[aE]at h;obtain⟨v,r,rfl,h1,h2⟩:=h;obtain⟨u,h3,h4⟩:=aE.get h2 (by simpa using hi);exact⟨u,by simpa using h3,h4⟩
theorem aE.drop:∀(n:Nat) {ds:List D} {β:Bk} {Φ :Fz} {vs:List Value},aE ds β Φ vs->aE (ds.drop n) β Φ (vs.drop n)
 | 0,_,_,_,_,h=>by simpa using h
 | n+1,[],_,_,_,h=>by simp[aE]at h;subst h;simp[aE]
 | n+1,d::ds,_,_,_,h=>by
  simp only[aE]at h;obtain⟨v,r,rfl,h1,h2⟩:=h;simpa using aE.drop n h2
theorem aE.take:∀(n:Nat) {ds:List D} {β:Bk} {Φ :Fz} {vs:List Value},aE ds β Φ vs->aE (ds.take n) β Φ (vs.take n)
 | 0,_,_,_,_,h=>by simp[aE]
 | n+1,[],_,_,_,h=>by simp[aE]at h;subst h;simp[aE]
 | n+1,d::ds,_,_,_,h=>by
  simp only[aE]at h;obtain⟨v,r,rfl,h1,h2⟩:=h;simp only[List.take_succ_cons,aE];exact⟨v,_,rfl,h1,aE.take n h2⟩
theorem aE.append:∀ {ds es:List D} {β:Bk} {Φ :Fz} {vs us:List Value},aE ds β Φ vs->aE es β Φ us->aE (ds++es) β Φ (vs++us)
 | [],_,_,_,_,_,h,k=>by simp[aE]at h;subst h;simpa using k
 | d::ds,_,_,_,_,_,h,k=>by
  simp only[aE]at h;obtain⟨v,r,rfl,h1,h2⟩:=h;simp only[List.cons_append,aE];exact⟨v,_,rfl,h1,aE.append h2 k⟩
theorem aE.splice {cs ds:List D}{β:Bk}{Φ :Fz}{vs us:List Value}(off:Nat)(h:aE cs β Φ vs)(k:aE ds β Φ us):aE (Go.AM.splice cs off ds) β Φ (vs.take off++us++vs.drop (off+us.length)):=by
 unfold Go.AM.splice;rw[aE.length k];exact aE.append (aE.append (h.take _) k) (h.drop _)
theorem aE.set {cs:List D}{β:Bk}{Φ :Fz}{vs:List Value}(h:aE cs β Φ vs){i:Nat}{d:D}{v:Value}(hv:VR d β Φ v)(hi:vs[i]? =some v):aE (cs.set i d) β Φ vs:=by
 induction i generalizing cs vs with
 | zero=>
  cases cs with
  | nil=>simpa using h
  | cons c cs=>
   simp only[aE]at h;obtain⟨u,r,rfl,h1,h2⟩:=h;simp at hi;subst hi;exact⟨_,_,rfl,hv,h2⟩
 | succ i ih=>
  cases cs with
  | nil=>simpa using h
  | cons c cs=>
   simp only[aE]at h;obtain⟨u,r,rfl,h1,h2⟩:=h;exact⟨_,_,rfl,h1,ih h2 (by simpa using hi)⟩
theorem D.cW(a c:List D):D.aF (a++c)=(D.aF a && D.aF c):=by
 induction a with
 | nil=>simp[D.aF]
 | cons x r ih=>simp[D.aF,ih,Bool.and_assoc]
theorem D.cS(n:Nat)(a c:List D):D.aD n (a++c)=(D.aD n a && D.aD n c):=by
 induction a with
 | nil=>simp[D.aD]
 | cons x r ih=>simp[D.aD,ih,Bool.and_assoc]
theorem D.HB {a:List D}(n:Nat)(h:D.aF a=true):D.aF (a.take n)=true:=by
 rw[← List.take_append_drop n a,D.cW,Bool.and_eq_true]at h;exact h.1
theorem D.zAN {a:List D}(n:Nat)(h:D.aF a=true):D.aF (a.drop n)=true:=by
 rw[← List.take_append_drop n a,D.cW,Bool.and_eq_true]at h;exact h.2
theorem D.unders_take {a:List D}{k:Nat}(n:Nat)(h:D.aD k a=true):D.aD k (a.take n)=true:=by
 rw[← List.take_append_drop n a,D.cS,Bool.and_eq_true]at h;exact h.1
theorem D.V0 {a:List D}{k:Nat}(n:Nat)(h:D.aD k a=true):D.aD k (a.drop n)=true:=by
 rw[← List.take_append_drop n a,D.cS,Bool.and_eq_true]at h;exact h.2
theorem D.Z5 {a c:List D}(n:Nat)(h:D.aF a=true)(k:D.aF c=true):D.aF (Go.AM.splice a n c)=true:=by
 unfold Go.AM.splice;simp[D.cW,D.HB n h,k,D.zAN _ h]
theorem D.C6 {a c:List D}{m:Nat}(n:Nat)(h:D.aD m a=true)(k:D.aD m c=true):D.aD m (Go.AM.splice a n c)=true:=by
 unfold Go.AM.splice;simp[D.cS,D.unders_take n h,k,D.V0 _ h]
theorem V3(a c:List D)(n:Nat)(h:n+c.length<=a.length):(Go.AM.splice a n c).length=a.length:=by
 unfold Go.AM.splice;simp;omega
theorem HG {d:D}{β:Bk}{Φ :Fz}{v:Value}(h1:d.one=true)(h:VR d β Φ v):v.oneCell'=true:=by
 cases d <;> simp[D.one]at h1 <;> simp only[VR]at h
 all_goals first
  | (subst h;rfl)
  | (obtain⟨rfl,_⟩:=h;rfl)
  | (obtain⟨_,rfl⟩:=h;rfl)
  | (obtain⟨_,rfl,_⟩:=h;rfl)
  | (obtain⟨_,_,rfl,_⟩:=h;rfl)
  | (obtain⟨_,_,_,rfl,_⟩:=h;rfl)
  | (obtain⟨_,_,_,rfl⟩:=h;rfl)
  | skip
 rcases h with⟨_,_,_,⟨_,_,rfl⟩ | ⟨_,_,_,_,rfl,_⟩⟩ | ⟨_,_,_,_,rfl⟩ <;> rfl
theorem sV:∀ {ds:List D} {β:Bk} {Φ :Fz} {vs:List Value},D.aF ds=true->aE ds β Φ vs->∀u∈vs,u.oneCell'=true
 | [],_,_,_,_,h=>by simp[aE]at h;subst h;simp
 | d::ds,_,_,_,h1,h=>by
  simp only[aE]at h;obtain⟨v,r,rfl,h2,h3⟩:=h;simp only[D.aF,Bool.and_eq_true]at h1;intro u hu
  cases hu with
  | head=>exact HG h1.1 h2
  | tail _ hu=>exact sV h1.2 h3 u hu
theorem zJ2 {v:Value}(h:v.oneCell'=true):v.cells= #[v]:=by
 cases v <;> first | rfl | simp[Value.oneCell']at h
theorem VR.cells {d:D}{β:Bk}{Φ :Fz}{v:Value}(h1:D.aF d.cells=true)(h:VR d β Φ v):aE d.cells β Φ v.cells.toList:=by
 cases d
 case agg cs=>
  simp only[VR]at h;obtain⟨vs,rfl,h2⟩:=h;simpa [Value.cells,D.cells]using h2
 all_goals
  simp only[D.cells,D.aF,Bool.and_true]at h1 ⊢
  first
   | (simp[D.one]at h1;done)
   | (rw[zJ2 (HG h1 h)];exact⟨_,_,rfl,h,rfl⟩)
theorem D.Gi {d:D}{n:Nat}(h:d.under n=true):D.aD n d.cells=true:=by
 cases d <;> simp_all [D.cells,D.aD,D.under]
theorem sC(a:Addr)(n:Nat)(h:a.spot=none):a.add n=⟨a.block,a.off+n,none⟩:=by
 unfold Addr.add;split
 ·rename_i e;subst e;cases a;simp at h;subst h;rfl
 ·rfl
section
variable {P:Program}{G:Nat->Option (List D)}{β:Bk}{Φ :Fz}{b:Nat}{H:aA}{w:World}{env:Env}{a:Act}
theorem kH {t:TypeId}{s:Nat}(h:dP P t=some s):(sizeOf t).run P w=.ok s w:=by
 unfold dP at h;split at h
 ·rename_i i hi;cases h
  simp[sizeOf,typeInfo,hi]
 ·cases h
theorem VR.Lo {cs:List D}{ad:Addr}(n:Nat)(h:cs=[]∨∃cur e fr, Φ ad.block=some (.cells cur e fr)∧ad.spot=none∧bJ cs Φ cur ad.off):VR (.fptr (cs.drop n)) β Φ (.pointer (some (ad.add n))):=by
 simp only[VR];refine⟨ad.add n,rfl,?_⟩;rcases h with rfl | ⟨cur,e,fr,h1,h2,h3⟩
 ·left;simp
 ·right
  rw[sC _ _ h2];exact⟨cur,e,fr,h1,rfl,bJ.drop n cs h3⟩
theorem Hc {s:TypeId}{fs:Array Field}{f:Nat}{fd:Field}{sz:Nat}(h1:P.underlying s=some (.struct fs))(h2:fs[f]? =some fd)(h3:dP P fd.type=some sz)(h4:0<sz)(ad:Addr):
  (Instr.fieldAt s (.pointer (some ad)) f).run P w=.ok (.pointer (some (ad.add fd.offset))) w:=by
 have h5:sz≠0:=by omega
 simp[Instr.fieldAt,run_underlying h1,h2,Instr.sureAddr,fieldPlace,kH h3,h5]
theorem FH {t e:TypeId}{s n cap:Nat}{ad:Addr}{k:IntKind}{j:Int}(h1:P.underlying t=some (.slice e))(h2:dP P e=some s)(h3:0<=j)(h4:j<n):
  (Instr.indexAt t (.slice (some ad) n cap) (.int k j)).run P w=.ok (.pointer (some (ad.add (j.toNat*s)))) w:=by
 simp[Instr.indexAt,run_underlying h1,kH h2,asIntOf,h3,h4]
theorem FG {t e:TypeId}{s n:Nat}{ad:Addr}{k:IntKind}{j:Int}(h1:P.underlying t=some (.array n e))(h2:dP P e=some s)(h3:0<=j)(h4:j<n):
  (Instr.indexAt t (.pointer (some ad)) (.int k j)).run P w=.ok (.pointer (some (ad.add (j.toNat*s)))) w:=by
 simp[Instr.indexAt,run_underlying h1,kH h2,asIntOf,h3,h4,Instr.sureAddr]
theorem WY {t:TypeId}{s:Bs}{k:IntKind}{j:Int}{c:UInt8}(h1:P.underlying t=some .string)(h2:0<=j)(h3:s[j.toNat]? =some c):
  (Instr.index t (.string ⟨s.toArray⟩) (.int k j)).run P w=.ok (.int .u8 c.toNat) w:=by
 have hs:(⟨s.toArray⟩:ByteArray)[j.toNat]? =some c:=by
  have hl:j.toNat<s.length:=gZ h3;have:(⟨s.toArray⟩:ByteArray)[j.toNat]? =some ((⟨s.toArray⟩:ByteArray)[j.toNat]'hl):=getElem?_pos _ _ _;rw[this];rw[List.getElem?_eq_getElem hl]at h3;injection h3 with h3;rw[← h3];rfl
 simp only[Instr.index,asIntOf,Sem.run_bind,Sem.run_pure,Result.andThen_ok,run_underlying h1,h2,if_true,hs]
theorem zP(h:WR P G β Φ b H w)(he:ER β Φ env a.tmps){x:Option Operand}{xa:Option Arg}(hc:hY x=some xa):
  (x=none∧xa=none)∨∃y ya,x=some y∧xa=some ya∧VR (aI G env ya) β Φ (a.eval y):=by
 cases x with
 | none=>simp[hY]at hc;subst hc;exact .inl ⟨rfl,rfl⟩
 | some y=>
  simp only[hY]at hc;split at hc
  ·rename_i ya hy;cases hc;exact .inr ⟨y,ya,rfl,rfl,bH h he hy⟩
  ·cases hc
theorem G3 {d:D}{top dflt r:Nat}(h:dY (some d) top dflt=some r):∃k i,d=.int k i∧0<=i∧i<=top∧r=i.toNat∧r<=top:=by
 unfold dY at h;split at h
 ·rename_i e;cases e
 ·rename_i k i e
  cases e
  split at h
  ·rename_i hi;cases h;exact⟨k,i,rfl,hi.1,hi.2,rfl,by omega⟩
  ·cases h
 ·cases h
theorem E1 {k:IntKind}{i:Int}{y:Nat}(code:BoundsCode)(h0:0<=i)(h1:i<=y):(Instr.sliceBound (.int k i) y code).run P w=.ok i.toNat w:=by
 simp[Instr.sliceBound,asIntOf,h0,h1]
theorem E0(h:WR P G β Φ b H w)(he:ER β Φ env a.tmps){lo hi:Option Operand}{la ha:Option Arg}(hlo:hY lo=some la)(hhi:hY hi=some ha){len cap hN lN:Nat}(isSlice:Bool)
  (h1:dY (cZ G env ha) len len=some hN) (h2:dY (cZ G env la) hN 0=some lN) (hcap:len<=cap):
  (Instr.sliceBounds isSlice len cap (lo.map a.eval) (hi.map a.eval) none).run P w=.ok (lN,hN,cap) w∧lN<=hN∧hN<=len:=by
 have step1:hN<=len∧∀code,((match(hi.map a.eval)with | some v=>Instr.sliceBound v cap code | none=>pure len):Sem Nat).run P w=.ok hN w:=by
  rcases zP h he hhi with⟨rfl,rfl⟩ | ⟨y,ya,rfl,rfl,hv⟩
  ·simp[cZ,dY]at h1;subst h1;exact⟨Nat.le_refl _,fun _=>by simp⟩
  ·simp only[cZ]at h1
   obtain⟨k,i,hd,g0,g1,g2,g3⟩:=G3 h1;rw[hd]at hv;have:=hv.fG;refine⟨g3,fun code=>?_⟩;simp only[Option.map_some,this];rw[E1 code g0 (by omega),g2]
 obtain⟨hle,hrun⟩:=step1;rcases zP h he hlo with⟨rfl,rfl⟩ | ⟨y,ya,rfl,rfl,hv⟩
 ·simp[cZ,dY]at h2;subst h2
  refine⟨?_,Nat.zero_le _,hle⟩
  cases hhi':hi.map a.eval with
  | none=>
   have:=hrun .sliceAcap;simp only[hhi']at this;simp at this;subst this;simp[Instr.sliceBounds]
  | some v=>
   have:=hrun (if isSlice then .sliceAcap else .sliceAlen);simp only[hhi']at this;simp[Instr.sliceBounds,this]
 ·simp only[cZ]at h2
  obtain⟨k,i,hd,g0,g1,g2,g3⟩:=G3 h2;rw[hd]at hv;have hv:=hv.fG;have hb:=E1 (P:=P) (w:=w) (k:=k) .sliceB g0 g1;refine⟨?_,g3,hle⟩
  cases hhi':hi.map a.eval with
  | none=>
   have:=hrun .sliceAcap;simp only[hhi']at this;simp at this;subst this;simp[Instr.sliceBounds,hv,hb,g2]
  | some v=>
   have:=hrun (if isSlice then .sliceAcap else .sliceAlen);simp only[hhi']at this;simp[Instr.sliceBounds,this,hv,hb,g2]
theorem WU(h:WR P G β Φ b H w)(he:ER β Φ env a.tmps){t:TypeId}{lo hi:Option Operand}{la ha:Option Arg}(ht:P.underlying t=some .string)(hlo:hY lo=some la)(hhi:hY hi=some ha){s:Bs}{d:D}
  (hd:fD s (cZ G env la) (cZ G env ha)=some d):∃v,(Instr.sliceAt t (.string ⟨s.toArray⟩) (lo.map a.eval) (hi.map a.eval) none).run P w=.ok v w∧VR d β Φ v:=by
 unfold fD at hd;split at hd
 ·rename_i hN h1
  split at hd
  ·rename_i lN h2
   cases hd
   have hs:(⟨s.toArray⟩:ByteArray).size=s.length:=rfl;obtain⟨hr,hl1,hl2⟩:=E0 h he hlo hhi false h1 h2 (Nat.le_refl _);refine⟨.string ((⟨s.toArray⟩:ByteArray).extract lN hN),?_,?_⟩
   ·simp[Instr.sliceAt,Instr.slice,run_underlying ht,hs,hr]
   ·simp only[VR]
    congr 1;apply ByteArray.ext;apply Array.ext';simp[ByteArray.extract,ByteArray.copySlice];rw[List.drop_take]
  ·cases hd
 ·cases hd
theorem VR.zHU {cs:List D}{n es l h cap':Nat}{ad ad':Addr}(hn:n*es=cs.length)(hl:l<=h)(hh:h<=n)(hc:h-l<=cap')
  (hv:cs=[]∨∃cur e fr, Φ ad.block=some (.cells cur e fr)∧ad.spot=none∧bJ cs Φ cur ad.off) (had:l<h->ad'=ad.add (l*es)):
  VR (.fsl ((cs.take (h*es)).drop (l*es)) (h-l)) β Φ (.slice (some ad') (h-l) cap'):=by
 simp only[VR];refine⟨ad',cap',hc,rfl,?_⟩;rcases Nat.lt_or_ge l h with hlt | hge
 ·rcases hv with rfl | ⟨cur,e,fr,h1,h2,h3⟩
  ·left;simp
  ·right
   rw[had hlt,sC _ _ h2];exact⟨cur,e,fr,h1,rfl,bJ.drop _ _ (bJ.take _ _ h3)⟩
 ·left
  have:h=l:=by omega
  subst this;rw[List.drop_eq_nil_iff];simp;omega
theorem WV(h:WR P G β Φ b H w)(he:ER β Φ env a.tmps){t e:TypeId}{es:Nat}{lo hi mx:Option Operand}{la ha ma:Option Arg}(ht:P.underlying t=some (.slice e))(hes:dP P e=some es)(hes0:0<es)
  (hlo:hY lo=some la) (hhi:hY hi=some ha) (hmx:hY mx=some ma) {x d:D} {vx:Value} (hx:VR x β Φ vx)
  (hd:iD es x (cZ G env la) (cZ G env ha) (cZ G env ma)=some d):∃v,(Instr.sliceAt t vx (lo.map a.eval) (hi.map a.eval) (mx.map a.eval)).run P w=.ok v w∧VR d β Φ v:=by
 have none_of:cZ G env ma=none->mx=none:=fun hm=>by
  rcases zP h he hmx with⟨rfl,_⟩ | ⟨y,ya,rfl,rfl,_⟩
  ·rfl
  ·simp[cZ]at hm
 have zero:∀(k k':IntKind) (i:Int) (n cap:Nat) (ad:Option Addr) (hN:Nat),cZ G env ma=some (.int k 0)->cZ G env ha=some (.int k' 0)->dY (cZ G env la) 0 0=some hN->
   (Instr.sliceAt t (.slice ad n cap) (lo.map a.eval) (hi.map a.eval) (mx.map a.eval)).run P w=.ok (.slice ad 0 0) w:=by
  intro k k' i n cap ad hN hm hh hl;rcases zP h he hmx with⟨_,rfl⟩ | ⟨y,ya,rfl,rfl,hv⟩
  ·simp[cZ]at hm
  rcases zP h he hhi with⟨_,rfl⟩ | ⟨y',ya',rfl,rfl,hv'⟩
  ·simp[cZ]at hh
  simp only[cZ,Option.some.injEq]at hm hh;rw[hm]at hv;rw[hh]at hv';have e1:=hv.fG;have e2:=hv'.fG;have b1:=E1 (P:=P) (w:=w) (k:=k) (i:=0) (y:=cap) .slice3Acap (Int.le_refl _) (by omega);have b2:=E1 (P:=P) (w:=w) (k:=k') (i:=0) (y:=0) .slice3B (Int.le_refl _) (by omega);rcases zP h he hlo with⟨rfl,rfl⟩ | ⟨y2,ya2,rfl,rfl,hv2⟩
  ·simp[Instr.sliceAt,Instr.slice,run_underlying ht,Instr.sliceBounds,e1,e2,b1,b2,kH hes]
  ·simp only[cZ]at hl
   obtain⟨k2,i2,hd2,g0,g1,g2,g3⟩:=G3 hl;rw[hd2]at hv2;have e3:=hv2.fG;have hz:i2=0:=by omega
   subst hz;have b3:=E1 (P:=P) (w:=w) (k:=k2) (i:=0) (y:=0) .slice3C (Int.le_refl _) (by omega);simp[Instr.sliceAt,Instr.slice,run_underlying ht,Instr.sliceBounds,e1,e2,e3,b1,b2,b3,kH hes]
 unfold iD at hd;split at hd
 ·
  split at hd
  ·rename_i hN lN h1 h2 h3
   cases hd
   have hz:hN=0:=by
    cases hq:cZ G env ha with
    | none=>rw[hq]at h1;simp[dY]at h1;exact h1.symm
    | some q=>rw[hq]at h1;obtain⟨_,_,_,_,_,_,g⟩:=G3 h1;omega
   subst hz;obtain⟨hr,hl1,hl2⟩:=E0 h he hlo hhi true (len:=0) (cap:=0) h1 h2 (Nat.le_refl _);have:lN=0:=by omega
   subst this;simp only[VR]at hx;subst hx;have hm:=none_of h3;subst hm;exact⟨_,by simp[Instr.sliceAt,Instr.slice,run_underlying ht,hr,kH hes];rfl,by simp[VR]⟩
  ·cases hd
 ·split at hd
  ·rename_i hN lN h1 h2 h3
   cases hd
   have hz:hN=0:=by
    cases hq:cZ G env ha with
    | none=>rw[hq]at h1;simp[dY]at h1;exact h1.symm
    | some q=>rw[hq]at h1;obtain⟨_,_,_,_,_,_,g⟩:=G3 h1;omega
   subst hz;obtain⟨hr,hl1,hl2⟩:=E0 h he hlo hhi true (len:=0) (cap:=0) h1 h2 (Nat.le_refl _);have:lN=0:=by omega
   subst this;simp only[VR]at hx;obtain⟨ad,rfl⟩:=hx;have hm:=none_of h3;subst hm;exact⟨_,by simp[Instr.sliceAt,Instr.slice,run_underlying ht,hr,kH hes];rfl,by simp[VR]⟩
  ·cases hd
 ·rename_i cs n
  simp only[VR]at hx;obtain⟨ad,cap,hcap,rfl,hv⟩:=hx;split at hd
  ·rename_i hn
   split at hd
   ·rename_i hm0
    split at hd
    ·rename_i hN h1
     split at hd
     ·rename_i lN h2
      cases hd
      obtain⟨hr,hl1,hl2⟩:=E0 h he hlo hhi true h1 h2 hcap;have hm:=none_of hm0;subst hm;refine⟨.slice (some (if cap=lN then ad else ad.add (lN*es))) (hN-lN) (cap-lN),?_,VR.zHU hn hl1 hl2 (by omega) hv (fun hlt=>if_neg (by omega))⟩;simp only[Instr.sliceAt,Instr.slice,Sem.run_bind,run_underlying ht,Result.andThen_ok,Option.map_none,hr,kH hes,Sem.run_pure];split <;> rfl
     ·cases hd
    ·cases hd
   ·rename_i k hm0
    split at hd
    ·rename_i k' hN hh hl
     cases hd
     exact⟨_,zero k k' 0 n cap (some ad) hN hm0 hh hl,by simp[VR]⟩
    ·cases hd
   ·cases hd
  ·cases hd
 ·rename_i id hw off n
  simp only[VR]at hx;have hform:∃ad cap,vx=.slice ad n cap∧n<=cap∧(∀l hh,l<=hh->hh<=n->VR (.osl id hw (off+l*es) (hh-l)) β Φ (.slice (if cap=l then ad else ad.map (·.add (l*es))) (hh-l) (cap-l))):=by
   rcases hx with⟨k,c,h1,⟨rfl,h2,rfl⟩ | ⟨h2,a',cap,h3,rfl,h4⟩⟩ | ⟨h1,rfl,rfl,rfl,rfl⟩
   ·refine⟨_,_,rfl,h2,fun l hh hl hn=>?_⟩
    simp only[VR];left;refine⟨k,c,h1,?_⟩;by_cases hz:0+l*es=0
    ·left
     have hl0:l=0:=by
      rcases Nat.mul_eq_zero.1 (by omega:l*es=0)with h | h <;> omega
     subst hl0;refine⟨hz,by omega,?_⟩;simp[Addr.add]
    ·right
     refine⟨hz,if c=l then⟨k,0,none⟩else(⟨k,0,none⟩:Addr).add (l*es),c-l,by omega,by split <;> rfl,fun hne=>?_⟩;rw[if_neg (by omega),sC _ _ rfl]
   ·refine⟨_,_,rfl,h3,fun l hh hl hn=>?_⟩
    simp only[VR];left;refine⟨k,c,h1,.inr ⟨by omega,if cap=l then a' else a'.add (l*es),cap-l,by omega,by split <;> rfl,fun hne=>?_⟩⟩;have:=h4 (by omega);subst this;rw[if_neg (by omega),sC _ _ rfl]
   ·refine⟨none,0,rfl,Nat.le_refl _,fun l hh hl hn=>?_⟩
    have hl0:l=0:=by omega
    have hh0:hh=0:=by omega
    subst hl0;subst hh0;simp only[VR];right;refine⟨h1,?_⟩;simp
  obtain⟨ad,cap,rfl,hcap,hcut⟩:=hform;split at hd
  ·rename_i hm0
   split at hd
   ·rename_i hN h1
    split at hd
    ·rename_i lN h2
     cases hd
     obtain⟨hr,hl1,hl2⟩:=E0 h he hlo hhi true h1 h2 hcap;have hm:=none_of hm0;subst hm;refine⟨_,?_,hcut lN hN hl1 hl2⟩;simp only[Instr.sliceAt,Instr.slice,Sem.run_bind,run_underlying ht,Result.andThen_ok,Option.map_none,hr,kH hes,Sem.run_pure]
    ·cases hd
   ·cases hd
  ·rename_i k hm0
   split at hd
   ·rename_i k' hN hh hl
    cases hd
    exact⟨_,zero k k' 0 n cap ad hN hm0 hh hl,by simp[VR]⟩
   ·cases hd
  ·cases hd
 ·cases hd
end
end Go.AM
namespace Go.AM
section
variable {P:Program}{G:Nat->Option (List D)}{β:Bk}{Φ :Fz}{b:Nat}{H:aA}{w:World}{env:Env}{a:Act}
theorem zT {w:World}{k o j:Nat}{cur:Array Value}{e:TypeId}{fr:Nat×Nat}(h:w.heap[k]? =some (.cells cur e fr)):w.cell? ((⟨k,o,none⟩:Addr).add j)=cur[o+j]? :=by
 rw[sC _ _ rfl];simp[World.cell?,h]
theorem LV(h:WR P G β Φ b H w){p:D}{cs:List D}{v:Value}(hv:VR p β Φ v)(hc:hZ H p=some cs):
  ∃ad vs,v=.pointer (some ad)∧aE cs β Φ vs∧∀j u,vs[j]? =some u->w.cell? (ad.add j)=some u:=by
 unfold hZ at hc;split at hc
 ·cases hc
  simp only[VR]at hv;obtain⟨ad,rfl,hv⟩:=hv;rcases hv with rfl | ⟨cur,e,fr,h1,h2,h3⟩
  ·exact⟨ad,[],rfl,rfl,by simp⟩
  ·obtain⟨vs,h4,h5⟩:=bJ.Fx cs (β:=β) h3
   refine⟨ad,vs,rfl,h4,fun j u hj=>?_⟩;have:ad=⟨ad.block,ad.off,none⟩:=by cases ad;simp at h2;subst h2;rfl
   rw[this,zT (h.fz _ _ h1)];exact h5 j u hj
 ·rename_i id off
  split at hc
  ·rename_i cs' hcs
   cases hc
   simp only[VR]at hv;obtain⟨k,c,h1,rfl⟩:=hv;obtain⟨_,k',c',cur,e,h2,h3,h4⟩:=h.ch id _ hcs;rw[h1]at h2;cases h2;refine⟨_,cur.toList.drop off,rfl,h4.drop off,fun j u hj=>?_⟩;rw[zT h3];simpa using hj
  ·cases hc
 ·rename_i id hw off
  split at hc
  ·rename_i es cs' hcs
   split at hc
   ·rename_i hlen
    cases hc
    simp only[VR]at hv;obtain⟨k,c,h1,rfl⟩:=hv;obtain⟨_,_,_,h2⟩:=h.ch id _ hcs;simp only[Bool.false_eq_true,if_false]at h2;obtain⟨k',c',cur,e,h3,h4,h5,h6,h7,h8⟩:=h2;rw[hlen,h1]at h3;cases h3;refine⟨_,(cur.toList.take cs'.length).drop off,rfl,h8.drop off,fun j u hj=>?_⟩;rw[zT h4];rw[List.getElem?_drop,List.getElem?_take]at hj;split at hj
    ·simpa using hj
    ·cases hj
   ·cases hc
  ·cases hc
 ·cases hc
theorem E3 {t : TypeId} {ag : Bool} (h : lZ P t = some ag) : (isAgg t).run P w = .ok ag w := by
  unfold lZ at h
  split at h
  · rename_i fs hf; cases h; simp [isAgg, run_underlying hf]
  · rename_i n e hf; cases h; simp [isAgg, run_underlying hf]
  · rename_i d hne1 hne2 hf
    cases h
    simp only [isAgg, Sem.run_bind, run_underlying hf, Result.andThen_ok]
    first
      | rfl
      | (split
         · rename_i fs; exact absurd rfl (hne1 fs)
         · rename_i n e; exact absurd rfl (hne2 n e)
         · rfl)
  · cases h
theorem aE.head {cs:List D}{vs:List Value}{d:D}(h:aE cs β Φ vs)(hd:cs.head?=some d):∃v r,vs=v::r∧VR d β Φ v:=by
 cases cs with
 | nil=>cases hd
 | cons c cs=>
  simp at hd;subst hd;simp only[aE]at h;obtain⟨v,r,h1,h2,_⟩:=h;exact⟨v,r,h1,h2⟩
theorem FF {t:TypeId}{ag:Bool}{n:Nat}(h1:lZ P t=some ag)(h2:dP P t=some n){cs:List D}{vs:List Value}{d:D}{ad:Addr}(hv:aE cs β Φ vs)
  (hc:∀j u,vs[j]? =some u->w.cell? (ad.add j)=some u) (hd:aJ ag n cs=some d):∃v,(loadVar t ad).run P w=.ok v w∧VR d β Φ v:=by
 unfold aJ at hd
 cases ag with
 | true=>
  simp only[if_true]at hd;split at hd
  ·rename_i hn
   cases hd
   have hl:=aE.length hv;have hlen:(vs.take n).length=n:=by rw[List.length_take];omega
   have:=run_loadCells_list (P:=P) w ad (vs.take n) (fun j u hj=>hc j u (by
    rw[List.getElem?_take]at hj;split at hj
    ·exact hj
    ·cases hj))
   rw[hlen]at this;refine⟨.agg (vs.take n).toArray,?_,?_⟩
   ·simp[loadVar,E3 h1,kH h2,this]
   ·simp only[VR];exact⟨_,rfl,hv.take n⟩
  ·cases hd
 | false=>
  simp only[Bool.false_eq_true,if_false]at hd;obtain⟨v,r,rfl,h3⟩:=aE.head hv hd;have:=hc 0 v rfl;have h0:ad.add 0=ad:=by simp[Addr.add]
  rw[h0]at this;exact⟨v,by simp[loadVar,E3 h1,this],h3⟩
theorem WX(h:WR P G β Φ b H w){t:TypeId}{ag:Bool}{n:Nat}(h1:lZ P t=some ag)(h2:dP P t=some n){p d:D}{v:Value}(hv:VR p β Φ v){cs:List D}(hc:hZ H p=some cs)(hd:aJ ag n cs=some d):
  ∃u,(Instr.loadAt t v).run P w=.ok u w∧VR d β Φ u:=by
 obtain⟨ad,vs,rfl,h3,h4⟩:=LV h hv hc;obtain⟨u,h5,h6⟩:=FF h1 h2 h3 h4 hd;exact⟨u,by simp[Instr.loadAt,Instr.sureAddr,h5],h6⟩
theorem uO(w:World)(g:Nat)(old cs:Array Value)(t:TypeId)(fr:Nat×Nat)(hg:w.heap[g]? =some (.cells old t fr)):Turn w (w.setRow g cs) g (.cells cs t fr):=
 ⟨rfl,rfl,rfl,by simp[World.setRow],setRow_heap w g old cs t fr hg,fun i hi=>by simp[World.setRow,Array.getElem?_modify,Ne.symm hi]⟩
theorem W0 {t:TypeId}{n:Nat}(h2:dP P t=some n){ad:Addr}{v:Value}(hsz:v.cells.size=n){w':World}(hr:(storeCells ad v.cells.toList).run P w=.ok () w'):
  (Instr.storeAt t (.pointer (some ad)) v).run P w=.ok () w':=by
 simp only[Instr.storeAt,Instr.sureAddr,storeVar,Sem.run_bind,Sem.run_pure,Result.andThen_ok,kH h2];rw[if_neg (by simp[hsz])];simpa using hr
theorem WT(h:WR P G β Φ b H w){t:TypeId}{n:Nat}(h2:dP P t=some n){p d:D}{vp vd:Value}(hp:VR p β Φ vp)(hd:VR d β Φ vd){H':aA}(hs:jI b H n p d=some H'):
  ∃w',(Instr.storeAt t vp vd).run P w=.ok () w'∧WR P G β Φ b H' w'∧Ext β Φ H w β Φ H' w':=by
 unfold jI at hs;split at hs
 all_goals try (cases hs;done)
 rename_i hlen;split at hs
 ·rename_i id off
  split at hs
  all_goals try (cases hs;done)
  rename_i cs hcs;split at hs
  all_goals try (cases hs;done)
  rename_i hoff;split at hs
  all_goals try (cases hs;done)
  rename_i hst
  cases hs
  simp only[storable,Bool.and_eq_true]at hst;simp only[VR]at hp;obtain⟨k,c,h1,rfl⟩:=hp;obtain⟨g1,k',c',cur,e,h3,h4,h5⟩:=h.ch id _ hcs;rw[h1]at h3;cases h3;have hvd:=VR.cells hst.2 hd;have hl2:=aE.length hvd;have hl3:=aE.length h5;have hsz:vd.cells.size=n:=by rw[← hlen, ← hl2];simp
  have hcur:cur.size=cs.length:=by rw[← hl3];simp
  have hrun:=run_storeCells_at P k off e vd.cells.toList 0 cur w h4 (by simp;omega) (sV hst.2 hvd);simp only[Nat.add_zero]at hrun;refine⟨_,W0 h2 hsz hrun,?_⟩;have hturn:=uO w k cur (cur.toList.take off++vd.cells.toList++cur.toList.drop (off+vd.cells.toList.length)).toArray e (0,0) h4;refine h.turn hcs (by simp[Chunk.blk,h1]) hturn (fun _ _ _=>rfl) (fun _ _ h=>h) (fun h=>h) ?_ (by simp[Chunk.blk,h1]) ?_
  ·exact⟨D.Z5 off g1 hst.2,k,c,_,e,h1,hturn.here,by simpa using aE.splice off h5 hvd⟩
  ·have hids:=h.ids id _ hcs
   refine D.C6 off hids ?_;split
   ·rename_i hlt;rw[if_pos hlt]at hst;exact D.dI _ (by omega) hst.1
   ·rename_i hge;rw[if_neg hge]at hst;exact hst.1
 ·rename_i id hw off
  split at hs
  all_goals try (cases hs;done)
  rename_i es cs hcs;split at hs
  all_goals try (cases hs;done)
  rename_i hhw;split at hs
  all_goals try (cases hs;done)
  rename_i hoff;split at hs
  all_goals try (cases hs;done)
  rename_i hst
  cases hs
  simp only[storable,Bool.and_eq_true]at hst;simp only[VR]at hp;obtain⟨k,c,h1,rfl⟩:=hp;obtain⟨g0,g1,gt,hrest⟩:=h.ch id _ hcs;simp only[Bool.false_eq_true,if_false]at hrest;obtain⟨k',c',cur,e,h3,h4,h5,h6,h7,h8⟩:=hrest;rw[hhw,h1]at h3;cases h3;have hvd:=VR.cells hst.2 hd;have hl2:=aE.length hvd;have hsz:vd.cells.size=n:=by rw[← hlen, ← hl2];simp
  have hl4:vd.cells.toList.length=n:=by simpa using hsz
  have hrun:=run_storeCells_at P k off e vd.cells.toList 0 cur w h4 (by simp;omega) (sV hst.2 hvd);simp only[Nat.add_zero]at hrun;refine⟨_,W0 h2 hsz hrun,?_⟩;have hturn:=uO w k cur (cur.toList.take off++vd.cells.toList++cur.toList.drop (off+vd.cells.toList.length)).toArray e (0,0) h4;have hsl:(splice cs off d.cells).length=cs.length:=V3 _ _ _ (by omega);refine h.turn hcs (by simp[Chunk.blk,hhw,h1]) hturn (fun _ _ _=>rfl) (fun _ _ h=>h) (fun h=>h) ?_ (by simp[Chunk.blk,hsl,hhw,h1]) ?_
  ·refine⟨g0,D.Z5 off g1 hst.2,fun v hv=>gt v (by omega),?_⟩
   simp only[Bool.false_eq_true,if_false];refine⟨k,c,_,e,by rw[hsl,hhw];exact h1,hturn.here,?_,h6,?_,?_⟩
   ·simp;omega
   ·rw[hsl];simp;omega
   ·rw[hsl]
    have:=aE.splice off h8 hvd;simp only[List.toList_toArray];have e1:cs.length=off+(vd.cells.toList.length+(cs.length-(off+vd.cells.toList.length))):=by omega
    have e2:List.take cs.length (List.take off cur.toList++vd.cells.toList++List.drop (off+vd.cells.toList.length) cur.toList)=
      List.take off (List.take cs.length cur.toList)++vd.cells.toList++List.drop (off+vd.cells.toList.length) (List.take cs.length cur.toList):=by
     have hcl:cur.toList.length=cur.size:=by simp
     rw[List.take_append,List.take_append,List.take_take,List.take_take,List.drop_take];congr 1
     ·congr 1
      ·congr 1;omega
      ·rw[List.take_of_length_le];simp;omega
     ·congr 1;simp;omega
    rw[e2];exact this
  ·have hids:=h.ids id _ hcs
   refine D.C6 off hids ?_;split
   ·rename_i hlt;rw[if_pos hlt]at hst;exact D.dI _ (by omega) hst.1
   ·rename_i hge;rw[if_neg hge]at hst;exact hst.1
 ·cases hs
end
end Go.AM
namespace Go.AM
theorem JZ(off:Nat):∀(l:List Value) (cs:Array Value) (k:Nat),off+k+l.length<=cs.size->
  ((l.zipIdx k).foldl (fun(cs:Array Value) (x:Value×Nat)=>cs.setIfInBounds (off+x.2) x.1) cs).toList=cs.toList.take (off+k)++l++cs.toList.drop (off+k+l.length)
 | [],cs,k,h=>by simp
 | v::l,cs,k,h=>by
  simp only[List.zipIdx_cons,List.foldl_cons];rw[JZ off l _ (k+1) (by simp at h ⊢;omega)];have hlt:off+k<cs.size:=by simp at h;omega
  simp only[Array.toList_setIfInBounds,List.length_cons];rw[List.take_set,List.drop_set];have h1:((cs.toList.take (off+(k+1))).set (off+k) v)=cs.toList.take (off+k)++[v]:=by
   rw[show off+(k+1)=(off+k)+1 by omega,List.take_succ_eq_append_getElem (by simpa using hlt)];rw[List.set_append_right _ _ (by simp;omega)];simp;have:off+k-min (off+k) cs.size=0:=by omega
   rw[this];rfl
  rw[h1];have h2:¬(off+(k+1)+l.length<=off+k):=by omega
  simp only[show off+(k+1)+l.length=off+k+(l.length+1) by omega];rw[if_pos (by omega)];simp
theorem zIj(off:Nat)(v:Value)(cs:Array Value)(h:off+v.cells.size<=cs.size):
  (v.cells.zipIdx.foldl (fun(cs:Array Value) (x:Value×Nat)=>cs.setIfInBounds (off+x.2) x.1) cs).toList=cs.toList.take off++v.cells.toList++cs.toList.drop (off+v.cells.toList.length):=by
 rw[← Array.foldl_toList,Array.toList_zipIdx];simpa using JZ off v.cells.toList cs 0 (by simpa using h)
section
variable {P:Program}{G:Nat->Option (List D)}{β:Bk}{Φ :Fz}{b:Nat}{H:aA}{w:World}{env:Env}{a:Act}
theorem KF(h:WR P G β Φ b H w)(he:ER β Φ env a.tmps){place:Nat->Option (Nat×Nat)}:
  ∀ {ps:List (Nat×Operand)} {as:List (Nat×Nat×Arg)} {cs cs':List D} {arr:Array Value},kP place ps=some as->aE cs β Φ arr.toList->fT cs (gK G env as)=some cs'->
   ∃arr',Instr.fill place arr (ps.map fun(i,x)=>(i,a.eval x))=some arr'∧aE cs' β Φ arr'.toList:=by
 intro ps
 induction ps with
 | nil=>
  intro as cs cs' arr hc hv hf;simp[kP]at hc;subst hc;simp[gK,fT]at hf;subst hf;exact⟨arr,rfl,hv⟩
 | cons p r ih=>
  intro as cs cs' arr hc hv hf;obtain⟨i,x⟩:=p;simp only[kP]at hc;split at hc
  ·rename_i o s xa rs hp hx hr
   cases hc
   simp only[gK,fT]at hf;split at hf
   ·rename_i hcond
    obtain⟨hlen,hoff,hones⟩:=hcond;have hvx:=bH h he hx;have hvc:=VR.cells hones hvx;have hl1:=aE.length hvc;have hl2:=aE.length hv;have hsz:(a.eval x).cells.size=s:=by rw[← hlen, ← hl1];simp
    have harr:arr.size=cs.length:=by rw[← hl2];simp
    have hsp:=aE.splice o hv hvc;rw[← zIj o (a.eval x) arr (by omega)]at hsp;obtain⟨arr',h1,h2⟩:=ih hr hsp hf;refine⟨arr',?_,h2⟩;simp only[List.map_cons,Instr.fill,hp];rw[if_neg (by simp;omega)];exact h1
   ·cases hf
  ·cases hc
theorem zIi {n:Nat}:∀ {as:List (Nat×Nat×Arg)} {cs cs':List D},D.aD n cs=true->(∀x∈as,aI G env x.2.2=.undef∨(aI G env x.2.2).under n=true)->fT cs (gK G env as)=some cs'->D.aD n cs'=true:=by
 intro as
 induction as with
 | nil=>intro cs cs' h _ hf;simp[gK,fT]at hf;subst hf;exact h
 | cons x r ih=>
  intro cs cs' h hx hf;obtain⟨o,s,xa⟩:=x;simp only[gK,fT]at hf;split at hf
  ·rename_i hc
   refine ih (D.C6 o h ?_) (fun y hy=>hx y (by simp[hy])) hf;rcases hx (o,s,xa) (by simp)with h' | h'
   ·simp only at h'
    rw[h']at hc;simp[D.cells,D.aF,D.one]at hc
   ·exact D.Gi h'
  ·cases hf
theorem oT {t:TypeId}{s by_:Nat}{ds:List D}(h:gV P t=some (s,by_,ds)):
  ∃i z,P.info? t=some i∧i.zero=some z∧i.size=s∧i.bytes=by_∧z.cells.size=s∧uG z.cells.toList=some ds∧ds.length=s:=by
 unfold gV at h;split at h
 ·rename_i i hi
  split at h
  ·rename_i z hz
   split at h
   ·rename_i hsz
    split at h
    ·rename_i ds' hds
     cases h
     refine⟨i,z,hi,hz,rfl,rfl,hsz,hds,?_⟩;have:=aE.length ((sL hds).2.2 Bk.none (fun _=>none));rw[← this];simpa using hsz
    ·cases h
   ·cases h
  ·cases h
 ·cases h
theorem D.Gf {n:Nat}:∀ {cs:List D} {i:Nat} {d:D},D.aD n cs=true->d.under n=true->D.aD n (cs.set i d)=true
 | [],_,_,h,_=>by simpa using h
 | c::cs,0,d,h,hd=>by simp only[D.aD,Bool.and_eq_true,List.set_cons_zero]at h ⊢;exact⟨hd,h.2⟩
 | c::cs,i+1,d,h,hd=>by simp only[D.aD,Bool.and_eq_true,List.set_cons_succ]at h ⊢;exact⟨h.1,D.Gf h.2 hd⟩
theorem D.HE:∀ {cs:List D} {i:Nat} {d:D},D.aF cs=true->d.one=true->D.aF (cs.set i d)=true
 | [],_,_,h,_=>by simpa using h
 | c::cs,0,d,h,hd=>by simp only[D.aF,Bool.and_eq_true,List.set_cons_zero]at h ⊢;exact⟨hd,h.2⟩
 | c::cs,i+1,d,h,hd=>by simp only[D.aF,Bool.and_eq_true,List.set_cons_succ]at h ⊢;exact⟨h.1,D.HE h.2 hd⟩
theorem E5:∀ {res:List (Nat×Nat)} {H H':aA} {cs cs':List D} {vs:List Value},WR P G β Φ b H w->aE cs β Φ vs->D.aD H.length cs=true->D.aF cs=true->bU H cs res=some (H',cs')->
  WR P G β Φ b H' w∧Ext β Φ H w β Φ H' w∧aE cs' β Φ vs∧D.aD H'.length cs'=true∧D.aF cs'=true:=by
 intro res
 induction res with
 | nil=>intro H H' cs cs' vs h hv hu ho hr;simp[bU]at hr;obtain⟨rfl,rfl⟩:=hr;exact⟨h,Ext.refl _ _ _ _,hv,hu,ho⟩
 | cons x r ih=>
  intro H H' cs cs' vs h hv hu ho hr;obtain⟨off,es⟩:=x;simp only[bU]at hr;split at hr
  ·rename_i hoff
   split at hr
   ·rename_i hes
    obtain⟨v,hvo,hvv⟩:=aE.get hv hoff;simp only[VR]at hvv;subst hvv;obtain⟨h1,h2⟩:=h.zEO es hes;have hd:VR (.osl H.length 0 0 0) β Φ (.slice none 0 0):=by
     simp only[VR];right;exact⟨h.dom _ 0 (Nat.le_refl _),by simp⟩
    obtain⟨g1,g2,g3,g4,g5⟩:=ih h1 (aE.set hv hd hvo) (D.Gf (D.dI cs (by simp) hu) (by simp[D.under,Nat.blt_eq])) (D.HE ho rfl) hr;exact⟨g1,h2.trans g2,g3,g4,g5⟩
   ·cases hr
  ·exact ih h hv hu ho hr
theorem NJ(h:WR P G β Φ b H w){cs:List D}{cells:Array Value}(e:TypeId)(hv:aE cs β Φ cells.toList)(hu:D.aD H.length cs=true)(ho:D.aF cs=true):
  ∃β',VR (.ptr H.length 0) β' Φ (.pointer (some ⟨w.heap.size,0,none⟩))∧WR P G β' Φ b (H++[.box cs]) (w.alloc (.cells cells e))∧Ext β Φ H w β' Φ (H++[.box cs]) (w.alloc (.cells cells e)):=by
 have hold:∀i u,i<H.length->Bk.put β H.length 0 (w.heap.size,0) i u=β i u:=fun i u hi=>Bk.kJ (by omega)
 have hm:More H.length β Φ (Bk.put β H.length 0 (w.heap.size,0)) Φ :=
  ⟨fun id u x hi hx=>by rw[hold id u hi];exact hx,fun id hi hx=>by rw[hold id 0 hi];exact hx,fun _ _ h=>h⟩
 have hg:=Grow.alloc w (.cells cells e);obtain⟨h1,h2⟩:=h.G2 (c:=.box cs) (v:=0) (cap:=0) hg
  ⟨ho,w.heap.size,0,cells,e,Bk.fZ _ _ _ _,hg.new,aE.more cs hu hm hv⟩ (by simp[Chunk.blk,Bk.fZ]) (D.dI cs (by omega) hu)
 exact⟨_,by simp only[VR];exact⟨_,_,Bk.fZ _ _ _ _,rfl⟩,h1,h2⟩
theorem X4(h:WR P G β Φ b H w){w':World}{es n c:Nat}{cs:List D}{cells:Array Value}{e:TypeId}(hg:Grow w w' (.cells cells e))(hes:0<es)(hsz:cells.size=c*es)(hc:c<=maxLen)(hcs:cs.length=n*es)(hn:n<=c)
  (hv:aE cs β Φ (cells.toList.take cs.length)) (hu:D.aD H.length cs=true) (ho:D.aF cs=true):
  ∃β',VR (.osl H.length (n*es) 0 n) β' Φ (.slice (some ⟨w.heap.size,0,none⟩) n c)∧WR P G β' Φ b (H++[.row es cs false]) w'∧Ext β Φ H w β' Φ (H++[.row es cs false]) w':=by
 have hold:∀i u,i<H.length->Bk.put β H.length (n*es) (w.heap.size,c) i u=β i u:=fun i u hi=>Bk.kJ (by omega)
 have hm:More H.length β Φ (Bk.put β H.length (n*es) (w.heap.size,c)) Φ :=
  ⟨fun id u x hi hx=>by rw[hold id u hi];exact hx,fun id hi hx=>by rw[hold id 0 hi];exact hx,fun _ _ h=>h⟩
 have hle:n*es<=c*es:=Nat.mul_le_mul_right _ hn;obtain⟨h1,h2⟩:=h.G2 (c:=.row es cs false) (v:=n*es) (cap:=c) hg
  ⟨hes,ho,fun v hv=>by rw[Bk.Ho (by omega)];exact h.dom _ v (Nat.le_refl _),by
   simp only[Bool.false_eq_true,if_false];exact⟨w.heap.size,c,cells,e,by rw[hcs];exact Bk.fZ _ _ _ _,hg.new,hsz,hc,by omega,aE.more cs hu hm hv⟩⟩
  (by simp[Chunk.blk,hcs,Bk.fZ]) (D.dI cs (by omega) hu)
 exact⟨_,by simp only[VR];exact .inl ⟨_,_,Bk.fZ _ _ _ _,.inl ⟨trivial,hn,rfl⟩⟩,h1,h2⟩
theorem U1:∀ {cs:List D} {vs:List Value} {cur:Array Value} {o:Nat},aE cs β Φ vs->D.aD 0 cs=true->(∀j u,vs[j]? =some u->cur[o+j]? =some u)->bJ cs Φ cur o
 | [],_,_,_,_,_,_=>by simp[bJ]
 | d::ds,_,cur,o,hv,hu,hc=>by
  simp only[aE]at hv;obtain⟨v,r,rfl,h1,h2⟩:=hv;simp only[D.aD,Bool.and_eq_true]at hu;simp only[bJ];refine⟨⟨v,by simpa using hc 0 v rfl,hu.1,VR.closed d hu.1 h1⟩,U1 h2 hu.2 (fun j u hj=>?_)⟩;have:=hc (j+1) u (by simpa using hj);rw[show o+1+j=o+(j+1) by omega];exact this
theorem Lj(h:WR P G β Φ b H w){w':World}{cs:List D}{cells:Array Value}{e:TypeId}{fr:Nat×Nat}(hg:Grow w w' (.cells cells e fr))(hv:aE cs β Φ (cells.toList.take cs.length))(hu:D.aD 0 cs=true):
  ∃ Φ',(∃cur e fr, Φ' w.heap.size=some (.cells cur e fr)∧bJ cs Φ' cur 0)∧WR P G β Φ' b H w'∧Ext β Φ H w β Φ' H w':=by
 obtain⟨h1,h2⟩:=h.zEP hg;refine⟨_,⟨cells,e,fr,by simp[Fz.put],?_⟩,h1,h2⟩;have hv':=aE.more cs (D.dI cs (Nat.zero_le _) hu) h2.more hv;refine U1 hv' hu (fun j u hj=>?_);rw[List.getElem?_take]at hj;split at hj
 ·simpa using hj
 ·cases hj
end
end Go.AM
namespace Go.AM
section
variable {P:Program}{G:Nat->Option (List D)}{β:Bk}{Φ :Fz}{b:Nat}{H:aA}{w:World}{env:Env}{a:Act}
structure Src(P:Program)(w:World)(size:Nat)(y:Value)(m:Nat)(news:List Value):Prop where
 len:∀W,(Builtin.lenOf y).run P W=.ok m W
 first:∀W:World,W.heap=w.heap->(Builtin.firstCells size m y).run P W=.ok news.toArray W
 size:news.length=m*size
theorem zKk {w W:World}(h:W.heap=w.heap)(ad:Addr):W.cell? ad=w.cell? ad:=by simp[World.cell?,h]
theorem Src.slice {size m cap:Nat}{base:Option Addr}{news:List Value}(hl:news.length=m*size)(hc:∀j u,news[j]? =some u->∃ad,base=some ad∧w.cell? (ad.add j)=some u):Src P w size (.slice base m cap) m news:=by
 refine⟨fun W=>by simp[Builtin.lenOf],fun W hW=>?_,hl⟩
 cases base with
 | none=>
  have:news=[]:=by
   cases news with
   | nil=>rfl
   | cons u r=>obtain⟨ad,h,_⟩:=hc 0 u rfl;cases h
  subst this;simp[Builtin.firstCells]
 | some ad=>
  refine run_firstCells_some W size m ad m cap news hl (fun j u hj=>?_);obtain⟨ad',h1,h2⟩:=hc j u hj
  cases h1
  rw[zKk hW];exact h2
theorem Src.string {s:Bs}:Src P w 1 (.string ⟨s.toArray⟩) s.length (s.map fun b=>.int .u8 b.toNat):=by
 refine⟨fun W=>by simp[Builtin.lenOf];rfl,fun W hW=>?_,by simp⟩;have:(⟨s.toArray⟩:ByteArray).extract 0 s.length=⟨s.toArray⟩:=by
  apply ByteArray.ext;apply Array.ext';simp[ByteArray.extract,ByteArray.copySlice]
 simp[Builtin.firstCells,this]
theorem FJ {t u e ty:TypeId}{i:TypeInfo}(ht:P.underlying t=some (.slice e)){du:TypeDesc}(hu:P.underlying u=some du)(hnu:∀k,du≠ .int k)(hi:P.info? e=some i){y:Value}{m:Nat}{news:List Value}(hs:Src P w i.size y m news)
  (h1:∀u∈news,u.oneCell'=true) {g n c:Nat} {cur:Array Value} {e':TypeId} (hg:w.heap[g]? =some (.cells cur e' (0,0))) (hroom:n+m<=c) (hfit:n*i.size+news.length<=cur.size):
  (Builtin.append_ #[t,u] ty #[.slice (some ⟨g,0,none⟩) n c,y]).run P w=.ok (.slice (some ⟨g,0,none⟩) (n+m) c) (w.setRow g (cur.toList.take (n*i.size)++news++cur.toList.drop (n*i.size+news.length)).toArray):=by
 have hst:=run_storeCells_at P g (n*i.size) e' news 0 cur w hg (by simpa using hfit) h1;simp only[Nat.add_zero]at hst;have hz:(match du with | .int _=>true | _=>false)=false:=by cases du <;> first | rfl | exact absurd rfl (hnu _)
 simp[Builtin.append_,run_underlying ht,run_underlying hu,sizeOf,typeInfo,hi,hz,hs.len,hroom,hs.first w rfl,Addr.add_lit,hst]
theorem W4 {t u e ty:TypeId}{i:TypeInfo}(ht:P.underlying t=some (.slice e)){du:TypeDesc}(hu:P.underlying u=some du)(hnu:∀k,du≠ .int k)(hi:P.info? e=some i){y:Value}{news:List Value}(hs:Src P w i.size y 0 news)
  {base:Option Addr} {n c:Nat} (hc:n<=c):(Builtin.append_ #[t,u] ty #[.slice base n c,y]).run P w=.ok (.slice base n c) w:=by
 have hz:(match du with | .int _=>true | _=>false)=false:=by cases du <;> first | rfl | exact absurd rfl (hnu _)
 have hn:news=[]:=List.eq_nil_of_length_eq_zero (by simpa using hs.size);have hf:=hs.first w rfl;rw[hn]at hf
 cases base <;> simp[Builtin.append_,run_underlying ht,run_underlying hu,sizeOf,typeInfo,hi,hz,hs.len,hc,hf,storeCells]
theorem FK {t u e ty:TypeId}{i:TypeInfo}{z:Value}(ht:P.underlying t=some (.slice e)){du:TypeDesc}(hu:P.underlying u=some du)(hnu:∀k,du≠ .int k)(hi:P.info? e=some i)(hz:i.zero=some z){y:Value}{m:Nat}{news:List Value}(hs:Src P w i.size y m news)
  {base:Option Addr} {n c:Nat} {olds:List Value} (hlo:olds.length=n*i.size) (holds:∀j u,olds[j]? =some u->∃ad,base=some ad∧w.cell? (ad.add j)=some u) (hgr:c<n+m) (h63:n+m<=maxLen) (hb:(n+m)*i.bytes<=140737488355328):
  (Builtin.append_ #[t,u] ty #[.slice base n c,y]).run P w=.ok (.slice (some ⟨w.heap.size,0,none⟩) (n+m) (grownCap w (n+m) c e))
    (w.drew.alloc (.cells (olds.toArray++news.toArray++Builtin.zeroCells z.cells (grownCap w (n+m) c e-(n+m))) e)):=by
 have hz':(match du with | .int _=>true | _=>false)=false:=by cases du <;> first | rfl | exact absurd rfl (hnu _)
 have hn:¬(n+m<=c):=by omega
 have h63':¬(9223372036854775807<((n:Int)+(m:Int))):=by unfold maxLen at h63;omega
 have h48':¬(281474976710656<Builtin.nextslicecap (n+m) c*i.bytes):=by have:=growslice_fits hgr hb;omega
 have ho:∀W:World,W.heap=w.heap->(Builtin.firstCells i.size n (.slice base n c)).run P W=.ok olds.toArray W:=fun W hW=>(Src.slice (P:=P) (w:=w) (cap:=c) hlo holds).first W hW
 simp[Builtin.append_,run_underlying ht,run_underlying hu,sizeOf,typeInfo,zeroValue,hi,hz,hz',hs.len,hn,h63',h48',Question.forced,hs.first w.drew rfl,ho w.drew rfl,newRow,grownCap];rw[← List.append_toArray,Array.append_assoc]
theorem Mf(h:WR P G β Φ b H w){es:Nat}{y:D}{vy:Value}(hv:VR y β Φ vy){ys:List D}{m:Nat}(hel:elems H es y=some (ys,m)):
  ∃vs,aE ys β Φ vs∧Src P w es vy m vs∧ys.length=m*es:=by
 unfold elems at hel;split at hel
 ·cases hel
  simp only[VR]at hv;subst hv;exact⟨[],rfl,Src.slice (by simp) (by simp),by simp⟩
 ·cases hel
  simp only[VR]at hv;obtain⟨ad,rfl⟩:=hv;exact⟨[],rfl,Src.slice (by simp) (by simp),by simp⟩
 ·split at hel
  ·rename_i hn
   cases hel
   simp only[VR]at hv;obtain⟨ad,cap,hcap,rfl,hc⟩:=hv;rcases hc with rfl | ⟨cur,e,fr,h1,h2,h3⟩
   ·exact⟨[],rfl,Src.slice (by simpa using hn.symm) (by simp),hn.symm⟩
   ·obtain⟨vs,h4,h5⟩:=bJ.Fx _ (β:=β) h3
    refine⟨vs,h4,Src.slice (by rw[aE.length h4];exact hn.symm) (fun j u hj=>⟨ad,rfl,?_⟩),hn.symm⟩;have:ad=⟨ad.block,ad.off,none⟩:=by cases ad;simp at h2;subst h2;rfl
    rw[this,zT (h.fz _ _ h1)];exact h5 j u hj
  ·cases hel
 ·rename_i id hw off n
  split at hel
  ·rename_i es' cs nil hcs
   split at hel
   ·rename_i hc
    obtain⟨rfl,hlen,hoff,hnil⟩:=hc
    cases hel
    obtain⟨g0,g1,gt,hrest⟩:=h.ch id _ hcs;have hyl:((cs.drop off).take (m*es')).length=m*es':=by rw[List.length_take,List.length_drop];omega
    cases nil with
    | true=>
     have hn0:=hnil rfl;subst hn0;simp only[Nat.zero_mul,List.take_zero];refine⟨[],rfl,?_,by simp⟩;simp only[VR]at hv;rcases hv with⟨k,c,_,⟨_,_,rfl⟩ | ⟨_,a',cap,_,rfl,_⟩⟩ | ⟨_,_,_,_,rfl⟩ <;> exact Src.slice (by simp) (by simp)
    | false=>
     simp only[Bool.false_eq_true,if_false]at hrest;obtain⟨k,c,cur,e,h3,h4,h5,h6,h7,h8⟩:=hrest;have hvs:=(h8.drop off).take (m*es');have hvl:=aE.length hvs;have hcell:∀j u,(((cur.toList.take cs.length).drop off).take (m*es'))[j]? =some u->w.cell? ((⟨k,off,none⟩:Addr).add j)=some u:=fun j u hj=>by
      rw[zT h4];rw[List.getElem?_take]at hj;split at hj
      ·rw[List.getElem?_drop,List.getElem?_take]at hj
       split at hj
       ·simpa using hj
       ·cases hj
      ·cases hj
     refine⟨_,hvs,?_,hyl⟩;simp only[VR]at hv;rcases hv with⟨k',c',hk,⟨ho,hnc,rfl⟩ | ⟨ho,a',cap,hnc,rfl,ha⟩⟩ | ⟨hk,hh,ho,hn0,rfl⟩
     ·rw[← hlen,h3]at hk;cases hk
      subst ho;exact Src.slice (by rw[hvl,hyl]) (fun j u hj=>⟨_,rfl,hcell j u hj⟩)
     ·rw[← hlen,h3]at hk;cases hk
      refine Src.slice (by rw[hvl,hyl]) (fun j u hj=>⟨_,rfl,?_⟩);have hn:m≠0:=by
       rintro rfl;simp at hj
      rw[ha hn];exact hcell j u hj
     ·subst hn0
      exact Src.slice (by rw[hvl,hyl]) (fun j u hj=>by simp at hj)
   ·cases hel
  ·cases hel
 ·cases hel
end
end Go.AM
namespace Go.AM
section
variable {P:Program}{G:Nat->Option (List D)}{β:Bk}{Φ :Fz}{b:Nat}{H:aA}{w:World}{env:Env}{a:Act}
theorem yW:aX=140737488355328:=rfl
theorem JK {n m es c:Nat}{z:Value}{olds news:List Value}{w:World}{e:TypeId}{k:Nat}(hz:z.cells.size=es)(hlo:olds.length=n*es)(hln:news.length=m*es)(hc:n+m<=c):
  (olds.toArray++news.toArray++Builtin.zeroCells z.cells (c-(n+m))).size=c*es∧
  (olds.toArray++news.toArray++Builtin.zeroCells z.cells (c-(n+m))).toList.take ((n+m)*es)=olds++news:=by
 constructor
 ·simp only[Array.size_append,List.size_toArray,size_zeroCells,hz,hlo,hln, ← Nat.add_mul]
  congr 1;omega
 ·have:(n+m)*es=(olds++news).length:=by rw[List.length_append,hlo,hln,Nat.add_mul]
  rw[this];simp only[Array.toList_append,List.append_assoc];rw[← List.append_assoc];exact List.take_left
theorem BR {vs:List D}(h:WR P G β Φ b H w)(hs:storable b H H.length vs=true):D.aD H.length vs=true∧D.aF vs=true:=by
 simp only[storable,Bool.and_eq_true]at hs;rw[if_neg (by have:=h.base;omega)]at hs;exact hs
theorem TA {vs:List D}{id:Nat}(hid:id<H.length)(hb:b<=H.length)(hs:storable b H id vs=true):D.aD (if id<b then b else H.length) vs=true∧D.aD H.length vs=true∧D.aF vs=true:=by
 simp only[storable,Bool.and_eq_true]at hs;split at hs
 ·rename_i hlt
  rw[if_pos hlt];exact⟨D.dI _ (by omega) hs.1,D.dI _ (by omega) hs.1,hs.2⟩
 ·rename_i hge
  rw[if_neg hge];exact⟨hs.1,hs.1,hs.2⟩
theorem NP (h : WR P G β Φ b H w) {t u e ty : TypeId} {i : TypeInfo} {z : Value} (ht : P.underlying t = some (.slice e)) {du : TypeDesc} (hu : P.underlying u = some du) (hnu : ∀ k, du ≠ .int k)
    (hi : P.info? e = some i) (hz : i.zero = some z) (hzs : z.cells.size = i.size) (hes : 0 < i.size) (hby : 0 < i.bytes) {x : D} {vx vy : Value} (hx : VR x β Φ vx) {ys : List D} {vs : List Value} {m : Nat} (hys : aE ys β Φ vs) (hsrc : Src P w i.size vy m vs)
    {d : D} {H' : aA} (hd : cR b H i.size i.bytes x ys m = some (d, H')) :
    ∃ v w' β', (Builtin.append_ #[t, u] ty #[vx, vy]).run P w = .ok v w' ∧ VR d β' Φ v ∧ WR P G β' Φ b H' w' ∧ Ext β Φ H w β' Φ H' w' := by
  have hyl : ys.length = m * i.size := by rw [← aE.length hys, hsrc.size]
  have fresh : ∀ base : Option Addr, m ≠ 0 -> m * i.bytes <= aX -> storable b H H.length ys = true -> m <= aX -> vx = .slice base 0 0 ->
      ∃ v w' β', (Builtin.append_ #[t, u] ty #[vx, vy]).run P w = .ok v w' ∧ VR (.osl H.length (m * i.size) 0 m) β' Φ v ∧ WR P G β' Φ b (H ++ [.row i.size ys false]) w' ∧ Ext β Φ H w β' Φ (H ++ [.row i.size ys false]) w' := by
    rintro base hm hb hst hmx rfl
    rw [yW] at hb hmx
    have hml : 0 + m <= maxLen := by unfold maxLen; omega
    have hr := FK (P := P) (w := w) (t := t) (u := u) (ty := ty) ht hu hnu hi hz hsrc (base := base) (n := 0) (c := 0) (olds := []) (by simp) (by simp) (by omega) hml (by simpa using hb)
    obtain ⟨h1, h2⟩ := BR h hst
    have hge := grownCap_ge w (0 + m) 0 e
    have hle := grownCap_le_maxLen w (0 + m) 0 e hml
    obtain ⟨g1, g2⟩ := JK (n := 0) (m := m) (es := i.size) (c := grownCap w (0 + m) 0 e) (z := z) (olds := []) (news := vs) (w := w) (e := e) (k := 0) hzs (by simp) hsrc.size hge
    obtain ⟨β', k1, k2, k3⟩ := X4 (n := m) (c := grownCap w (0 + m) 0 e) h (Grow.Aq w _) hes g1 hle hyl (by omega) (by
      have : ys.length = (0 + m) * i.size := by rw [hyl]; simp
      rw [this, g2]; simpa using hys) h1 h2
    exact ⟨_, _, β', hr, by simpa using k1, k2, k3⟩
  unfold cR at hd
  split at hd
  · simp only [VR] at hx
    split at hd
    · rename_i hm; subst hm; cases hd; subst hx
      exact ⟨_, _, β, W4 ht hu hnu hi hsrc (Nat.le_refl _), by simp [VR], h, Ext.refl _ _ _ _⟩
    · rename_i hm
      split at hd
      · rename_i hc; cases hd
        exact fresh none hm hc.1 hc.2.1 hc.2.2 hx
      · cases hd
  · simp only [VR] at hx
    obtain ⟨base, rfl⟩ := hx
    split at hd
    · rename_i hm; subst hm; cases hd
      exact ⟨_, _, β, W4 ht hu hnu hi hsrc (Nat.le_refl _), by simp [VR], h, Ext.refl _ _ _ _⟩
    · rename_i hm
      split at hd
      · rename_i hc; cases hd
        exact fresh base hm hc.1 hc.2.1 hc.2.2 rfl
      · cases hd
  · rename_i id hw n
    split at hd
    all_goals try (cases hd; done)
    rename_i es' cs nil hcs
    split at hd
    all_goals try (cases hd; done)
    rename_i hc
    obtain ⟨rfl, hlen, hnle, hnil, hbb, hnm, hst⟩ := hc
    rw [yW] at hbb hnm
    have hid := gZ hcs
    obtain ⟨s1, s2, s3⟩ := TA hid h.base hst
    obtain ⟨g0, g1, gt, hrest⟩ := h.ch id _ hcs
    have hml : n + m <= maxLen := by unfold maxLen; omega
    have hcu := h.ids id _ hcs
    have hform : (nil = true ∧ n = 0 ∧ cs = [] ∧ β id 0 = none ∧ vx = .slice none 0 0) ∨
        (nil = false ∧ ∃ k c cur e', β id hw = some (k, c) ∧ w.heap[k]? = some (.cells cur e' (0, 0)) ∧ cur.size = c * i.size ∧ c <= maxLen ∧ cs.length <= cur.size ∧ aE cs β Φ (cur.toList.take cs.length) ∧ n <= c ∧ vx = .slice (some ⟨k, 0, none⟩) n c) := by
      cases nil with
      | true =>
        left
        simp only [if_true] at hrest
        have hn0 := hnil rfl
        refine ⟨rfl, hn0, hrest.1, hrest.2, ?_⟩
        simp only [VR] at hx
        rcases hx with ⟨k, c, hk, _⟩ | ⟨_, _, _, _, hv⟩
        · rw [← hlen, hrest.1] at hk; simp [hrest.2] at hk
        · exact hv
      | false =>
        right
        simp only [Bool.false_eq_true, if_false] at hrest
        obtain ⟨k, c, cur, e', h3, h4, h5, h6, h7, h8⟩ := hrest
        refine ⟨rfl, k, c, cur, e', by rw [← hlen]; exact h3, h4, h5, h6, h7, h8, ?_⟩
        simp only [VR] at hx
        rcases hx with ⟨k', c', hk, ⟨_, hnc, rfl⟩ | ⟨ho, _⟩⟩ | ⟨hk, hh, _⟩
        · rw [← hlen, h3] at hk; cases hk; exact ⟨hnc, rfl⟩
        · exact absurd rfl ho
        · rw [hh] at hlen
          rw [hlen] at h3
          rw [hk] at h3; cases h3
    split at hd
    · rename_i hm; subst hm; cases hd
      rcases hform with ⟨_, hn0, _, hb0, rfl⟩ | ⟨_, k, c, cur, e', _, _, _, _, _, _, hnc, rfl⟩
      · refine ⟨_, _, β, W4 ht hu hnu hi hsrc (Nat.le_refl _), ?_, h, Ext.refl _ _ _ _⟩
        exact hx
      · exact ⟨_, _, β, W4 ht hu hnu hi hsrc hnc, hx, h, Ext.refl _ _ _ _⟩
    rename_i hm
    have key : ∀ (hw' : Nat), hw' = (n + m) * i.size -> hw < hw' -> (∀ v, hw' < v -> β id v = none) -> β id hw' = none ->
        ∃ v w' β', (Builtin.append_ #[t, u] ty #[vx, vy]).run P w = .ok v w' ∧ VR (.osl id hw' 0 (n + m)) β' Φ v ∧ WR P G β' Φ b (H.set id (.row i.size (cs.take (n * i.size) ++ ys) false)) w' ∧ Ext β Φ H w β' Φ (H.set id (.row i.size (cs.take (n * i.size) ++ ys) false)) w' := by
      intro hw' he hlt htop hnew
      have hcl : (cs.take (n * i.size) ++ ys).length = hw' := by rw [List.length_append, List.length_take, hyl, he, Nat.add_mul]; omega
      have hone : D.aF (cs.take (n * i.size) ++ ys) = true := by rw [D.cW, D.HB _ g1, s3]; rfl
      have hun : Chunk.aD (if id < b then b else H.length) (.row i.size (cs.take (n * i.size) ++ ys) false) := by
        show D.aD _ _ = true
        rw [D.cS, D.unders_take _ hcu, s1]; rfl
      have hne : hw' ≠ 0 := by omega
      have grow : ∀ (base : Option Addr) (c : Nat) (olds : List Value), vx = .slice base n c -> olds.length = n * i.size -> aE (cs.take (n * i.size)) β Φ olds -> (∀ j u, olds[j]? = some u -> ∃ ad, base = some ad ∧ w.cell? (ad.add j) = some u) -> c < n + m ->
          ∃ v w' β', (Builtin.append_ #[t, u] ty #[vx, vy]).run P w = .ok v w' ∧ VR (.osl id hw' 0 (n + m)) β' Φ v ∧ WR P G β' Φ b (H.set id (.row i.size (cs.take (n * i.size) ++ ys) false)) w' ∧ Ext β Φ H w β' Φ (H.set id (.row i.size (cs.take (n * i.size) ++ ys) false)) w' := by
        rintro base c olds rfl hol hov hoc hcn
        have hr := FK (P := P) (w := w) (t := t) (u := u) (ty := ty) ht hu hnu hi hz hsrc (base := base) (n := n) (c := c) hol hoc hcn hml hbb
        have hge := grownCap_ge w (n + m) c e
        have hle := grownCap_le_maxLen w (n + m) c e hml
        obtain ⟨q1, q2⟩ := JK (n := n) (m := m) (es := i.size) (c := grownCap w (n + m) c e) (z := z) (olds := olds) (news := vs) (w := w) (e := e) (k := 0) hzs hol hsrc.size hge
        have hm' : More H.length β Φ (Bk.put β id hw' (w.heap.size, grownCap w (n + m) c e)) Φ := by
          refine ⟨fun j v x hj hq => ?_, fun j hj hq => ?_, fun _ _ h => h⟩
          · unfold Bk.put
            split
            · rename_i ee; obtain ⟨rfl, rfl⟩ := ee; rw [hnew] at hq; cases hq
            · exact hq
          · unfold Bk.put; rw [if_neg (by omega)]; exact hq
        obtain ⟨k2, k3⟩ := h.move (c' := .row i.size (cs.take (n * i.size) ++ ys) false) (cap := grownCap w (n + m) c e) hcs (Grow.Aq w _) hnew hne ⟨g0, hone, fun v hv => by rw [hcl] at hv; rw [Bk.Ho (by omega)]; exact htop v hv, by
            simp only [Bool.false_eq_true, if_false]
            refine ⟨w.heap.size, grownCap w (n + m) c e, _, e, by rw [hcl]; exact Bk.fZ _ _ _ _, (Grow.Aq w _).new, q1, hle, by rw [hcl, he, q1]; exact Nat.mul_le_mul_right _ hge, ?_⟩
            have e3 := q2
            rw [← he, ← hcl] at e3
            rw [e3]
            refine aE.more _ ?_ hm' (aE.append hov hys)
            rw [D.cS, s2, D.unders_take _ (by have := h.aD hcs; exact this)]; rfl⟩
          (by simp [Chunk.blk, hcl, Bk.fZ]) hun
        exact ⟨_, _, _, hr, by simp only [VR]; exact .inl ⟨_, _, Bk.fZ _ _ _ _, .inl ⟨trivial, hge, rfl⟩⟩, k2, k3⟩
      rcases hform with ⟨_, hn0, hcs0, hb0, hv⟩ | ⟨_, k, c, cur, e', h3, h4, h5, h6, h7, h8, hnc, hv⟩
      · subst hn0
        exact grow none 0 [] hv (by simp) (by simp [aE]) (by simp) (by omega)
      · by_cases hroom : n + m <= c
        · subst hv
          have hfit : n * i.size + vs.length <= cur.size := by rw [hsrc.size, h5, ← Nat.add_mul]; exact Nat.mul_le_mul_right _ hroom
          have hr := FJ (P := P) (w := w) (t := t) (u := u) (ty := ty) ht hu hnu hi hsrc (sV s3 hys) (n := n) (c := c) h4 hroom hfit
          have hturn := uO w k cur (cur.toList.take (n * i.size) ++ vs ++ cur.toList.drop (n * i.size + vs.length)).toArray e' (0, 0) h4
          have hm' : More H.length β Φ (Bk.put β id hw' (k, c)) Φ := by
            refine ⟨fun j v x hj hq => ?_, fun j hj hq => ?_, fun _ _ h => h⟩
            · unfold Bk.put
              split
              · rename_i ee; obtain ⟨rfl, rfl⟩ := ee; rw [hnew] at hq; cases hq
              · exact hq
            · unfold Bk.put; rw [if_neg (by omega)]; exact hq
          have hsz : (cur.toList.take (n * i.size) ++ vs ++ cur.toList.drop (n * i.size + vs.length)).toArray.size = c * i.size := by simp; omega
          obtain ⟨k2, k3⟩ := h.turn (β' := Bk.put β id hw' (k, c)) (c' := .row i.size (cs.take (n * i.size) ++ ys) false) hcs (by have : nil = false := by assumption
                                                                                                                                  subst this; simp [Chunk.blk, hlen, h3]) hturn (fun j v hj => Bk.kJ hj)
            (fun v x hx => hm'.some id v x hid hx) (fun hx => hm'.none id hid hx) ⟨g0, hone, fun v hv => by rw [hcl] at hv; rw [Bk.Ho (by omega)]; exact htop v hv, by
              simp only [Bool.false_eq_true, if_false]
              refine ⟨k, c, _, e', by rw [hcl]; exact Bk.fZ _ _ _ _, hturn.here, hsz, h6, by rw [hcl, he, hsz]; exact Nat.mul_le_mul_right _ hroom, ?_⟩
              rw [hcl]
              have hol : ((cur.toList.take cs.length).take (n * i.size)) = cur.toList.take (n * i.size) := by rw [List.take_take]; congr 1; omega
              have htk : (cur.toList.take (n * i.size) ++ vs ++ cur.toList.drop (n * i.size + vs.length)).toArray.toList.take hw' = cur.toList.take (n * i.size) ++ vs := by
                simp only [List.toList_toArray]
                refine List.take_left' ?_
                rw [List.length_append, List.length_take, hsrc.size, he, Nat.add_mul]
                simp; omega
              rw [htk]
              refine aE.more _ ?_ hm' (aE.append (by rw [← hol]; exact h8.take _) hys)
              rw [D.cS, s2, D.unders_take _ (by have := h.aD hcs; exact this)]; rfl⟩
            (by simp [Chunk.blk, hcl, Bk.fZ]) hun
          exact ⟨_, _, _, hr, by simp only [VR]; exact .inl ⟨_, _, Bk.fZ _ _ _ _, .inl ⟨trivial, hroom, rfl⟩⟩, k2, k3⟩
        · refine grow (some ⟨k, 0, none⟩) c (cur.toList.take (n * i.size)) hv (by rw [List.length_take]; simp; omega) ?_ (fun j u hj => ⟨_, rfl, ?_⟩) (by omega)
          · have : ((cur.toList.take cs.length).take (n * i.size)) = cur.toList.take (n * i.size) := by rw [List.take_take]; congr 1; omega
            rw [← this]; exact h8.take _
          · rw [zT h4]
            rw [List.getElem?_take] at hj
            split at hj
            · simpa using hj
            · cases hj
    have hmpos : 0 < m * i.size := Nat.mul_pos (by omega) hes
    split at hd
    · rename_i hfull
      cases hd
      have := key (hw + m * i.size) (by rw [Nat.add_mul, hfull]) (by omega) (fun v hv => gt v (by omega)) (gt _ (by omega))
      rw [List.take_of_length_le (by omega)] at this
      exact this
    rename_i hpart
    split at hd
    · 
      rename_i hin
      cases hd
      rcases hform with ⟨_, hn0, hcs0, hb0, hv⟩ | ⟨hnf, k, c, cur, e', h3, h4, h5, h6, h7, h8, hnc, hv⟩
      · subst hcs0; subst hn0; simp at hlen; omega
      · subst hv
        have hroom : n + m <= c := by
          have : (n + m) * i.size <= c * i.size := by omega
          exact Nat.le_of_mul_le_mul_right this hes
        have hfit : n * i.size + vs.length <= cur.size := by rw [hsrc.size, h5, ← Nat.add_mul]; exact Nat.mul_le_mul_right _ hroom
        have hr := FJ (P := P) (w := w) (t := t) (u := u) (ty := ty) ht hu hnu hi hsrc (sV s3 hys) (n := n) (c := c) h4 hroom hfit
        have hturn := uO w k cur (cur.toList.take (n * i.size) ++ vs ++ cur.toList.drop (n * i.size + vs.length)).toArray e' (0, 0) h4
        have hsl : (splice cs (n * i.size) ys).length = cs.length := V3 _ _ _ (by rw [hyl, ← Nat.add_mul]; omega)
        have hvl := aE.length hys
        obtain ⟨k2, k3⟩ := h.turn (β' := β) (c' := .row i.size (splice cs (n * i.size) ys) false) hcs (by subst hnf; simp [Chunk.blk, hlen, h3]) hturn (fun _ _ _ => rfl) (fun _ _ h => h) (fun h => h)
          ⟨g0, D.Z5 _ g1 s3, fun v hv => gt v (by omega), by
            simp only [Bool.false_eq_true, if_false]
            refine ⟨k, c, _, e', by rw [hsl, hlen]; exact h3, hturn.here, by simp; omega, h6, by rw [hsl]; simp; omega, ?_⟩
            rw [hsl]
            have := aE.splice (n * i.size) h8 hys
            simp only [List.toList_toArray]
            have e2 : List.take cs.length (List.take (n * i.size) cur.toList ++ vs ++ List.drop (n * i.size + vs.length) cur.toList) =
                List.take (n * i.size) (List.take cs.length cur.toList) ++ vs ++ List.drop (n * i.size + vs.length) (List.take cs.length cur.toList) := by
              have hcl : cur.toList.length = cur.size := by simp
              have hadd : (n + m) * i.size = n * i.size + m * i.size := Nat.add_mul _ _ _
              rw [List.take_append, List.take_append, List.take_take, List.take_take, List.drop_take]
              congr 1
              · congr 1
                · congr 1; omega
                · rw [List.take_of_length_le]; simp; omega
              · congr 1; simp; omega
            rw [e2]; exact this⟩
          (by simp [Chunk.blk, hsl, hlen, h3]) (D.C6 _ hcu s1)
        exact ⟨_, _, _, hr, by simp only [VR]; exact .inl ⟨_, _, h3, .inl ⟨trivial, hroom, rfl⟩⟩, k2, k3⟩
    · rename_i hout
      cases hd
      exact key ((n + m) * i.size) rfl (by omega) (fun v hv => gt v (by omega)) (gt _ (by omega))
  · cases hd
end
end Go.AM
namespace Go.AM
section
variable {P:Program}{G:Nat->Option (List D)}{β:Bk}{Φ :Fz}{b:Nat}{H:aA}{w:World}{env:Env}{a:Act}
theorem ZQ {t:TypeId}{k:PK}(h:pB P t=some k):lZ P t=some false:=by
 unfold pB at h;unfold lZ;split at h
 all_goals first
  | (rename_i e;rw[e])
  | simp at h
theorem W3 {t:TypeId}{k:PK}(ht:pB P t=some k){x y:D}{c:Bool}{vx vy:Value}(hc:Ak k x y=some c)(hx:VR x β Φ vx)(hy:VR y β Φ vy)(d:Nat):
  (Op.equalIn (d+1) t vx vy).run P w=.ok c w:=by
 unfold Ak at hc;split at hc
 ·rename_i k1 p k2 q
  obtain rfl:=hx.fG;obtain rfl:=hy.fG;split at hc
  ·rename_i hk;subst hk;cases hc
   unfold pB at ht;split at ht <;> first | (cases ht;done) | skip;rename_i e;exact run_equalIn_int w d t k1 _ p q e
  ·cases hc
 ·obtain rfl:=hx.sA;obtain rfl:=hy.sA
  cases hc
  unfold pB at ht;split at ht <;> first | (cases ht;done) | skip;rename_i e;exact run_equalIn_bool' w d t _ _ e
 ·obtain rfl:=hx.lI;obtain rfl:=hy.lI
  cases hc
  unfold pB at ht;split at ht <;> first | (cases ht;done) | skip;rename_i e;rw[run_equalIn_string w d t _ _ e];simp
 ·cases hc
theorem W1 {t:TypeId}{k:PK}(ht:pB P t=some k){xs:List Value}{i:Nat}{v:Value}(hi:xs[i]? =some v):(part t xs.toArray i).run P w=.ok v w:=by
 have h1:=E3 (w:=w) (ZQ ht);simp[part,h1,hi]
theorem KM {xs ys:List D}{q:Bool}(h:lB [] xs ys=some q):q=true:=by
 cases xs <;> cases ys <;> simp[lB]at h <;> exact h
theorem KN {k:PK}{ks:List PK}{xs ys:List D}{q:Bool}(h:lB (k::ks) xs ys=some q):
  ∃x xs' y ys' c,xs=x::xs'∧ys=y::ys'∧Ak k x y=some c∧(c=true∧lB ks xs' ys'=some q∨c=false∧q=false):=by
 cases xs with
 | nil=>cases ys <;> simp[lB]at h
 | cons x xs'=>
  cases ys with
  | nil=>simp[lB]at h
  | cons y ys'=>
   simp only[lB]at h;split at h
   ·rename_i hc;exact⟨x,xs',y,ys',true,rfl,rfl,hc,.inl ⟨rfl,h⟩⟩
   ·rename_i hc;cases h;exact⟨x,xs',y,ys',false,rfl,rfl,hc,.inr ⟨rfl,rfl⟩⟩
   ·cases h
theorem WZ(d:Nat){vxs vys:List Value}:∀ {fs:List Field} {i:Nat} {ks:List PK} {xs ys:List D} {q:Bool},L4 P i fs=some ks->aE xs β Φ (vxs.drop i)->aE ys β Φ (vys.drop i)->lB ks xs ys=some q->
  (Op.eqFields (d+1) vxs.toArray vys.toArray fs).run P w=.ok q w:=by
 intro fs
 induction fs with
 | nil=>
  intro i ks xs ys q hf hx hy hq;simp[L4]at hf;subst hf;rw[KM hq];simp[Op.eqFields]
 | cons f r ih=>
  intro i ks xs ys q hf hx hy hq;simp only[L4]at hf;split at hf
  ·rename_i hc
   split at hf
   ·rename_i k ks' hk hks
    cases hf
    obtain⟨x,xs',y,ys',c,rfl,rfl,hcell,hq⟩:=KN hq
    ·simp only[aE]at hx hy
     obtain⟨vx,rx,hxe,hvx,hrx⟩:=hx;obtain⟨vy,ry,hye,hvy,hry⟩:=hy;have gx:vxs[i]? =some vx:=by
      have:=congrArg (fun l=>l[0]?) hxe;simpa using this
     have gy:vys[i]? =some vy:=by
      have:=congrArg (fun l=>l[0]?) hye;simpa using this
     have dx:vxs.drop (i+1)=rx:=by
      have:=congrArg List.tail hxe;simpa [List.tail_drop]using this
     have dy:vys.drop (i+1)=ry:=by
      have:=congrArg List.tail hye;simpa [List.tail_drop]using this
     have px:=W1 (w:=w) hk gx;have py:=W1 (w:=w) hk gy;rcases hq with⟨rfl,hq⟩ | ⟨rfl,rfl⟩
     ·have:=W3 (w:=w) hk hcell hvx hvy d
      simp only[Op.eqFields,hc.1,hc.2,ne_eq,not_false_eq_true,if_true,Sem.run_bind,px,py,Result.andThen_ok,this];exact ih hks (by rw[dx];exact hrx) (by rw[dy];exact hry) hq
     ·have:=W3 (w:=w) hk hcell hvx hvy d
      simp[Op.eqFields,hc.1,hc.2,px,py,this]
   ·cases hf
  ·cases hf
theorem XA(d:Nat){e:TypeId}{k:PK}(hk:pB P e=some k){vxs vys:List Value}:∀(n i:Nat) {xs ys:List D} {q:Bool},aE xs β Φ (vxs.drop i)->aE ys β Φ (vys.drop i)->lB (List.replicate n k) xs ys=some q->
  (forIn (List.range' i n) ((none:Option Bool),()) (fun j (_:Option Bool×Unit)=>(do
    let a ← part e vxs.toArray (j*1)
    let b ← part e vys.toArray (j*1)
    let c ← Op.equalIn (d+1) e a b
    if(!c)=true then pure (ForInStep.done (some false,()))else pure (ForInStep.yield (none,())):Sem (ForInStep (Option Bool×Unit))))).run P w=.ok (if q then none else some false,()) w:=by
 intro n
 induction n with
 | zero=>
  intro i xs ys q hx hy hq;rw[KM hq];simp
 | succ n ih=>
  intro i xs ys q hx hy hq;rw[List.replicate_succ]at hq;obtain⟨x,xs',y,ys',c,rfl,rfl,hcell,hq⟩:=KN hq
  ·simp only[aE]at hx hy
   obtain⟨vx,rx,hxe,hvx,hrx⟩:=hx;obtain⟨vy,ry,hye,hvy,hry⟩:=hy;have gx:vxs[i]? =some vx:=by
    have:=congrArg (fun l=>l[0]?) hxe;simpa using this
   have gy:vys[i]? =some vy:=by
    have:=congrArg (fun l=>l[0]?) hye;simpa using this
   have dx:vxs.drop (i+1)=rx:=by
    have:=congrArg List.tail hxe;simpa [List.tail_drop]using this
   have dy:vys.drop (i+1)=ry:=by
    have:=congrArg List.tail hye;simpa [List.tail_drop]using this
   have px:=W1 (w:=w) hk gx;have py:=W1 (w:=w) hk gy;rw[List.range'_succ,List.forIn_cons];rcases hq with⟨rfl,hq⟩ | ⟨rfl,rfl⟩
   ·have:=W3 (w:=w) hk hcell hvx hvy d
    simp only[Sem.run_bind,Nat.mul_one,px,py,Result.andThen_ok,this,Bool.not_true,Bool.false_eq_true,if_false,Sem.run_pure];have:=ih (i+1) (by rw[dx];exact hrx) (by rw[dy];exact hry) hq;simpa using this
   ·have:=W3 (w:=w) hk hcell hvx hvy d
    simp[px,py,this]
theorem XC {t:TypeId}{ks:List PK}(ht:Ab P t=some ks){xs ys:List D}{vxs vys:List Value}{q:Bool}(hx:aE xs β Φ vxs)(hy:aE ys β Φ vys)(hq:lB ks xs ys=some q):
  (Op.equal t (.agg vxs.toArray) (.agg vys.toArray)).run P w=.ok q w∧∀op o1 o2,(eqGuard op t o1 o2 (.agg vxs.toArray) (.agg vys.toArray)).run P w=.ok () w:=by
 unfold Ab at ht;split at ht
 ·rename_i fs hfs
  split at ht
  ·rename_i hc
   have hfo:P.fieldsOf t=fs:=by simp[Program.fieldsOf,hfs]
   refine⟨?_,fun op o1 o2=>run_eqGuard_agg w op t o1 o2 _ _ hc.2⟩;show(Op.equalIn 10000 t _ _).run P w=_;rw[show(10000:Nat)=9999+1 from rfl,run_equalIn_struct w 9999 t _ _ (by rw[hfo];exact hfs) hc.1,hfo];exact WZ 9998 ht (by simpa using hx) (by simpa using hy) hq
  ·cases ht
 ·rename_i n e hfs
  split at ht
  ·rename_i hc
   split at ht
   ·rename_i k hk
    cases ht
    refine⟨?_,fun op o1 o2=>run_eqGuard_agg w op t o1 o2 _ _ hc.1⟩;unfold Op.equal;obtain⟨d',hm,d,hd⟩:∃d',Op.maxDepth=d'+1∧∃d,d'=d+1:=⟨9999,rfl,9998,rfl⟩;rw[hm];have:=XA (w:=w) d hk (vxs:=vxs) (vys:=vys) n 0 (by simpa using hx) (by simpa using hy) hq;rw[← hd]at this;simp only[Op.equalIn,Sem.run_bind,run_underlying hfs,Result.andThen_ok,kH hc.2,Std.Legacy.Range.forIn_eq_forIn_range'];simp only[Std.Legacy.Range.size,Nat.sub_zero,Nat.add_sub_cancel,Nat.div_one];rw[this]
    cases q <;> simp
   ·cases ht
  ·cases ht
 ·cases ht
end
end Go.AM
namespace Go.AM
def nW(z:List Value):Nat->List Value
 | 0=>[]
 | n+1=>z++nW z n
theorem U3(z:Array Value)(h0:0<z.size):∀n:Nat,((Array.range (n*z.size)).map (fun i=>z[i % z.size]!)).toList=nW z.toList n
 | 0=>by simp[nW]
 | n+1=>by
  have ih:=U3 z h0 n;have e:(n+1)*z.size=z.size+n*z.size:=by rw[Nat.add_mul];omega
  simp only[Array.toList_map,Array.toList_range]at ih ⊢;rw[e,List.range_add,List.map_append,List.map_map];have h1:List.map (fun i=>z[i % z.size]!) (List.range z.size)=z.toList:=by
   apply List.ext_getElem
   ·simp
   ·intro i hi1 hi2
    simp at hi1;simp[Nat.mod_eq_of_lt hi1,hi1]
  have h2:List.map ((fun i=>z[i % z.size]!) ∘ fun x=>z.size+x) (List.range (n*z.size))=List.map (fun i=>z[i % z.size]!) (List.range (n*z.size)):=by
   apply List.map_congr_left;intro i _;simp
  rw[h1,h2,ih];rfl
theorem Ba {zs:List D}{vs:List Value}{β:Bk}{Φ :Fz}(h:aE zs β Φ vs):∀n,aE (eB zs n) β Φ (nW vs n)
 | 0=>rfl
 | n+1=>aE.append h (Ba h n)
theorem Bb(zs:List D):∀n,(eB zs n).length=n*zs.length
 | 0=>by simp[eB]
 | n+1=>by simp[eB,Bb zs n,Nat.add_mul];omega
theorem Mp {zs:List D}{k:Nat}(h:D.aD k zs=true):∀n,D.aD k (eB zs n)=true
 | 0=>rfl
 | n+1=>by simp[eB,D.cS,h,Mp h n]
theorem Mq {zs:List D}(h:D.aF zs=true):∀n,D.aF (eB zs n)=true
 | 0=>rfl
 | n+1=>by simp[eB,D.cW,h,Mq h n]
theorem LD(vs:List Value):∀(n m:Nat),n<=m->(nW vs m).take (n*vs.length)=nW vs n
 | 0,m,_=>by simp[nW]
 | n+1,0,h=>by omega
 | n+1,m+1,h=>by
  simp only[nW];rw[List.take_append];have:(n+1)*vs.length-vs.length=n*vs.length:=by rw[Nat.add_mul];omega
  rw[this,LD vs n m (by omega),List.take_of_length_le];rw[Nat.add_mul];omega
section
variable {P:Program}{G:Nat->Option (List D)}{β:Bk}{Φ :Fz}{b:Nat}{H:aA}{w:World}{env:Env}{a:Act}
theorem V9 {t:TypeId}{i:TypeInfo}{z:Value}(hi:P.info? t=some i)(hz:i.zero=some z):(zeroValue t).run P w=.ok z w:=by simp[zeroValue,typeInfo,hi,hz]
theorem FI(h:WR P G β Φ b H w)(he:ER β Φ env a.tmps){t e:TypeId}{s by_ n:Nat}{zs:List D}(ht:P.underlying t=some (.slice e))(hz:gV P e=some (s,by_,zs))(hs:0<s)(hn:n*s<=16777216)
  {ps:Array (Nat×Operand)} {as:List (Nat×Nat×Arg)} (hc:kP (fun i=>some (i*s,s)) ps.toList=some as) {cs:List D} (hf:fT (eB zs n) (gK G env as)=some cs):
  ∃arr,(Instr.buildSlice t n (ps.map fun(i,x)=>(i,a.eval x))).run P w=.ok (.slice (some ⟨w.heap.size,0,none⟩) n n) (w.alloc (.cells arr e))∧aE cs β Φ arr.toList:=by
 obtain⟨i,z,hi,hzz,his,hib,hzs,hds,hlen⟩:=oT hz;have hv0:aE zs β Φ z.cells.toList:=(sL hds).2.2 β Φ;have hcop:aE (eB zs n) β Φ ((Array.range (n*s)).map (fun i=>z.cells[i % z.cells.size]!)).toList:=by
  rw[← hzs,U3 z.cells (by omega) n];exact Ba hv0 n
 obtain⟨arr,h1,h2⟩:=KF h he hc hcop hf;refine⟨arr,?_,h2⟩;have hsz:(sizeOf e).run P w=.ok s w:=by simp[sizeOf,typeInfo,hi,his]
 have hbig:¬(n*s>2 ^ 24):=by omega
 have hfill:Instr.fill (fun i=>some (i*s,s)) ((Array.range (n*s)).map (fun i=>(if n*s=0 then #[]else z.cells)[i % (if n*s=0 then #[]else z.cells).size]!)) (ps.map fun(i,x)=>(i,a.eval x)).toList=some arr:=by
  by_cases hz0:n*s=0
  ·have:n=0:=by rcases Nat.mul_eq_zero.1 hz0 with h | h <;> omega
   subst this;have hr0:Array.range 0= #[]:=rfl;simp only[Nat.zero_mul,hr0,Array.map_empty]at h1 ⊢;simpa using h1
  ·simp only[if_neg hz0]
   simpa using h1
 simp only[Instr.buildSlice,Sem.run_bind,run_underlying ht,Result.andThen_ok,hsz,if_neg hbig];by_cases hz0:n*s=0
 ·simp only[hz0,if_true]at hfill ⊢
  simp only[Sem.run_pure,Result.andThen_ok,hfill,newRow,Sem.run_bind,newObj,Sem.run,World.alloc_eq]
 ·simp only[if_neg hz0]at hfill ⊢
  simp only[Sem.run_bind,V9 hi hzz,Sem.run_pure,Result.andThen_ok,hfill,newRow,newObj,Sem.run,World.alloc_eq]
theorem wrap_small {n:Int}(h0:0<=n)(h1:n<=140737488355328):IntKind.i64.wrap n=n:=by
 have e:IntKind.i64.bits=64:=rfl;have e2:IntKind.i64.signed=true:=rfl;simp only[IntKind.wrap,e,e2];have h2:n % (2 ^ 64:Int)=n:=Int.emod_eq_of_lt h0 (by omega);rw[h2];have h3:¬(n>=(2 ^ (64-1):Int)):=by omega
 simp[h3];omega
theorem run_makeSlice {t e:TypeId}{s by_:Nat}{zs:List D}(ht:P.underlying t=some (.slice e))(hz:gV P e=some (s,by_,zs))(hs:0<s){l c:Int}(h0:0<=l)(h1:l<=c)(h2:c.toNat*by_<=aX)(h3:c.toNat<=aX):
  ∃arr,(Instr.makeSlice t (.int .i64 l) (.int .i64 c)).run P w=.ok (.slice (some ⟨w.heap.size,0,none⟩) l.toNat c.toNat) (w.alloc (.cells arr e))∧arr.size=c.toNat*s∧aE (eB zs l.toNat) β Φ (arr.toList.take (l.toNat*s)):=by
 obtain⟨i,z,hi,hzz,his,hib,hzs,hds,hlen⟩:=oT hz;have hv0:aE zs β Φ z.cells.toList:=(sL hds).2.2 β Φ;rw[yW]at h2 h3;have wl:IntKind.i64.wrap l=l:=wrap_small h0 (by omega);have wc:IntKind.i64.wrap c=c:=wrap_small (by omega) (by omega);have hsz:(sizeOf e).run P w=.ok s w:=by simp[sizeOf,typeInfo,hi,his]
 have hcn:((c.toNat:Nat):Int)=c:=Int.toNat_of_nonneg (by omega);have hprod:(by_:Int)*c<=2 ^ 48:=by
  rw[← hcn,Int.mul_comm];have:((c.toNat*by_:Nat):Int)<=((140737488355328:Nat):Int):=Int.ofNat_le.2 h2;rw[Int.natCast_mul]at this;omega
 have hroom:¬(c.toNat*by_>roomBytes):=by unfold roomBytes;omega
 refine⟨(Array.range (c.toNat*s)).map (fun i=>z.cells[i % z.cells.size]!),?_,by simp,?_⟩
 ·have e0:((Array.range (c.toNat*s)).map (fun i=>(if c.toNat*s=0 then #[]else z.cells)[i % (if c.toNat*s=0 then #[]else z.cells).size]!))=(Array.range (c.toNat*s)).map (fun i=>z.cells[i % z.cells.size]!):=by
   by_cases hz0:c.toNat*s=0
   ·rw[hz0];simp
   ·simp only[if_neg hz0]
  have hti:(typeInfo e).run P w=.ok i w:=by simp[typeInfo,hi]
  have hlt1:¬(c<0):=by omega
  have hlt2:¬(l<0):=by omega
  have hlt3:¬(l>c):=by omega
  have hbig:¬((by_:Int)*c>2 ^ 48):=by omega
  simp only[Instr.makeSlice,Sem.run_bind,run_underlying ht,Result.andThen_ok,asInt,asIntOf,Sem.run_pure,hti,wl,wc,hib,hlt1,hlt2,hlt3,hbig,decide_false,Bool.or_false,Bool.false_eq_true,if_false,askRoom,if_neg hroom,hsz];by_cases hz0:c.toNat*s=0
  ·simp only[hz0,if_true]at e0 ⊢
   have hr0:Array.range 0= #[]:=rfl;simp only[Sem.run_pure,Result.andThen_ok,newRow,Sem.run_bind,newObj,Sem.run,World.alloc_eq,hr0,Array.map_empty]
  ·simp only[if_neg hz0]at e0 ⊢
   simp only[Sem.run_bind,V9 hi hzz,Sem.run_pure,Result.andThen_ok,newRow,newObj,Sem.run,World.alloc_eq]
 ·rw[← hzs,U3 z.cells (by omega)]
  have:=LD z.cells.toList l.toNat c.toNat (by omega);rw[show z.cells.size=z.cells.toList.length by simp,this];exact Ba hv0 _
theorem PM(z:Array Value)(h0:0<z.size)(n:Nat):(Builtin.zeroCells z n).toList=nW z.toList n:=U3 z h0 n
theorem XJ {t u e ty:TypeId}{i:TypeInfo}{z:Value}(ht:P.underlying t=some (.slice e)){ku:IntKind}(hu:P.underlying u=some (.int ku))(hi:P.info? e=some i)(hz:i.zero=some z)(hes:0<i.size)
  {k:IntKind} {q:Int} (h0:0<=q) (hb:q.toNat*i.bytes<=aX) (hm:q.toNat<=aX) {base:Option Addr} (hq:q.toNat≠0):
  (Builtin.append_ #[t,u] ty #[.slice base 0 0,.int k q]).run P w=.ok (.slice (some ⟨w.heap.size,0,none⟩) q.toNat (grownCap w q.toNat 0 e))
    (w.drew.alloc (.cells (Builtin.zeroCells z.cells q.toNat++Builtin.zeroCells z.cells (grownCap w q.toNat 0 e-q.toNat)) e)):=by
 rw[yW]at hb hm;have wl:IntKind.i64.wrap q=q:=wrap_small h0 (by omega);have hqn:((q.toNat:Nat):Int)=q:=Int.toNat_of_nonneg h0;have hlt:¬(q<0):=by omega
 have hprod:¬(q*(i.bytes:Int)>2 ^ 48):=by
  rw[← hqn];have:((q.toNat*i.bytes:Nat):Int)<=((140737488355328:Nat):Int):=Int.ofNat_le.2 hb;rw[Int.natCast_mul]at this;omega
 have hprod2:¬(281474976710656<q*(i.bytes:Int)):=by
  have:(2:Int) ^ 48=281474976710656:=by decide
  omega
 have hn:¬(q.toNat<=0):=by omega
 have h48':¬(281474976710656<Builtin.nextslicecap q.toNat 0*i.bytes):=by
  have:Builtin.nextslicecap q.toNat 0=q.toNat:=by unfold Builtin.nextslicecap;rw[if_pos (by omega)]
  rw[this];omega
 have h63':¬(9223372036854775807<((q.toNat:Nat):Int)):=by omega
 have hsz:¬(q.toNat*i.size=0):=by
  intro hh;rcases Nat.mul_eq_zero.1 hh with h | h <;> omega
 have hfc:∀W:World,(Builtin.firstCells i.size 0 (.slice base 0 0)).run P W=.ok #[] W:=fun W=>(Src.slice (P:=P) (w:=W) (size:=i.size) (m:=0) (cap:=0) (base:=base) (news:=[]) (by simp) (by simp)).first W rfl
 simp[Builtin.append_,run_underlying ht,run_underlying hu,sizeOf,typeInfo,zeroValue,asInt,asIntOf,hi,hz,wl,hlt,hprod2,hn,h63',h48',hsz,Question.forced,hfc,newRow,grownCap];have hz1:¬(q<=0):=by omega
 have hz2:¬(9223372036854775807<max q 0):=by omega
 rw[if_neg hz1,if_neg hz2]
theorem FL {t u e ty:TypeId}{i:TypeInfo}{z:Value}(ht:P.underlying t=some (.slice e)){ku:IntKind}(hu:P.underlying u=some (.int ku))(hi:P.info? e=some i)(hz:i.zero=some z)
  {k:IntKind} {q:Int} (h0:0<=q) (hq:q.toNat=0) {base:Option Addr}:
  (Builtin.append_ #[t,u] ty #[.slice base 0 0,.int k q]).run P w=.ok (.slice base 0 0) w:=by
 have hq0:q=0:=by omega
 subst hq0;have wl:IntKind.i64.wrap 0=0:=by decide
 cases base <;> simp[Builtin.append_,run_underlying ht,run_underlying hu,sizeOf,typeInfo,asInt,asIntOf,hi,wl,storeCells]
theorem BM(s:Bs):aE (aZ s) β Φ (s.map fun b=>.int .u8 b.toNat)∧D.aD 0 (aZ s)=true∧D.aF (aZ s)=true:=by
 induction s with
 | nil=>exact⟨rfl,rfl,rfl⟩
 | cons c r ih=>
  obtain⟨h1,h2,h3⟩:=ih;refine⟨?_,by simp[aZ,D.aD,D.under];exact h2,by simp[aZ,D.aF,D.one];exact h3⟩;simp only[aZ,List.map_cons,aE];exact⟨_,_,rfl,by simp[VR],h1⟩
theorem zJx(h:WR P G β Φ b H w){src dst e:TypeId}(hs:P.underlying src=some .string)(hd:P.underlying dst=some (.slice e))(he:P.underlying e=some (.int .u8))(s:Bs):
  ∃v w' Φ',(convert src dst (.string ⟨s.toArray⟩)).run P w=.ok v w'∧VR (.fsl (aZ s) s.length) β Φ' v∧WR P G β Φ' b H w'∧Ext β Φ H w β Φ' H w':=by
 have hr:=Lib.run_convert_string_bytes (P:=P) w src dst e ⟨s.toArray⟩ hs hd he;have hsize:(⟨s.toArray⟩:ByteArray).size=s.length:=rfl;have hg:Grow w (Lib.bytesWorld w e ⟨s.toArray⟩) (.cells (Lib.bytesCells w e ⟨s.toArray⟩) e ((Lib.bytesCells w e ⟨s.toArray⟩).size,(Lib.bytesCells w e ⟨s.toArray⟩).size+1)):=by
  refine⟨rfl,rfl,rfl,?_⟩;apply Array.ext_getElem?;intro j;rcases Nat.lt_trichotomy j w.heap.size with h1 | h1 | h1
  ·rw[Lib.bytesWorld_at_old w e _ j h1,Array.getElem?_push,if_neg (by omega)]
  ·subst h1;rw[Lib.bytesWorld_at_new,Array.getElem?_push,if_pos rfl]
  ·rw[Array.getElem?_eq_none (by rw[Lib.bytesWorld_size];omega),Array.getElem?_eq_none (by simp;omega)]
 obtain⟨h1,h2,h3⟩:=BM (β:=β) (Φ := Φ) s;have hsl:(aZ s).length=s.length:=by simp[aZ]
 obtain⟨Φ',⟨cur,e',fr,g1,g2⟩,g3,g4⟩:=Lj h hg (cs:=aZ s) (by
  rw[hsl];have:(Lib.bytesCells w e ⟨s.toArray⟩).toList.take s.length=s.map fun b=>.int .u8 b.toNat:=by
   simp[Lib.bytesCells]
   try (rw[List.take_append_of_le_length (by simp)])
   try (rw[List.take_of_length_le (by simp)])
  rw[this];exact h1) h2
 refine⟨_,_, Φ',hr,?_,g3,g4⟩;simp only[VR];exact⟨⟨w.heap.size,0,none⟩,grownCap w s.length 0 e,grownCap_ge w s.length 0 e,rfl,.inr ⟨cur,e',fr,g1,rfl,g2⟩⟩
theorem zMk:∀ {cs:List D} {s:Bs} {vs:List Value},jD cs=some s->aE cs β Φ vs->∃ns:List Int,vs=ns.map (Value.int .u8)∧s=ns.map fun n=>UInt8.ofNat n.toNat:=by
 intro cs
 induction cs with
 | nil=>intro s vs h hv;simp[jD]at h;subst h;simp[aE]at hv;subst hv;exact⟨[],rfl,rfl⟩
 | cons d r ih=>
  intro s vs h hv;unfold jD at h;split at h
  ·rename_i e;cases e
  ·rename_i n ds e
   cases e
   cases hb:jD r with
   | none=>rw[hb]at h;cases h
   | some s'=>
    rw[hb]at h;simp at h;simp only[aE]at hv;obtain⟨v,r',rfl,h1,h2⟩:=hv;obtain⟨ns,rfl,rfl⟩:=ih hb h2;have:=h1.fG;subst this;exact⟨n::ns,rfl,by rw[← h];rfl⟩
  ·cases h
theorem zJB(h:WR P G β Φ b H w){src dst e:TypeId}(hs:P.underlying src=some (.slice e))(hd:P.underlying dst=some .string)(he:P.underlying e=some (.int .u8)){x:D}{vx:Value}(hx:VR x β Φ vx)
  {cs:List D} {m:Nat} {s:Bs} (hel:elems H 1 x=some (cs,m)) (hb:jD cs=some s):(convert src dst vx).run P w=.ok (.string ⟨s.toArray⟩) w:=by
 obtain⟨vs,h1,h2,h3⟩:=Mf h hx hel;obtain⟨ns,rfl,rfl⟩:=zMk hb h1;have hform:∃base cap,vx=.slice base m cap:=by
  unfold elems at hel;split at hel
  ·cases hel;simp only[VR]at hx;exact⟨_,_,hx⟩
  ·cases hel;simp only[VR]at hx;obtain⟨ad,hx⟩:=hx;exact⟨_,_,hx⟩
  ·split at hel
   ·cases hel;simp only[VR]at hx;obtain⟨ad,cap,_,hx,_⟩:=hx;exact⟨_,_,hx⟩
   ·cases hel
  ·split at hel
   ·split at hel
    ·cases hel
     simp only[VR]at hx;rcases hx with⟨k,c,_,⟨_,_,hx⟩ | ⟨_,a',cap,_,hx,_⟩⟩ | ⟨_,_,_,_,hx⟩
     ·exact⟨_,_,hx⟩
     ·exact⟨_,_,hx⟩
     ·rename_i hn0;subst hn0;exact⟨_,_,hx⟩
    ·cases hel
   ·cases hel
  ·cases hel
 obtain⟨base,cap,rfl⟩:=hform
 cases base with
 | none=>
  have hf:=h2.first w rfl;simp[Builtin.firstCells]at hf;have:ns=[]:=by simpa using hf
  subst this;exact run_convert_bytes_nil w src e hs he m cap dst hd
 | some ad=>
  have hf:=h2.first w rfl;simp only[Builtin.firstCells,Nat.mul_one]at hf;have hb:=run_bytesToString (P:=P) (w:=w) ad m cap ns (by simpa using hf);rw[foldl_push_bytes]at hb;simp only[convert,Sem.run_bind,run_underlying hs,run_underlying hd,Result.andThen_ok,run_underlying he];rw[hb];congr 2;simp
end
end Go.AM
