/- The abstract machine: one step is the program's. -/
import Derived.Test.YtbgdifdbgcgjnaaGreatDoorAmB
import Derived.Laws.Tables
set_option linter.unusedVariables false
set_option linter.unusedSimpArgs false
set_option linter.unnecessarySimpa false
set_option maxRecDepth 100000
namespace Go.AM
section
variable {P:Program}{G:Nat->Option (List D)}{β:Bk}{Φ :Fz}{b:Nat}{H:aA}{w:World}{env:Env}{a:Act}{call:cT}
theorem zFm:∀ {ds:List D} {x d:D} {vs:List Value} {vx:Value},maxD x ds=some d->VR x β Φ vx->aE ds β Φ vs->∃v,(vs.foldlM Builtin.max2 vx).run P w=.ok v w∧VR d β Φ v:=by
 intro ds
 induction ds with
 | nil=>intro x d vs vx h hx hv;simp[maxD]at h;subst h;simp[aE]at hv;subst hv;exact⟨vx,by simp,hx⟩
 | cons y r ih=>
  intro x d vs vx h hx hv;simp only[aE]at hv;obtain⟨vy,rv,rfl,hy,hr⟩:=hv;unfold maxD at h;split at h
  ·rename_i e;cases e
  ·rename_i k p k' q r' e
   cases e
   split at h
   ·rename_i hk;subst hk
    obtain rfl:=hx.fG;obtain rfl:=hy.fG;obtain⟨v,h1,h2⟩:=ih h (vx:=.int k (if q>p then q else p)) (by simp[VR]) hr;exact⟨v,by simp only[List.foldlM_cons,Sem.run_bind,Builtin.max2,Sem.run_pure,Result.andThen_ok];exact h1,h2⟩
   ·cases h
  ·cases h
theorem zFi:∀ {ds:List D} {x d:D} {vs:List Value} {vx:Value},minD x ds=some d->VR x β Φ vx->aE ds β Φ vs->∃v,(vs.foldlM Builtin.min2 vx).run P w=.ok v w∧VR d β Φ v:=by
 intro ds
 induction ds with
 | nil=>intro x d vs vx h hx hv;simp[minD]at h;subst h;simp[aE]at hv;subst hv;exact⟨vx,by simp,hx⟩
 | cons y r ih=>
  intro x d vs vx h hx hv;simp only[aE]at hv;obtain⟨vy,rv,rfl,hy,hr⟩:=hv;unfold minD at h;split at h
  ·rename_i e;cases e
  ·rename_i k p k' q r' e
   cases e
   split at h
   ·rename_i hk;subst hk
    obtain rfl:=hx.fG;obtain rfl:=hy.fG;obtain⟨v,h1,h2⟩:=ih h (vx:=.int k (if q<p then q else p)) (by simp[VR]) hr;exact⟨v,by simp only[List.foldlM_cons,Sem.run_bind,Builtin.min2,Sem.run_pure,Result.andThen_ok];exact h1,h2⟩
   ·cases h
  ·cases h
theorem F4 {x:D}{vx:Value}{q:Bool}(h:pA x=some q)(hx:VR x β Φ vx):∃ad:Option Addr,vx=.pointer ad∧ad.isNone=q:=by
 unfold pA at h;split at h
 ·cases h;simp only[VR]at hx;exact⟨none,hx,rfl⟩
 ·cases h;simp only[VR]at hx;obtain⟨ad,hx,_⟩:=hx;exact⟨_,hx,rfl⟩
 ·cases h;simp only[VR]at hx;obtain⟨_,_,_,hx⟩:=hx;exact⟨_,hx,rfl⟩
 ·cases h;simp only[VR]at hx;obtain⟨_,_,_,hx⟩:=hx;exact⟨_,hx,rfl⟩
 ·cases h
theorem xR {x:D}{vx:Value}{q:Bool}(h:uK x=some q)(hx:VR x β Φ vx):∃(ad:Option Addr) (n c:Nat),vx=.slice ad n c∧ad.isNone=q:=by
 unfold uK at h;split at h
 ·cases h;simp only[VR]at hx;exact⟨none,0,0,hx,rfl⟩
 ·cases h;simp only[VR]at hx;obtain⟨ad,cap,_,hx,_⟩:=hx;exact⟨_,_,_,hx,rfl⟩
 ·cases h;simp only[VR]at hx
  rcases hx with⟨_,_,_,⟨_,_,hx⟩ | ⟨_,_,_,_,hx,_⟩⟩ | ⟨_,_,_,h0,_⟩
  ·exact⟨_,_,_,hx,rfl⟩
  ·exact⟨_,_,_,hx,rfl⟩
  ·cases h0
 ·cases h
theorem XE {t e:TypeId}(ht:P.underlying t=some (.pointer e)){x y:D}{q:Bool}(h:lW x y=some q){vx vy:Value}(hx:VR x β Φ vx)(hy:VR y β Φ vy):(Op.equal t vx vy).run P w=.ok q w:=by
 unfold lW at h;obtain⟨d,hm⟩:∃d,Op.maxDepth=d+1:=⟨9999,rfl⟩;split at h
 ·rename_i c h1 h2
  cases h
  obtain⟨a1,rfl,ha1⟩:=F4 h1 hx;obtain⟨a2,rfl,ha2⟩:=F4 h2 hy
  cases a1 with
  | some _=>cases ha1
  | none=>simp[Op.equal,hm,Op.equalIn,run_underlying ht,ha2]
 ·rename_i h1 h2
  cases h
  obtain⟨a1,rfl,ha1⟩:=F4 h1 hx;obtain⟨a2,rfl,ha2⟩:=F4 h2 hy
  cases a2 with
  | some _=>cases ha2
  | none=>cases a1 with
   | none=>cases ha1
   | some _=>simp[Op.equal,hm,Op.equalIn,run_underlying ht]
 ·cases h
theorem XD {t e:TypeId}(ht:P.underlying t=some (.slice e)){x y:D}{q:Bool}(h:pU x y=some q){vx vy:Value}(hx:VR x β Φ vx)(hy:VR y β Φ vy):(Op.equal t vx vy).run P w=.ok q w:=by
 unfold pU at h;obtain⟨d,hm⟩:∃d,Op.maxDepth=d+1:=⟨9999,rfl⟩;split at h
 ·rename_i c h1 h2
  cases h
  obtain⟨a1,n1,c1,rfl,ha1⟩:=xR h1 hx;obtain⟨a2,n2,c2,rfl,ha2⟩:=xR h2 hy
  cases a1 with
  | some _=>cases ha1
  | none=>simp[Op.equal,hm,Op.equalIn,run_underlying ht,ha2]
 ·rename_i h1 h2
  cases h
  obtain⟨a1,n1,c1,rfl,ha1⟩:=xR h1 hx;obtain⟨a2,n2,c2,rfl,ha2⟩:=xR h2 hy
  cases a2 with
  | some _=>cases ha2
  | none=>cases a1 with
   | none=>cases ha1
   | some _=>simp[Op.equal,hm,Op.equalIn,run_underlying ht]
 ·cases h
theorem XB {t:TypeId}{fs:Array Field}{f:Nat}{fd:Field}{ag:Bool}{n:Nat}(h1:P.underlying t=some (.struct fs))(h2:fs[f]? =some fd)(h3:lZ P fd.type=some ag)(h4:dP P fd.type=some n){cs:List D}{vs:List Value}(hv:aE cs β Φ vs){d:D}
  (hd:aJ ag n (cs.drop fd.offset)=some d):∃v,(Instr.field t (.agg vs.toArray) f).run P w=.ok v w∧VR d β Φ v:=by
 have hl:=aE.length hv;unfold aJ at hd
 cases ag with
 | true=>
  simp only[if_true]at hd;split at hd
  ·rename_i hn
   cases hd
   refine⟨.agg (vs.toArray.extract fd.offset (fd.offset+n)),?_,?_⟩
   ·simp[Instr.field,run_underlying h1,h2,asAgg,part,E3 h3,kH h4]
   ·simp only[VR]
    refine⟨(vs.drop fd.offset).take n,?_,(hv.drop _).take _⟩;apply congrArg;apply Array.ext';simp
  ·cases hd
 | false=>
  simp only[Bool.false_eq_true,if_false]at hd;obtain⟨v,r,he,h5⟩:=aE.head (hv.drop fd.offset) hd;have hi:vs[fd.offset]? =some v:=by
   have:=congrArg (fun l=>l[0]?) he;simpa using this
  exact⟨v,by simp[Instr.field,run_underlying h1,h2,asAgg,part,E3 h3,hi],h5⟩
end
end Go.AM
namespace Go.AM
def AOp.plain:AOp->Bool
 | .call _ _ | .hole _ | .fill _ _ | .bad | .dfrop _ _=>false
 | _=>true
def UN(n:Nat)(d:D):Prop:=d=.undef∨d.under n=true
theorem bJ.aD:∀ {cs:List D} {Φ :Fz} {cur:Array Value} {o:Nat},bJ cs Φ cur o->D.aD 0 cs=true
 | [],_,_,_,_=>rfl
 | d::ds, Φ,cur,o,h=>by
  simp only[bJ]at h;obtain⟨⟨v,h1,h2,h3⟩,h4⟩:=h;simp only[D.aD,h2,bJ.aD h4,Bool.and_self]
theorem VR.zH6 {cs:List D}{β:Bk}{Φ :Fz}{v:Value}(h:VR (.fptr cs) β Φ v):D.aD 0 cs=true:=by
 simp only[VR]at h;obtain⟨ad,_,rfl | ⟨_,_,_,_,_,h⟩⟩:=h
 ·rfl
 ·exact h.aD
theorem C7 {n:Nat}:∀ {cs:List D} {d:D},D.aD n cs=true->d∈cs->d.under n=true
 | [],_,_,h=>by cases h
 | c::cs,d,h,hm=>by
  simp only[D.aD,Bool.and_eq_true]at h;rcases List.mem_cons.1 hm with rfl | hm
  ·exact h.1
  ·exact C7 h.2 hm
section
variable {P:Program}{G:Nat->Option (List D)}{β:Bk}{Φ :Fz}{b:Nat}{H:aA}{w:World}{env:Env}{a:Act}
theorem zKf(h:WR P G β Φ b H w){p:D}{cs:List D}{v:Value}(hv:VR p β Φ v)(hc:hZ H p=some cs):D.aD H.length cs=true:=by
 unfold hZ at hc;split at hc
 ·cases hc;exact D.dI _ (Nat.zero_le _) hv.zH6
 ·split at hc
  ·rename_i hi;cases hc;exact D.V0 _ (h.aD hi)
  ·cases hc
 ·split at hc
  ·rename_i hi
   split at hc
   ·cases hc;exact D.V0 _ (h.aD hi)
   ·cases hc
  ·cases hc
 ·cases hc
theorem ID {ag:Bool}{n k:Nat}{cs:List D}{d:D}(hc:D.aD k cs=true)(hd:aJ ag n cs=some d):d.under k=true:=by
 unfold aJ at hd;split at hd
 ·split at hd
  ·cases hd;simpa [D.under]using D.unders_take n hc
  ·cases hd
 ·cases cs with
  | nil=>cases hd
  | cons x r=>simp at hd;subst hd;simp only[D.aD,Bool.and_eq_true]at hc;exact hc.1
theorem zMP {op:BinOp}{x y d:D}(h:cQ op x y=some d)(k:Nat):d.under k=true:=by
 unfold cQ at h;split at h
 ·split at h
  ·split at h <;> cases h;rfl
  ·split at h <;> cases h;rfl
  ·split at h
   ·unfold iV at h
    split at h <;> first | (cases h;rfl) | (split at h <;> cases h;rfl) | cases h
   ·cases h
 ·unfold pY at h
  split at h <;> first | (cases h;rfl) | (split at h <;> cases h;rfl) | cases h
 ·unfold xO at h;split at h <;> first | (split at h <;> cases h;rfl) | cases h
 ·unfold xO at h;split at h <;> first | (split at h <;> cases h;rfl) | cases h
 ·cases h
theorem RD {op:UnOp}{x d:D}(h:rB op x=some d)(k:Nat):d.under k=true:=by
 unfold rB at h;split at h
 ·split at h <;> cases h <;> rfl
 ·split at h <;> cases h;rfl
 ·cases h
theorem VQ {s:Bs}{lo hi:Option D}{d:D}(h:fD s lo hi=some d)(k:Nat):d.under k=true:=by
 unfold fD at h;split at h
 ·split at h <;> cases h;rfl
 ·cases h
theorem VU {es:Nat}{x d:D}{lo hi mx:Option D}{k:Nat}(hx:UN k x)(h:iD es x lo hi mx=some d):d.under k=true:=by
 unfold iD at h;split at h
 ·split at h <;> cases h;rfl
 ·split at h <;> cases h;rfl
 ·split at h
  ·split at h
   ·split at h
    ·split at h <;> cases h;rfl
    ·cases h
   ·split at h <;> cases h;rfl
   ·cases h
  ·cases h
 ·rcases hx with hx | hx
  ·cases hx
  ·split at h
   ·split at h
    ·split at h
     ·cases h;simpa [D.under]using hx
     ·cases h
    ·cases h
   ·split at h <;> cases h;rfl
   ·cases h
 ·cases h
theorem NR {es bytes m:Nat}{x d:D}{ys:List D}{H':aA}(hx:UN H.length x)(h:cR b H es bytes x ys m=some (d,H')):d.under H'.length=true:=by
 unfold cR at h;split at h
 ·split at h
  ·cases h;rfl
  ·split at h
   ·cases h;simp[D.under,Nat.blt_eq]
   ·cases h
 ·split at h
  ·cases h;rfl
  ·split at h
   ·cases h;simp[D.under,Nat.blt_eq]
   ·cases h
 ·split at h
  ·rename_i hi
   have:=gZ hi;split at h
   ·split at h
    ·cases h;simpa [D.under,Nat.blt_eq]using this
    ·split at h
     ·cases h;simpa [D.under,Nat.blt_eq]using this
     ·split at h
      ·cases h;simpa [D.under,Nat.blt_eq]using this
      ·cases h;simpa [D.under,Nat.blt_eq]using this
   ·cases h
  ·cases h
 ·cases h
theorem hJ(hu:EU H.length env){x:Operand}{xa:Arg}(hc:aM x=some xa):UN H.length (aI G env xa):=zIO hu hc
theorem Md(hu:EU H.length env):∀ {xs:List Operand} {as:List Arg},iT xs=some as->∀d∈fM G env as,UN H.length d:=by
 intro xs
 induction xs with
 | nil=>intro as hc;simp[iT]at hc;subst hc;intro d hd;simp[fM]at hd
 | cons x r ih=>
  intro as hc;simp only[iT]at hc;split at hc
  ·rename_i y hy
   split at hc
   ·rename_i ys hys
    cases hc
    intro d hd;simp only[fM,List.mem_cons]at hd;rcases hd with rfl | hd
    ·exact hJ hu hy
    ·exact ih hys d hd
   ·cases hc
  ·cases hc
theorem zJM(hu:EU H.length env){place:Nat->Option (Nat×Nat)}:∀ {ps:List (Nat×Operand)} {as:List (Nat×Nat×Arg)},kP place ps=some as->∀x∈as,UN H.length (aI G env x.2.2):=by
 intro ps
 induction ps with
 | nil=>intro as hc;simp[kP]at hc;subst hc;intro d hd;simp at hd
 | cons x r ih=>
  intro as hc;obtain⟨i,x⟩:=x;simp only[kP]at hc;split at hc
  ·rename_i o s xa rs hp hx hr
   cases hc
   intro d hd;rcases List.mem_cons.1 hd with rfl | hd
   ·exact hJ hu hx
   ·exact ih hr d hd
  ·cases hc
theorem HV {k:Nat}:∀ {ds:List D} {x d:D},UN k x->maxD x ds=some d->UN k d
 | [],x,d,hx,h=>by simp[maxD]at h;subst h;exact hx
 | y::r,x,d,hx,h=>by
  unfold maxD at h;split at h
  ·rename_i e;cases e
  ·rename_i e;cases e
   split at h
   ·exact HV (.inr rfl) h
   ·cases h
  ·cases h
theorem HT {k:Nat}:∀ {ds:List D} {x d:D},UN k x->minD x ds=some d->UN k d
 | [],x,d,hx,h=>by simp[minD]at h;subst h;exact hx
 | y::r,x,d,hx,h=>by
  unfold minD at h;split at h
  ·rename_i e;cases e
  ·rename_i e;cases e
   split at h
   ·exact HT (.inr rfl) h
   ·cases h
  ·cases h
theorem KL {o:Oper}{s:Sem Value}{v:Value}{w':World}(he:execOp a.eval o=(do pure (.value (← s))))(hs:s.run P w=.ok v w'):(execOp a.eval o).run P w=.ok (.value v) w':=by
 rw[he];simp[hs]
def aV(P:Program)(G:gT)(β:Bk)(Φ :Fz)(b:Nat)(H:aA)(w:World)(a:Act)(o:Oper)(d:D)(H':aA):Prop:=
 xH P G β Φ b H w a o d H'∧UN H'.length d
theorem aV.same {o:Oper}{d:D}{v:Value}{s:Sem Value}(h:WR P G β Φ b H w)(he:execOp a.eval o=(do pure (.value (← s))))(hs:s.run P w=.ok v w)(hv:VR d β Φ v)(hu:UN H.length d):aV P G β Φ b H w a o d H:=
 ⟨xH.pure h (KL he hs) hv,hu⟩
theorem aV.made {o:Oper}{d:D}{v:Value}{s:Sem Value}{w':World}{β':Bk}{Φ' :Fz}{H':aA}(he:execOp a.eval o=(do pure (.value (← s))))(hs:s.run P w=.ok v w')(hv:VR d β' Φ' v)(hw:WR P G β' Φ' b H' w')(hx:Ext β Φ H w β' Φ' H' w')(hu:UN H'.length d):
  aV P G β Φ b H w a o d H':=
 ⟨⟨_,v,w',β', Φ',KL he hs,.inl rfl,hv,hw,hx⟩,hu⟩
end
end Go.AM
namespace Go.AM
section
variable {P:Program}{G:Nat->Option (List D)}{β:Bk}{Φ :Fz}{b:Nat}{H:aA}{w:World}{env:Env}{a:Act}{call:cT}
theorem BV(h:WR P G β Φ b H w)(he:ER β Φ env a.tmps)(hu:EU H.length env){o:Oper}{x:Operand}{xa:Arg}(ho:execOp a.eval o=pure (.value (a.eval x)))(hc:aM x=some xa){d:D}{H':aA}
  (hs:step G b call env H (.mov xa)=some (d,H')):aV P G β Φ b H w a o d H':=by
 simp only[step]at hs;split at hs
 ·cases hs
 ·rename_i d' hne
  cases hs
  exact⟨xH.pure h (by rw[ho];simp) (bH h he hc),hJ hu hc⟩
theorem TU(h:WR P G β Φ b H w){o:Oper}{es:Nat}(ho:execOp a.eval o=pure (.value (.slice none 0 0)))(hes:0<es){d:D}{H':aA}
  (hs:step G b call env H (.resv es)=some (d,H')):aV P G β Φ b H w a o d H':=by
 simp only[step,hes,if_true]at hs
 cases hs
 have hr:bU H [.nilsl] [(0,es)]=some (H++[.row es [] true],[.osl H.length 0 0 0]):=by simp[bU,hes]
 obtain⟨h1,h2,h3,h4,h5⟩:=E5 h (vs:=[.slice none 0 0]) (by simp[aE,VR]) (by simp[D.aD,D.under]) rfl hr;simp only[aE]at h3;obtain⟨v,r,e,h3,_⟩:=h3
 cases e
 exact⟨⟨_,_,w,β, Φ,by rw[ho];simp,.inl rfl,h3,h1,h2⟩,.inr (by simp[D.under,Nat.blt_eq])⟩
theorem TV(h:WR P G β Φ b H w)(he:ER β Φ env a.tmps)(hu:EU H.length env){o:Oper}{x y z:Operand}{xa ya za:Arg}(hop:o.op=.pick x y z)(h1:aM x=some xa)(h2:aM y=some ya)(h3:aM z=some za){d:D}{H':aA}
  (hs:step G b call env H (.pick xa ya za)=some (d,H')):aV P G β Φ b H w a o d H':=by
 simp only[step]at hs;split at hs
 ·rename_i c hx
  have hx':a.eval x=.bool c:=(hx ▸ bH h he h1:VR (.bool c) β Φ (a.eval x)).sA;split at hs
  ·cases hs
  ·cases hs
   refine⟨xH.pure (v:=if c then a.eval y else a.eval z) h (by unfold execOp;rw[hop];simp[hx',asBool]) ?_,?_⟩
   ·cases c
    ·exact bH h he h3
    ·exact bH h he h2
   ·cases c
    ·exact hJ hu h3
    ·exact hJ hu h2
 ·cases hs
theorem VD(h:WR P G β Φ b H w){o:Oper}{e:TypeId}{s by_:Nat}{zs:List D}{res:List (Nat×Nat)}(hop:o.op=.alloc e)(hz:gV P e=some (s,by_,zs)){d:D}{H':aA}
  (hs:step G b call env H (.allocB zs res)=some (d,H')):aV P G β Φ b H w a o d H':=by
 simp only[step]at hs;split at hs
 ·rename_i H1 cs hr
  cases hs
  obtain⟨i,z,hi,hzz,_,_,_,hds,_⟩:=oT hz;obtain⟨g1,g2,g3⟩:=sL hds;obtain⟨w1,w2,w3,w4,w5⟩:=E5 h (g3 β Φ) (D.dI _ (Nat.zero_le _) g1) g2 hr;obtain⟨β',v1,v2,v3⟩:=NJ (cells:=z.cells) w1 e w3 w4 w5;refine aV.made (v:=.pointer (some ⟨w.heap.size,0,none⟩)) (s:=Instr.alloc e true (.tuple #[])) (by unfold execOp;rw[hop]) ?_ v1 v2 (w2.trans v3) (.inr (by simp[D.under,Nat.blt_eq]));have:=V9 (w:=w) hi hzz;simp[Instr.alloc,this,newVar,newRow]
 ·cases hs
theorem UY(h:WR P G β Φ b H w)(he:ER β Φ env a.tmps){o:Oper}{e:TypeId}{n:Nat}{x:Operand}{xa:Arg}(hop:o.op=.box e x)(hx:aM x=some xa){d:D}{H':aA}
  (hs:step G b call env H (.boxF n xa)=some (d,H')):aV P G β Φ b H w a o d H':=by
 simp only[step]at hs;split at hs
 ·rename_i hh
  cases hs
  obtain⟨hl,hun,hon⟩:=hh;have hv:=VR.cells hon (bH h he hx);obtain⟨Φ',f1,f2,f3⟩:=Lj h (Grow.alloc w (.cells (a.eval x).cells e)) (by rw[← aE.length hv,List.take_length];exact hv) hun;refine aV.made (v:=.pointer (some ⟨w.heap.size,0,none⟩)) (s:=Instr.box e (a.eval x)) (by unfold execOp;rw[hop]) (by simp[Instr.box,newVar,newRow]) ?_ f2 f3 (.inr rfl);simp only[VR];obtain⟨cur,e',fr,q1,q2⟩:=f1;exact⟨_,rfl,.inr ⟨cur,e',fr,q1,rfl,q2⟩⟩
 ·cases hs
theorem HD:∀ {cs:List D} {i:Nat} {c d:D},cs[i]? =some c->c.one=true->D.aF (cs.set i d)=true->D.aF cs=true
 | [],_,_,_,h,_,_=>by simp at h
 | x::cs,0,c,d,h,hc,ho=>by simp at h;subst h;simp only[List.set_cons_zero,D.aF,Bool.and_eq_true]at ho ⊢;exact⟨hc,ho.2⟩
 | x::cs,i+1,c,d,h,hc,ho=>by
  simp only[List.set_cons_succ,D.aF,Bool.and_eq_true]at ho ⊢;exact⟨ho.1,HD (by simpa using h) hc ho.2⟩
theorem X5:∀ {res:List (Nat×Nat)} {H H':aA} {cs cs':List D},bU H cs res=some (H',cs')->D.aF cs'=true->D.aF cs=true
 | [],_,_,_,_,h,ho=>by simp[bU]at h;rw[h.2];exact ho
 | (off,es)::r,H,H',cs,cs',h,ho=>by
  simp only[bU]at h;split at h
  ·rename_i hn
   split at h
   ·exact HD hn rfl (X5 h ho)
   ·cases h
  ·exact X5 h ho
theorem UZ(h:WR P G β Φ b H w)(he:ER β Φ env a.tmps){o:Oper}{e:TypeId}{n:Nat}{res:List (Nat×Nat)}{x:Operand}{xa:Arg}(hop:o.op=.box e x)(hx:aM x=some xa)(hu:EU H.length env){d:D}{H':aA}
  (hs:step G b call env H (.boxB n xa res)=some (d,H')):aV P G β Φ b H w a o d H':=by
 simp only[step]at hs;split at hs
 ·rename_i hl
  split at hs
  ·rename_i H1 cs hr
   split at hs
   ·rename_i hst
    cases hs
    have ho':D.aF cs=true:=by simp only[storable,Bool.and_eq_true]at hst;exact hst.2
    have ho:=X5 hr ho';have hun:D.aD H.length (aI G env xa).cells=true:=by
     rcases hJ (G:=G) hu hx with hun | hun
     ·rw[hun]at ho;simp[D.cells,D.aF,D.one]at ho
     ·exact D.Gi hun
    obtain⟨w1,w2,w3,w4,w5⟩:=E5 h (VR.cells ho (bH h he hx)) hun ho hr;obtain⟨β',v1,v2,v3⟩:=NJ (cells:=(a.eval x).cells) w1 e w3 w4 w5;exact aV.made (v:=.pointer (some ⟨w.heap.size,0,none⟩)) (s:=Instr.box e (a.eval x)) (by unfold execOp;rw[hop]) (by simp[Instr.box,newVar,newRow]) v1 v2 (w2.trans v3) (.inr (by simp[D.under,Nat.blt_eq]))
   ·cases hs
  ·cases hs
 ·cases hs
theorem CB(h:WR P G β Φ b H w)(he:ER β Φ env a.tmps)(hu:EU H.length env){o:Oper}{t:TypeId}{s by_:Nat}{zs:List D}{ps:Array (Nat×Operand)}{place:Nat->Option (Nat×Nat)}{l:List (Nat×Nat×Arg)}(hop:o.op=.build t ps)(hz:gV P t=some (s,by_,zs))
  (hl:kP place ps.toList=some l) (hp:∀i z parts,P.info? t=some i->i.zero=some z->P.built t parts=Instr.fill place z.cells parts) {d:D} {H':aA}
  (hs:step G b call env H (.build zs l)=some (d,H')):aV P G β Φ b H w a o d H':=by
 simp only[step]at hs;split at hs
 ·rename_i cs hf
  split at hs
  ·rename_i hon
   cases hs
   obtain⟨i,z,hi,hzz,_,_,_,hds,_⟩:=oT hz;obtain⟨g1,g2,g3⟩:=sL hds;obtain⟨arr,q1,q2⟩:=KF h he hl (g3 β Φ) hf;refine aV.same (v:=.agg arr) (s:=Instr.build t (ps.map fun(i,x)=>(i,a.eval x))) h (by unfold execOp;rw[hop]) (run_build w t _ arr ?_) ?_ (.inr ?_)
   ·rw[hp i z _ hi hzz];simpa using q1
   ·simp only[VR];exact⟨arr.toList,by simp,q2⟩
   ·simp only[D.under]
    exact zIi (D.dI _ (Nat.zero_le _) g1) (zJM hu hl) hf
  ·cases hs
 ·cases hs
theorem UX(h:WR P G β Φ b H w)(he:ER β Φ env a.tmps){o:Oper}{t e:TypeId}{s by_ n:Nat}{zs:List D}{ps:Array (Nat×Operand)}{l:List (Nat×Nat×Arg)}(hop:o.op=.buildSlice t n ps)(ht:P.underlying t=some (.slice e))(hz:gV P e=some (s,by_,zs))
  (hs0:0<s) (hn:n*s<=16777216) (hl:kP (fun i=>some (i*s,s)) ps.toList=some l) {d:D} {H':aA}
  (hs:step G b call env H (.bslF (eB zs n) n l)=some (d,H')):aV P G β Φ b H w a o d H':=by
 simp only[step]at hs;split at hs
 ·rename_i cs hf
  split at hs
  ·rename_i hh
   cases hs
   obtain⟨arr,q1,q2⟩:=FI h he ht hz hs0 hn hl hf;obtain⟨Φ',f1,f2,f3⟩:=Lj h (Grow.alloc w (.cells arr e)) (by rw[← aE.length q2,List.take_length];exact q2) hh.1;refine aV.made (v:=.slice (some ⟨w.heap.size,0,none⟩) n n) (by unfold execOp;rw[hop]) q1 ?_ f2 f3 (.inr rfl);simp only[VR];obtain⟨cur,e',fr,q1,q2⟩:=f1;exact⟨_,n,Nat.le_refl _,rfl,.inr ⟨cur,e',fr,q1,rfl,q2⟩⟩
  ·cases hs
 ·cases hs
theorem KG:∀ {ps:List (Nat×Nat×D)} {cs cs':List D},fT cs ps=some cs'->cs'.length=cs.length
 | [],cs,cs',h=>by simp[fT]at h;rw[h]
 | (off,size,v)::r,cs,cs',h=>by
  simp only[fT]at h;split at h
  ·rename_i hh
   rw[KG h,V3 _ _ _ (by omega)]
  ·cases h
theorem UW(h:WR P G β Φ b H w)(he:ER β Φ env a.tmps){o:Oper}{t e:TypeId}{s by_ n:Nat}{zs:List D}{ps:Array (Nat×Operand)}{l:List (Nat×Nat×Arg)}(hop:o.op=.buildSlice t n ps)(ht:P.underlying t=some (.slice e))(hz:gV P e=some (s,by_,zs))
  (hs0:0<s) (hn:n*s<=16777216) (hl:kP (fun i=>some (i*s,s)) ps.toList=some l) {d:D} {H':aA}
  (hs:step G b call env H (.bslR s (eB zs n) n l)=some (d,H')):aV P G β Φ b H w a o d H':=by
 simp only[step]at hs;split at hs
 ·rename_i cs hf
  split at hs
  ·rename_i hst
   cases hs
   obtain⟨hu1,ho1⟩:=BR h hst;obtain⟨arr,q1,q2⟩:=FI h he ht hz hs0 hn hl hf;obtain⟨i,z,hi,hzz,hsz,_,_,hds,hzl⟩:=oT hz;have hlen:cs.length=n*s:=by rw[KG hf,Bb,hzl]
   have hal:arr.toList.length=cs.length:=aE.length q2;obtain⟨β',v1,v2,v3⟩:=X4 h (n:=n) (c:=n) (Grow.alloc w (.cells arr e)) hs0 (by rw[← Array.length_toList,hal,hlen]) (by
    have h1:n*1<=n*s:=Nat.mul_le_mul_left n hs0;have h2:maxLen=9223372036854775807:=by decide
    omega) hlen (Nat.le_refl _) (by rw[← hal,List.take_length];exact q2) hu1 ho1
   exact aV.made (by unfold execOp;rw[hop]) q1 v1 v2 v3 (.inr (by simp[D.under,Nat.blt_eq]))
  ·cases hs
 ·cases hs
end
end Go.AM
namespace Go.AM
section
variable {P:Program}{G:Nat->Option (List D)}{β:Bk}{Φ :Fz}{b:Nat}{H:aA}{w:World}{env:Env}{a:Act}{call:cT}
theorem UE(h:WR P G β Φ b H w)(he:ER β Φ env a.tmps){o:Oper}{t:TypeId}{ag:Bool}{n:Nat}{x:Operand}{xa:Arg}(hop:o.op=.load t x)(h1:lZ P t=some ag)(h2:dP P t=some n)(hx:aM x=some xa){d:D}{H':aA}
  (hs:step G b call env H (.load ag n xa)=some (d,H')):aV P G β Φ b H w a o d H':=by
 simp only[step]at hs;split at hs
 ·rename_i cs hcs
  split at hs
  ·cases hs
  ·rename_i d' hne hd
   cases hs
   obtain⟨u,q1,q2⟩:=WX h h1 h2 (bH h he hx) hcs hd;exact aV.same h (by unfold execOp;rw[hop]) q1 q2 (.inr (ID (zKf h (bH h he hx) hcs) hd))
  ·cases hs
 ·cases hs
theorem TR(h:WR P G β Φ b H w)(he:ER β Φ env a.tmps){o:Oper}{t:TypeId}{n:Nat}{p x:Operand}{pa xa:Arg}(hop:o.op=.store t p x)(h2:dP P t=some n)(hp:aM p=some pa)(hx:aM x=some xa){d:D}{H':aA}
  (hs:step G b call env H (.store n pa xa)=some (d,H')):aV P G β Φ b H w a o d H':=by
 simp only[step]at hs;split at hs
 ·rename_i H1 hst
  cases hs
  obtain⟨w',q1,q2,q3⟩:=WT h h2 (bH h he hp) (bH h he hx) hst;refine⟨⟨.skip,undef,w',β, Φ,?_,.inr ⟨rfl,rfl⟩,xG _ _,q2,q3⟩,.inr rfl⟩;unfold execOp;rw[hop];simp[q1]
 ·cases hs
theorem TW(h:WR P G β Φ b H w)(he:ER β Φ env a.tmps)(hu:EU H.length env){o:Oper}{x:Operand}{xa:Arg}(hop:o.op=.nilCheck x)(hx:aM x=some xa){d:D}{H':aA}
  (hs:step G b call env H (.nilchk xa)=some (d,H')):aV P G β Φ b H w a o d H':=by
 have hv:=bH h he hx;have hun:=hJ (G:=G) hu hx;have key:∀ad,a.eval x=.pointer (some ad)->VR (aI G env xa) β Φ (.pointer (some ad))->aV P G β Φ b H w a o (aI G env xa) H:=fun ad e hv=>by
  refine⟨xH.pure (v:=.pointer (some ad)) h ?_ hv,hun⟩;unfold execOp;rw[hop];simp[e]
 simp only[step]at hs;split at hs
 ·rename_i e;cases hs
  rw[← e];have hv':=hv;rw[e]at hv';simp only[VR]at hv';obtain⟨_,_,_,e'⟩:=hv';exact key _ e' (e' ▸ hv)
 ·rename_i e;cases hs
  rw[← e];have hv':=hv;rw[e]at hv';simp only[VR]at hv';obtain⟨_,_,_,e'⟩:=hv';exact key _ e' (e' ▸ hv)
 ·rename_i e;cases hs
  rw[← e];have hv':=hv;rw[e]at hv';simp only[VR]at hv';obtain⟨_,e',_⟩:=hv';exact key _ e' (e' ▸ hv)
 ·cases hs
theorem CC(h:WR P G β Φ b H w)(he:ER β Φ env a.tmps){o:Oper}{op:BinOp}{t ty:TypeId}{x y:Operand}{xa ya:Arg}(hop:o.op=.binOp op t x y ty)(hx:aM x=some xa)(hy:aM y=some ya){d:D}{H':aA}
  (hs:step G b call env H (.bin op xa ya)=some (d,H')):aV P G β Φ b H w a o d H':=by
 simp only[step]at hs;split at hs
 ·rename_i d' hd
  cases hs
  obtain⟨v,q1,q2,q3⟩:=XI (P:=P) (w:=w) hd (bH h he hx) (bH h he hy) t;refine aV.same h (by unfold execOp;rw[hop]) (s:=do eqGuard op t x y (a.eval x) (a.eval y);binOp op t (a.eval x) (a.eval y)) ?_ q2 (.inr (zMP hd _));simp[q3,q1]
 ·cases hs
theorem zMO {op:BinOp}{neg q:Bool}{t:TypeId}{vx vy:Value}(hop:op=.eql∧neg=false∨op=.neq∧neg=true)(hq:(Op.equal t vx vy).run P w=.ok q w)
  (hk:∀k n,vx≠ .int k n) (hf:∀k n,vx≠ .float k n) (hc:∀k n m,vx≠ .complex k n m) (hs:∀s,vx≠ .string s):(binOp op t vx vy).run P w=.ok (.bool (neg != q)) w:=by
 rcases hop with⟨rfl,rfl⟩ | ⟨rfl,rfl⟩
 ·cases vx <;> first | (exact absurd rfl (hk _ _)) | (exact absurd rfl (hf _ _)) | (exact absurd rfl (hc _ _ _)) | (exact absurd rfl (hs _)) | (simp[binOp,hq])
 ·cases vx <;> first | (exact absurd rfl (hk _ _)) | (exact absurd rfl (hf _ _)) | (exact absurd rfl (hc _ _ _)) | (exact absurd rfl (hs _)) | (simp[binOp,hq])
theorem V2(h:WR P G β Φ b H w){o:Oper}{op:BinOp}{neg q:Bool}{t ty:TypeId}{x y:Operand}(hop:o.op=.binOp op t x y ty)(hn:op=.eql∧neg=false∨op=.neq∧neg=true)
  (hg:(eqGuard op t x y (a.eval x) (a.eval y)).run P w=.ok () w) (hq:(Op.equal t (a.eval x) (a.eval y)).run P w=.ok q w)
  (hk:∀k n,a.eval x≠ .int k n) (hf:∀k n,a.eval x≠ .float k n) (hc:∀k n m,a.eval x≠ .complex k n m) (hs:∀s,a.eval x≠ .string s):aV P G β Φ b H w a o (.bool (neg != q)) H:=by
 refine aV.same h (by unfold execOp;rw[hop]) (s:=do eqGuard op t x y (a.eval x) (a.eval y);binOp op t (a.eval x) (a.eval y)) (v:=.bool (neg != q)) ?_ (by simp[VR]) (.inr rfl);simp[hg,zMO hn hq hk hf hc hs]
theorem GM {x:D}{vx:Value}{q:Bool}(h:pA x=some q)(hx:VR x β Φ vx):∃ad,vx=.pointer ad:=by
 obtain⟨ad,e,_⟩:=F4 h hx;exact⟨ad,e⟩
theorem zIW {x y:D}{q:Bool}(h:lW x y=some q):∃c,pA x=some c:=by
 unfold lW at h;split at h
 ·rename_i h1 _;exact⟨_,h1⟩
 ·rename_i h1 _;exact⟨_,h1⟩
 ·cases h
theorem zIV {x y:D}{q:Bool}(h:lW x y=some q):∃c,pA y=some c:=by
 unfold lW at h;split at h
 ·rename_i h1;exact⟨_,h1⟩
 ·rename_i h1;exact⟨_,h1⟩
 ·cases h
theorem zIU {x y:D}{q:Bool}(h:pU x y=some q):∃c,uK x=some c:=by
 unfold pU at h;split at h
 ·rename_i h1 _;exact⟨_,h1⟩
 ·rename_i h1 _;exact⟨_,h1⟩
 ·cases h
theorem zIT {x y:D}{q:Bool}(h:pU x y=some q):∃c,uK y=some c:=by
 unfold pU at h;split at h
 ·rename_i h1;exact⟨_,h1⟩
 ·rename_i h1;exact⟨_,h1⟩
 ·cases h
theorem XF {t:TypeId}(ht:P.underlying t=some .bool)(p q:Bool):(Op.equal t (.bool p) (.bool q)).run P w=.ok (p == q) w:=by
 obtain⟨d,hm⟩:∃d,Op.maxDepth=d+1:=⟨9999,rfl⟩;simp[Op.equal,hm,Op.equalIn,run_underlying ht]
theorem TQ(h:WR P G β Φ b H w)(he:ER β Φ env a.tmps){o:Oper}{op:UnOp}{ty:TypeId}{x:Operand}{xa:Arg}(hop:o.op=.unOp op ty x)(hx:aM x=some xa){d:D}{H':aA}
  (hs:step G b call env H (.un op xa)=some (d,H')):aV P G β Φ b H w a o d H':=by
 simp only[step]at hs;split at hs
 ·rename_i d' hd
  cases hs
  obtain⟨v,q1,q2⟩:=WO (P:=P) (w:=w) hd (bH h he hx);exact aV.same h (by unfold execOp;rw[hop]) q1 q2 (.inr (RD hd _))
 ·cases hs
theorem US(h:WR P G β Φ b H w)(he:ER β Φ env a.tmps){o:Oper}{src dst:TypeId}{k k0:IntKind}{x:Operand}{xa:Arg}(hop:o.op=.convert src dst x)(hsrc:P.underlying src=some (.int k0))(hd:P.underlying dst=some (.int k))(hx:aM x=some xa){d:D}{H':aA}
  (hs:step G b call env H (.convI k xa)=some (d,H')):aV P G β Φ b H w a o d H':=by
 simp only[step]at hs;split at hs
 ·rename_i kk n hxv
  cases hs
  have hx':a.eval x=.int kk n:=(hxv ▸ bH h he hx:VR (.int kk n) β Φ (a.eval x)).fG;refine aV.same (v:=.int k (k.wrap n)) (s:=convert src dst (a.eval x)) h (by unfold execOp;rw[hop]) ?_ (by simp[VR]) (.inr rfl);rw[hx'];simp[convert,run_underlying hsrc,run_underlying hd,Conv.intToInt]
 ·cases hs
theorem zI8 {n:Int}(h0:0<=n)(h1:n<128):Utf8.encode n=⟨#[UInt8.ofNat n.toNat]⟩:=by
 have hv:Utf8.valid n=true:=by simp[Utf8.valid];omega
 unfold Utf8.encode;simp only[hv,if_true];rw[if_pos (by omega)]
theorem UR(h:WR P G β Φ b H w)(he:ER β Φ env a.tmps){o:Oper}{src dst:TypeId}{k0:IntKind}{x:Operand}{xa:Arg}(hop:o.op=.convert src dst x)(hsrc:P.underlying src=some (.int k0))(hd:P.underlying dst=some .string)(hx:aM x=some xa){d:D}{H':aA}
  (hs:step G b call env H (.convIS xa)=some (d,H')):aV P G β Φ b H w a o d H':=by
 simp only[step]at hs;split at hs
 ·rename_i kk n hxv
  split at hs
  ·rename_i hn
   cases hs
   have hx':a.eval x=.int kk n:=(hxv ▸ bH h he hx:VR (.int kk n) β Φ (a.eval x)).fG;refine aV.same (v:=.string ⟨[UInt8.ofNat n.toNat].toArray⟩) (s:=convert src dst (a.eval x)) h (by unfold execOp;rw[hop]) ?_ (by simp[VR]) (.inr rfl);rw[hx'];simp[convert,run_underlying hsrc,run_underlying hd,Conv.intToString,zI8 hn.1 hn.2]
  ·cases hs
 ·cases hs
theorem UQ(h:WR P G β Φ b H w)(he:ER β Φ env a.tmps)(hu:EU H.length env){o:Oper}{src dst:TypeId}{x:Operand}{xa:Arg}(hop:o.op=.convert src dst x)(hsrc:P.underlying src=some .string)(hd:P.underlying dst=some .string)(hx:aM x=some xa){d:D}{H':aA}
  (hs:step G b call env H (.sliceS xa none none)=some (d,H')):aV P G β Φ b H w a o d H':=by
 simp only[step,cZ,fD,dY,List.take_length,List.drop_zero]at hs;split at hs
 ·rename_i s hxv
  cases hs
  have hx':=(hxv ▸ bH h he hx:VR (.str s) β Φ (a.eval x)).lI;refine aV.same (v:=.string ⟨s.toArray⟩) (s:=convert src dst (a.eval x)) h (by unfold execOp;rw[hop]) ?_ (by simp[VR]) (.inr rfl);rw[hx'];simp[convert,run_underlying hsrc,run_underlying hd]
 ·cases hs
theorem UP(h:WR P G β Φ b H w)(he:ER β Φ env a.tmps){o:Oper}{src dst e:TypeId}{x:Operand}{xa:Arg}(hop:o.op=.convert src dst x)(hsrc:P.underlying src=some .string)(hd:P.underlying dst=some (.slice e))(hel:P.underlying e=some (.int .u8))(hx:aM x=some xa){d:D}{H':aA}
  (hs:step G b call env H (.convSB xa)=some (d,H')):aV P G β Φ b H w a o d H':=by
 simp only[step]at hs;split at hs
 ·rename_i s hxv
  split at hs
  ·cases hs
   have hx':=(hxv ▸ bH h he hx:VR (.str s) β Φ (a.eval x)).lI;obtain⟨v,w', Φ',q1,q2,q3,q4⟩:=zJx h hsrc hd hel s;exact aV.made (s:=convert src dst (a.eval x)) (by unfold execOp;rw[hop]) (by rw[hx'];exact q1) q2 q3 q4 (.inr rfl)
  ·cases hs
 ·cases hs
theorem UT(h:WR P G β Φ b H w)(he:ER β Φ env a.tmps){o:Oper}{src dst e:TypeId}{x:Operand}{xa:Arg}(hop:o.op=.convert src dst x)(hsrc:P.underlying src=some (.slice e))(hd:P.underlying dst=some .string)(hel:P.underlying e=some (.int .u8))(hx:aM x=some xa){d:D}{H':aA}
  (hs:step G b call env H (.convBS xa)=some (d,H')):aV P G β Φ b H w a o d H':=by
 simp only[step]at hs;split at hs
 ·rename_i cs m hcs
  split at hs
  ·rename_i s hbs
   cases hs
   exact aV.same (v:=.string ⟨s.toArray⟩) (s:=convert src dst (a.eval x)) h (by unfold execOp;rw[hop]) (zJB h hsrc hd hel (bH h he hx) hcs hbs) (by simp[VR]) (.inr rfl)
  ·cases hs
 ·cases hs
theorem Gg {n:Nat}:∀ {ds:List D},(∀d∈ds,UN n d)->D.fA ds=true->D.aD n ds=true
 | [],_,_=>rfl
 | d::ds,h,hd=>by
  have h1:=h d (by simp);have h2:d≠ .undef:=by rintro rfl;simp[D.fA]at hd
  have h3:D.fA ds=true:=by cases d <;> first | exact absurd rfl h2 | simpa [D.fA]using hd
  simp only[D.aD,Bool.and_eq_true];exact⟨h1.resolve_left h2,Gg (fun x hx=>h x (by simp[hx])) h3⟩
theorem UA(h:WR P G β Φ b H w)(he:ER β Φ env a.tmps)(hun:EU H.length env){o:Oper}{f:FuncId}{first caps:Array Operand}{k l:List Arg}(hop:o.op=.makeFunc (.func f) first caps)(hk:iT first.toList=some k)(hl:iT caps.toList=some l){d:D}{H':aA}
  (hs:step G b call env H (.mkf f k l)=some (d,H')):aV P G β Φ b H w a o d H':=by
 simp only[step]at hs;split at hs
 ·rename_i hu
  cases hs
  simp only[Bool.and_eq_true]at hu;refine aV.same (v:=.func (.func f) (first.map a.eval) (caps.map a.eval)) (s:=Instr.makeFunc (.func f) (first.map a.eval) (caps.map a.eval)) h (by unfold execOp;rw[hop]) (by simp[Instr.makeFunc]) ?_ (.inr ?_)
  ·simp only[VR]
   exact⟨first.toList.map a.eval,caps.toList.map a.eval,by rw[← Array.toList_map, ← Array.toList_map],M8 h he hk,M8 h he hl⟩
  ·simp only[D.under,Bool.and_eq_true]
   exact⟨Gg (Md hun hk) hu.1,Gg (Md hun hl) hu.2⟩
 ·cases hs
theorem TX(h:WR P G β Φ b H w)(he:ER β Φ env a.tmps){o:Oper}{t e:TypeId}{s by_:Nat}{zs:List D}{x y:Operand}{xa ya:Arg}(hop:o.op=.makeSlice t x y)(ht:P.underlying t=some (.slice e))(hz:gV P e=some (s,by_,zs))(hs0:0<s)
  (hx:aM x=some xa) (hy:aM y=some ya) {d:D} {H':aA} (hs:step G b call env H (.msl s by_ zs xa ya)=some (d,H')):aV P G β Φ b H w a o d H':=by
 simp only[step]at hs;split at hs
 ·rename_i l c hxv hyv
  split at hs
  ·rename_i hh
   cases hs
   obtain⟨h0,h1,h2,h3⟩:=hh;have hx':=(hxv ▸ bH h he hx:VR (.int .i64 l) β Φ (a.eval x)).fG;have hy':=(hyv ▸ bH h he hy:VR (.int .i64 c) β Φ (a.eval y)).fG;obtain⟨arr,q1,q2,q3⟩:=run_makeSlice (P:=P) (w:=w) (β:=β) (Φ := Φ) ht hz hs0 h0 h1 h2 h3;obtain⟨i,z,hi,hzz,hsz,_,_,hds,hzl⟩:=oT hz;obtain⟨g1,g2,g3⟩:=sL hds;have hlen:(eB zs l.toNat).length=l.toNat*s:=by rw[Bb,hzl]
   obtain⟨β',v1,v2,v3⟩:=X4 h (n:=l.toNat) (c:=c.toNat) (Grow.alloc w (.cells arr e)) hs0 q2 (by
    have h2:maxLen=9223372036854775807:=by decide
    have h4:aX=140737488355328:=rfl;omega) hlen (by omega) (by rw[hlen];exact q3) (Mp (D.dI _ (Nat.zero_le _) g1) _) (Mq g2 _)
   exact aV.made (s:=Instr.makeSlice t (a.eval x) (a.eval y)) (by unfold execOp;rw[hop]) (by rw[hx',hy'];exact q1) v1 v2 v3 (.inr (by simp[D.under,Nat.blt_eq]))
  ·cases hs
 ·cases hs
theorem TS(h:WR P G β Φ b H w)(he:ER β Φ env a.tmps){o:Oper}{t:TypeId}{x:Operand}{lo hi mx:Option Operand}{xa:Arg}{la ha:Option Arg}(hop:o.op=.slice t x lo hi mx)(ht:P.underlying t=some .string)
  (hx:aM x=some xa) (hlo:hY lo=some la) (hhi:hY hi=some ha) (hmx:hY mx=some none) {d:D} {H':aA} (hs:step G b call env H (.sliceS xa la ha)=some (d,H')):aV P G β Φ b H w a o d H':=by
 simp only[step]at hs;split at hs
 ·rename_i s hxv
  split at hs
  ·rename_i d' hd
   cases hs
   have hx':=(hxv ▸ bH h he hx:VR (.str s) β Φ (a.eval x)).lI;have hm:mx=none:=by
    cases mx with
    | none=>rfl
    | some y=>simp only[hY]at hmx;split at hmx <;> cases hmx
   subst hm;obtain⟨v,q1,q2⟩:=WU h he ht hlo hhi hd;exact aV.same (s:=Instr.sliceAt t (a.eval x) (lo.map a.eval) (hi.map a.eval) none) h (by unfold execOp;rw[hop];rfl) (by rw[hx'];exact q1) q2 (.inr (VQ hd _))
  ·cases hs
 ·cases hs
theorem TT(h:WR P G β Φ b H w)(he:ER β Φ env a.tmps)(hu:EU H.length env){o:Oper}{t e:TypeId}{es:Nat}{x:Operand}{lo hi mx:Option Operand}{xa:Arg}{la ha ma:Option Arg}(hop:o.op=.slice t x lo hi mx)(ht:P.underlying t=some (.slice e))(hes:dP P e=some es)(hes0:0<es)
  (hx:aM x=some xa) (hlo:hY lo=some la) (hhi:hY hi=some ha) (hmx:hY mx=some ma) {d:D} {H':aA} (hs:step G b call env H (.sliceL es xa la ha ma)=some (d,H')):aV P G β Φ b H w a o d H':=by
 simp only[step]at hs;split at hs
 ·rename_i d' hd
  cases hs
  obtain⟨v,q1,q2⟩:=WV h he ht hes hes0 hlo hhi hmx (bH h he hx) hd;exact aV.same h (by unfold execOp;rw[hop]) q1 q2 (.inr (VU (hJ hu hx) hd))
 ·cases hs
theorem UL(h:WR P G β Φ b H w)(he:ER β Φ env a.tmps)(hu:EU H.length env){o:Oper}{s:TypeId}{fs:Array Field}{f sz:Nat}{fd:Field}{x:Operand}{xa:Arg}(hop:o.op=.fieldAddr s x f)(h1:P.underlying s=some (.struct fs))(h2:fs[f]? =some fd)(h3:dP P fd.type=some sz)(h4:0<sz)
  (hx:aM x=some xa) {d:D} {H':aA} (hs:step G b call env H (.faddr fd.offset xa)=some (d,H')):aV P G β Φ b H w a o d H':=by
 have hv:=bH (G:=G) h he hx;have hun:=hJ (G:=G) hu hx;simp only[step]at hs;split at hs
 ·rename_i e;cases hs
  rw[e]at hv hun;simp only[VR]at hv;obtain⟨k,c,hk,e'⟩:=hv;refine aV.same (s:=Instr.fieldAt s (a.eval x) f) h (by unfold execOp;rw[hop]) (by rw[e'];exact Hc h1 h2 h3 h4 _) ?_ (.inr (by rcases hun with hun | hun <;> first | cases hun | exact hun));simp only[VR];exact⟨k,c,hk,by rw[sC _ _ rfl]⟩
 ·rename_i e;cases hs
  rw[e]at hv hun;simp only[VR]at hv;obtain⟨k,c,hk,e'⟩:=hv;refine aV.same (s:=Instr.fieldAt s (a.eval x) f) h (by unfold execOp;rw[hop]) (by rw[e'];exact Hc h1 h2 h3 h4 _) ?_ (.inr (by rcases hun with hun | hun <;> first | cases hun | exact hun));simp only[VR];exact⟨k,c,hk,by rw[sC _ _ rfl]⟩
 ·rename_i e;cases hs
  rw[e]at hv;simp only[VR]at hv;obtain⟨ad,e',hv⟩:=hv;exact aV.same (s:=Instr.fieldAt s (a.eval x) f) h (by unfold execOp;rw[hop]) (by rw[e'];exact Hc h1 h2 h3 h4 _) (VR.Lo _ hv) (.inr rfl)
 ·cases hs
theorem UJ(h:WR P G β Φ b H w)(he:ER β Φ env a.tmps)(hu:EU H.length env){o:Oper}{t e:TypeId}{s:Nat}{x y:Operand}{xa ya:Arg}(hop:o.op=.indexAddr t x y)(h1:P.underlying t=some (.slice e))(h2:dP P e=some s)
  (hx:aM x=some xa) (hy:aM y=some ya) {d:D} {H':aA} (hs:step G b call env H (.iaddr s xa ya)=some (d,H')):aV P G β Φ b H w a o d H':=by
 have hv:=bH (G:=G) h he hx;have hun:=hJ (G:=G) hu hx;simp only[step]at hs;split at hs
 ·rename_i cs n k j e1 e2
  split at hs
  ·rename_i hj
   cases hs
   have hy':=(e2 ▸ bH h he hy:VR (.int k j) β Φ (a.eval y)).fG;rw[e1]at hv;simp only[VR]at hv;obtain⟨ad,cap,hcap,e',hv⟩:=hv;exact aV.same (s:=Instr.indexAt t (a.eval x) (a.eval y)) h (by unfold execOp;rw[hop]) (by rw[e',hy'];exact FH h1 h2 hj.1 hj.2) (VR.Lo _ hv) (.inr rfl)
  ·cases hs
 ·rename_i id hw off n k j e1 e2
  split at hs
  ·rename_i hj
   cases hs
   have hy':=(e2 ▸ bH h he hy:VR (.int k j) β Φ (a.eval y)).fG;rw[e1]at hv hun;simp only[VR]at hv;have hn0:n≠0:=by omega
   have hk:∃k c cap,β id hw=some (k,c)∧a.eval x=.slice (some ⟨k,off,none⟩) n cap:=by
    rcases hv with⟨k,c,hk,⟨rfl,_,e'⟩ | ⟨_,ad,cap,_,e',hh⟩⟩ | ⟨_,_,_,hn,_⟩
    ·exact⟨k,c,c,hk,e'⟩
    ·rw[hh hn0]at e';exact⟨k,c,cap,hk,e'⟩
    ·exact absurd hn hn0
   obtain⟨k',c,cap,hk,e'⟩:=hk;refine aV.same (s:=Instr.indexAt t (a.eval x) (a.eval y)) h (by unfold execOp;rw[hop]) (by rw[e',hy'];exact FH h1 h2 hj.1 hj.2) ?_ (.inr (by rcases hun with hun | hun <;> first | cases hun | exact hun));simp only[VR];exact⟨k',c,hk,by rw[sC _ _ rfl]⟩
  ·cases hs
 ·cases hs
theorem UI(h:WR P G β Φ b H w)(he:ER β Φ env a.tmps)(hu:EU H.length env){o:Oper}{t e:TypeId}{s n:Nat}{x y:Operand}{xa ya:Arg}(hop:o.op=.indexAddr t x y)(h1:P.underlying t=some (.array n e))(h2:dP P e=some s)
  (hx:aM x=some xa) (hy:aM y=some ya) {d:D} {H':aA} (hs:step G b call env H (.iaddrA n s xa ya)=some (d,H')):aV P G β Φ b H w a o d H':=by
 have hv:=bH (G:=G) h he hx;have hun:=hJ (G:=G) hu hx;simp only[step]at hs;split at hs
 ·rename_i cs k j e1 e2
  split at hs
  ·rename_i hj
   cases hs
   have hy':=(e2 ▸ bH h he hy:VR (.int k j) β Φ (a.eval y)).fG;rw[e1]at hv;simp only[VR]at hv;obtain⟨ad,e',hv⟩:=hv;exact aV.same (s:=Instr.indexAt t (a.eval x) (a.eval y)) h (by unfold execOp;rw[hop]) (by rw[e',hy'];exact FG h1 h2 hj.1 hj.2) (VR.Lo _ hv) (.inr rfl)
  ·cases hs
 ·rename_i id off k j e1 e2
  split at hs
  ·rename_i hj
   cases hs
   have hy':=(e2 ▸ bH h he hy:VR (.int k j) β Φ (a.eval y)).fG;rw[e1]at hv hun;simp only[VR]at hv;obtain⟨k',c,hk,e'⟩:=hv;refine aV.same (s:=Instr.indexAt t (a.eval x) (a.eval y)) h (by unfold execOp;rw[hop]) (by rw[e',hy'];exact FG h1 h2 hj.1 hj.2) ?_ (.inr (by rcases hun with hun | hun <;> first | cases hun | exact hun));simp only[VR];exact⟨k',c,hk,by rw[sC _ _ rfl]⟩
  ·cases hs
 ·cases hs
theorem UK(h:WR P G β Φ b H w)(he:ER β Φ env a.tmps)(hu:EU H.length env){o:Oper}{t:TypeId}{fs:Array Field}{f n:Nat}{ag:Bool}{fd:Field}{x:Operand}{xa:Arg}(hop:o.op=.field t x f)(h1:P.underlying t=some (.struct fs))(h2:fs[f]? =some fd)(h3:lZ P fd.type=some ag)(h4:dP P fd.type=some n)
  (hx:aM x=some xa) {d:D} {H':aA} (hs:step G b call env H (.field ag fd.offset n xa)=some (d,H')):aV P G β Φ b H w a o d H':=by
 have hv:=bH (G:=G) h he hx;have hun:=hJ (G:=G) hu hx;simp only[step]at hs;split at hs
 ·rename_i cs e1
  split at hs
  ·cases hs
  ·rename_i d' _ hd
   cases hs
   rw[e1]at hv hun;simp only[VR]at hv;obtain⟨vs,e',hv⟩:=hv;obtain⟨v,q1,q2⟩:=XB (w:=w) h1 h2 h3 h4 hv hd;refine aV.same (s:=Instr.field t (a.eval x) f) h (by unfold execOp;rw[hop]) (by rw[e'];exact q1) q2 (.inr ?_);rcases hun with hun | hun
   ·cases hun
   ·exact ID (D.V0 _ (by simpa [D.under]using hun)) hd
  ·cases hs
 ·cases hs
theorem UH(h:WR P G β Φ b H w)(he:ER β Φ env a.tmps){o:Oper}{t:TypeId}{x y:Operand}{xa ya:Arg}(hop:o.op=.index t x y)(h1:P.underlying t=some .string)
  (hx:aM x=some xa) (hy:aM y=some ya) {d:D} {H':aA} (hs:step G b call env H (.indexS xa ya)=some (d,H')):aV P G β Φ b H w a o d H':=by
 simp only[step]at hs;split at hs
 ·rename_i s k j e1 e2
  split at hs
  ·rename_i hj
   split at hs
   ·rename_i c hc
    cases hs
    have hx':=(e1 ▸ bH h he hx:VR (.str s) β Φ (a.eval x)).lI;have hy':=(e2 ▸ bH h he hy:VR (.int k j) β Φ (a.eval y)).fG;exact aV.same (v:=.int .u8 c.toNat) (s:=Instr.index t (a.eval x) (a.eval y)) h (by unfold execOp;rw[hop]) (by rw[hx',hy'];exact WY h1 hj hc) (by simp[VR]) (.inr rfl)
   ·cases hs
  ·cases hs
 ·cases hs
theorem UM(h:WR P G β Φ b H w)(he:ER β Φ env a.tmps)(hu:EU H.length env){o:Oper}{x:Operand}{xa:Arg}{i:Nat}(hop:o.op=.extract x i)
  (hx:aM x=some xa) {d:D} {H':aA} (hs:step G b call env H (.extract xa i)=some (d,H')):aV P G β Φ b H w a o d H':=by
 have hv:=bH (G:=G) h he hx;have hun:=hJ (G:=G) hu hx;simp only[step]at hs;split at hs
 ·rename_i cs e1
  split at hs
  ·cases hs
  ·rename_i d' _ hd
   cases hs
   rw[e1]at hv hun;simp only[VR]at hv;obtain⟨vs,e',hv⟩:=hv;obtain⟨v,q1,q2⟩:=hv.get hd;refine aV.same (s:=Instr.extract (a.eval x) i) h (by unfold execOp;rw[hop]) (v:=v) (by rw[e'];simp[Instr.extract,q1]) q2 ?_;rcases hun with hun | hun
   ·cases hun
   ·simp only[D.under]at hun
    exact .inr (C7 hun (List.mem_of_getElem? hd))
  ·cases hs
 ·cases hs
end
end Go.AM
namespace Go.AM
section
variable {P:Program}{G:Nat->Option (List D)}{β:Bk}{Φ :Fz}{b:Nat}{H:aA}{w:World}{env:Env}{a:Act}{call:cT}
theorem rQ {o:Oper}{c:Call}{bi:Builtin}(hop:o.op=.call c)(hb:c.callee=.builtin bi):
  execOp a.eval o=builtin bi c.argTypes o.type (c.args.map fun | .const _=>true | _=>false) (c.args.map a.eval):=by
 unfold execOp;rw[hop];simp only[resolve,hb];rfl
theorem pZ {c:Call}{xs:List Operand}(h:c.args.toList=xs):c.args.map a.eval=(xs.map a.eval).toArray:=by
 rw[← h, ← Array.toList_map]
theorem uH {c:Call}{xs:List TypeId}(h:c.argTypes.toList=xs):c.argTypes=xs.toArray:=by
 rw[← h]
theorem UF(h:WR P G β Φ b H w)(he:ER β Φ env a.tmps){o:Oper}{c:Call}{t:TypeId}{x:Operand}{xa:Arg}(hop:o.op=.call c)(hb:c.callee=.builtin .len)(ht:c.argTypes.toList=[t])(hx:c.args.toList=[x])
  (hu:P.underlying t=some .string) (hc:aM x=some xa) {d:D} {H':aA} (hs:step G b call env H (.len true xa)=some (d,H')):aV P G β Φ b H w a o d H':=by
 have hv:=bH (G:=G) h he hc;have hex:execOp a.eval o=(do pure (.value (← Builtin.len_ c.argTypes o.type (c.args.map a.eval)))):=rQ hop hb;rw[uH ht,pZ hx]at hex;simp only[step]at hs;split at hs
 ·rename_i s _ e
  cases hs
  rw[e]at hv;have hx':=hv.lI;refine aV.same (v:=.int .i64 s.length) h hex ?_ (by simp[VR]) (.inr rfl);simp only[List.map_cons,List.map_nil,hx'];exact run_len_string w t o.type _ hu
 all_goals contradiction
theorem UG(h:WR P G β Φ b H w)(he:ER β Φ env a.tmps){o:Oper}{c:Call}{t e:TypeId}{x:Operand}{xa:Arg}(hop:o.op=.call c)(hb:c.callee=.builtin .len)(ht:c.argTypes.toList=[t])(hx:c.args.toList=[x])
  (hu:P.underlying t=some (.slice e)) (hc:aM x=some xa) {d:D} {H':aA} (hs:step G b call env H (.len false xa)=some (d,H')):aV P G β Φ b H w a o d H':=by
 have hv:=bH (G:=G) h he hc;have hex:execOp a.eval o=(do pure (.value (← Builtin.len_ c.argTypes o.type (c.args.map a.eval)))):=rQ hop hb;rw[uH ht,pZ hx]at hex;have key:∀ad n cap,a.eval x=.slice ad n cap->aV P G β Φ b H w a o (.int .i64 n) H:=fun ad n cap e=>by
  refine aV.same (v:=.int .i64 n) h hex ?_ (by simp[VR]) (.inr rfl);simp[Builtin.len_,run_underlying hu,e,goInt]
 simp only[step]at hs;split at hs
 ·rename_i e _;cases e
 ·rename_i e;cases hs;rw[e]at hv;simp only[VR]at hv;exact key _ 0 _ hv
 ·rename_i e;cases hs;rw[e]at hv;simp only[VR]at hv;obtain⟨_,hv⟩:=hv;exact key _ 0 _ hv
 ·rename_i e;cases hs;rw[e]at hv;simp only[VR]at hv;obtain⟨_,_,_,hv,_⟩:=hv;exact key _ _ _ hv
 ·rename_i e;cases hs;rw[e]at hv;simp only[VR]at hv
  rcases hv with⟨_,_,_,⟨_,_,hv⟩ | ⟨_,_,_,_,hv,_⟩⟩ | ⟨_,_,_,hn,hv⟩
  ·exact key _ _ _ hv
  ·exact key _ _ _ hv
  ·subst hn;exact key _ 0 _ hv
 ·cases hs
theorem VC(h:WR P G β Φ b H w)(he:ER β Φ env a.tmps)(hun:EU H.length env){o:Oper}{c:Call}{t u e e2:TypeId}{x y:Operand}{xa ya:Arg}{s by_:Nat}{zs:List D}(hop:o.op=.call c)(hb:c.callee=.builtin .append)(ht:c.argTypes.toList=[t,u])(hx:c.args.toList=[x,y])
  (hu:P.underlying t=some (.slice e)) (hu2:P.underlying u=some (.slice e2)) (hz:gV P e=some (s,by_,zs)) (hs0:0<s) (hb0:0<by_) (hcx:aM x=some xa) (hcy:aM y=some ya) {d:D} {H':aA} (hs:step G b call env H (.append s by_ xa ya)=some (d,H')):aV P G β Φ b H w a o d H':=by
 have hvx:=bH (G:=G) h he hcx;have hvy:=bH (G:=G) h he hcy;have hex:execOp a.eval o=(do pure (.value (← Builtin.append_ c.argTypes o.type (c.args.map a.eval)))):=rQ hop hb;rw[uH ht,pZ hx]at hex;obtain⟨i,z,hi,hzz,hsz,hby,hcz,hds,hzl⟩:=oT hz;simp only[step]at hs;split at hs
 ·rename_i ys m hel
  obtain⟨vs,g1,g2,g3⟩:=Mf h hvy hel;subst hsz;subst hby;obtain⟨v,w',β',q1,q2,q3,q4⟩:=NP h hu hu2 (fun k hk=>by cases hk) hi hzz hcz hs0 hb0 hvx g1 g2 hs (ty:=o.type);exact aV.made hex q1 q2 q3 q4 (.inr (NR (hJ hun hcx) hs))
 ·cases hs
theorem VB(h:WR P G β Φ b H w)(he:ER β Φ env a.tmps)(hun:EU H.length env){o:Oper}{c:Call}{t u e:TypeId}{x y:Operand}{xa ya:Arg}{by_:Nat}{zs:List D}(hop:o.op=.call c)(hb:c.callee=.builtin .append)(ht:c.argTypes.toList=[t,u])(hx:c.args.toList=[x,y])
  (hu:P.underlying t=some (.slice e)) (hu2:P.underlying u=some .string) (hz:gV P e=some (1,by_,zs)) (hb0:0<by_) (hcx:aM x=some xa) (hcy:aM y=some ya) {d:D} {H':aA} (hs:step G b call env H (.appendS by_ xa ya)=some (d,H')):aV P G β Φ b H w a o d H':=by
 have hvx:=bH (G:=G) h he hcx;have hvy:=bH (G:=G) h he hcy;have hex:execOp a.eval o=(do pure (.value (← Builtin.append_ c.argTypes o.type (c.args.map a.eval)))):=rQ hop hb;rw[uH ht,pZ hx]at hex;obtain⟨i,z,hi,hzz,hsz,hby,hcz,hds,hzl⟩:=oT hz;simp only[step]at hs;split at hs
 ·rename_i s es
  rw[es]at hvy;simp only[List.map_cons,List.map_nil,hvy.lI]at hex;subst hby;have hss:Src P w i.size (.string ⟨s.toArray⟩) s.length (s.map fun b=>.int .u8 b.toNat):=by rw[hsz];exact Src.string
  rw[← hsz]at hs hcz;obtain⟨v,w',β',q1,q2,q3,q4⟩:=NP h hu hu2 (fun k hk=>by cases hk) hi hzz hcz (by omega) hb0 hvx (BM s).1 hss hs (ty:=o.type);refine aV.made (s:=Builtin.append_ #[t,u] o.type #[a.eval x,.string ⟨s.toArray⟩]) ?_ q1 q2 q3 q4 (.inr (NR (hJ hun hcx) hs));exact hex
 ·cases hs
theorem UU(h:WR P G β Φ b H w)(he:ER β Φ env a.tmps){o:Oper}{c:Call}{t e:TypeId}{x:Operand}{xa:Arg}(hop:o.op=.call c)(hb:c.callee=.builtin .cap)(ht:c.argTypes.toList=[t])(hx:c.args.toList=[x])
  (hu:P.underlying t=some (.slice e)) (hcx:aM x=some xa) {d:D} {H':aA} (hs:step G b call env H (.capn xa)=some (d,H')):aV P G β Φ b H w a o d H':=by
 have hvx:=bH (G:=G) h he hcx;have hex:execOp a.eval o=(do pure (.value (← Builtin.cap_ c.argTypes o.type (c.args.map a.eval)))):=rQ hop hb;rw[uH ht,pZ hx]at hex;simp only[step]at hs;split at hs
 ·rename_i hn
  cases hs
  rw[hn]at hvx;simp only[VR]at hvx;refine aV.same h hex (v:=.int .i64 0) ?_ (by simp[VR]) (.inr rfl);simp[List.map,hvx,Builtin.cap_,run_underlying hu,goInt]
 ·cases hs
theorem VA(h:WR P G β Φ b H w)(he:ER β Φ env a.tmps){o:Oper}{c:Call}{t u e:TypeId}{ku:IntKind}{x y:Operand}{xa ya:Arg}{s by_:Nat}{zs:List D}(hop:o.op=.call c)(hb:c.callee=.builtin .append)(ht:c.argTypes.toList=[t,u])(hx:c.args.toList=[x,y])
  (hu:P.underlying t=some (.slice e)) (hu2:P.underlying u=some (.int ku)) (hz:gV P e=some (s,by_,zs)) (hs0:0<s) (hcx:aM x=some xa) (hcy:aM y=some ya) {d:D} {H':aA} (hs:step G b call env H (.appendZ s by_ zs xa ya)=some (d,H')):aV P G β Φ b H w a o d H':=by
 have hvx:=bH (G:=G) h he hcx;have hvy:=bH (G:=G) h he hcy;have hex:execOp a.eval o=(do pure (.value (← Builtin.append_ c.argTypes o.type (c.args.map a.eval)))):=rQ hop hb;rw[uH ht,pZ hx]at hex;obtain⟨i,z,hi,hzz,hsz,hby,hcz,hds,hzl⟩:=oT hz;obtain⟨g1,g2,g3⟩:=sL hds;subst hsz;subst hby;simp only[step]at hs;split at hs
 ·rename_i k q hy
  rw[hy]at hvy;have hyv:=hvy.fG;split at hs
  ·rename_i hh
   obtain⟨h0,h1,h2⟩:=hh;have fresh:∀base:Option Addr,a.eval x=.slice base 0 0->q.toNat≠0->some (D.osl H.length (q.toNat*i.size) 0 q.toNat,H++[Chunk.row i.size (eB zs q.toNat) false])=some (d,H')->aV P G β Φ b H w a o d H':=by
    intro base hbx hq heq
    cases heq
    have hr:=XJ (P:=P) (w:=w) (t:=t) (u:=u) (ty:=o.type) hu hu2 hi hzz hs0 (k:=k) h0 h1 h2 (base:=base) hq;have hge:q.toNat<=grownCap w q.toNat 0 e:=grownCap_ge w q.toNat 0 e;have hml:q.toNat<=maxLen:=by rw[yW]at h2;unfold maxLen;omega
    have hle:=grownCap_le_maxLen w q.toNat 0 e hml;have hz0:0<z.cells.size:=by rw[hcz];exact hs0
    have hcl:(eB zs q.toNat).length=q.toNat*i.size:=by rw[Bb,hzl]
    have hv0:aE (eB zs q.toNat) β Φ (nW z.cells.toList q.toNat):=Ba (g3 β Φ) _;have hcv:(nW z.cells.toList q.toNat).length=q.toNat*i.size:=(aE.length hv0).trans hcl;obtain⟨β',k1,k2,k3⟩:=X4 (n:=q.toNat) (c:=grownCap w q.toNat 0 e) h (Grow.Aq w (.cells (Builtin.zeroCells z.cells q.toNat++Builtin.zeroCells z.cells (grownCap w q.toNat 0 e-q.toNat)) e)) hs0 (by
      rw[Array.size_append,size_zeroCells,size_zeroCells,hcz, ← Nat.add_mul];congr 1;omega) hle hcl hge (by
      rw[Array.toList_append,PM z.cells hz0,hcl, ← hcv,List.take_left];exact hv0) (Mp (D.dI _ (Nat.zero_le _) g1) _) (Mq g2 _)
    refine aV.made (s:=Builtin.append_ #[t,u] o.type #[a.eval x,a.eval y]) ?_ (by rw[hbx,hyv];exact hr) k1 k2 k3 (.inr (by simp[D.under,Nat.blt_eq]));exact hex
   split at hs
   ·rename_i hxn
    rw[hxn]at hvx;simp only[VR]at hvx;split at hs
    ·rename_i hq
     cases hs
     refine aV.same h hex (v:=.slice none 0 0) ?_ (by simp[VR]) (.inr rfl);simp only[List.map,hvx,hyv];exact FL hu hu2 hi hzz h0 hq
    ·rename_i hq
     exact fresh none hvx hq hs
   ·rename_i hxn
    rw[hxn]at hvx;simp only[VR]at hvx;obtain⟨base,hvx⟩:=hvx;split at hs
    ·rename_i hq
     cases hs
     refine aV.same h hex (v:=.slice base 0 0) ?_ (by simp[VR]) (.inr rfl);simp only[List.map,hvx,hyv];exact FL hu hu2 hi hzz h0 hq
    ·rename_i hq
     exact fresh base hvx hq hs
   ·cases hs
  ·cases hs
 ·cases hs
theorem XG(h:WR P G β Φ b H w){n id hw off es:Nat}{ys cs:List D}{vs:List Value}{ad:Addr}(hp:VR (.rptr id hw off) β Φ (.pointer (some ad)))(hvd:aE ys β Φ vs){H':aA}(hlen:ys.length=n)(hcs:H[id]? =some (.row es cs false))
  (hs:(if cs.length=hw then(if off+n<=cs.length then(if storable b H id ys then some (H.set id (.row es (splice cs off ys) false))else none)else none)else none)=some H'):
  ∃w',(storeCells ad vs).run P w=.ok () w'∧WR P G β Φ b H' w'∧Ext β Φ H w β Φ H' w':=by
 split at hs
 all_goals try (cases hs;done)
 rename_i hhw;split at hs
 all_goals try (cases hs;done)
 rename_i hoff;split at hs
 all_goals try (cases hs;done)
 rename_i hst
 cases hs
 simp only[storable,Bool.and_eq_true]at hst;simp only[VR]at hp;obtain⟨k,c,h1,had⟩:=hp;obtain rfl:ad=⟨k,off,none⟩:=by simpa using had
 obtain⟨g0,g1,gt,hrest⟩:=h.ch id _ hcs;simp only[Bool.false_eq_true,if_false]at hrest;obtain⟨k',c',cur,e,h3,h4,h5,h6,h7,h8⟩:=hrest;rw[hhw,h1]at h3;cases h3;have hl4:vs.length=n:=by rw[aE.length hvd];exact hlen
 have hrun:=run_storeCells_at P k off e vs 0 cur w h4 (by omega) (sV hst.2 hvd);simp only[Nat.add_zero]at hrun;refine⟨_,hrun,?_⟩;have hturn:=uO w k cur (cur.toList.take off++vs++cur.toList.drop (off+vs.length)).toArray e (0,0) h4;have hsl:(splice cs off ys).length=cs.length:=V3 _ _ _ (by omega);refine h.turn hcs (by simp[Chunk.blk,hhw,h1]) hturn (fun _ _ _=>rfl) (fun _ _ h=>h) (fun h=>h) ?_ (by simp[Chunk.blk,hsl,hhw,h1]) ?_
 ·refine⟨g0,D.Z5 off g1 hst.2,fun v hv=>gt v (by omega),?_⟩
  simp only[Bool.false_eq_true,if_false];refine⟨k,c,_,e,by rw[hsl,hhw];exact h1,hturn.here,?_,h6,?_,?_⟩
  ·simp;omega
  ·rw[hsl];simp;omega
  ·rw[hsl]
   have:=aE.splice off h8 hvd;simp only[List.toList_toArray];have e1:cs.length=off+(vs.length+(cs.length-(off+vs.length))):=by omega
   have e2:List.take cs.length (List.take off cur.toList++vs++List.drop (off+vs.length) cur.toList)=
     List.take off (List.take cs.length cur.toList)++vs++List.drop (off+vs.length) (List.take cs.length cur.toList):=by
    have hcl:cur.toList.length=cur.size:=by simp
    rw[List.take_append,List.take_append,List.take_take,List.take_take,List.drop_take];congr 1
    ·congr 1
     ·congr 1;omega
     ·rw[List.take_of_length_le];simp;omega
    ·congr 1;simp;omega
   rw[e2];exact this
 ·have hids:=h.ids id _ hcs
  refine D.C6 off hids ?_;split
  ·rename_i hlt;rw[if_pos hlt]at hst;exact D.dI _ (by omega) hst.1
  ·rename_i hge;rw[if_neg hge]at hst;exact hst.1
theorem run_copy_cells(h:WR P G β Φ b H w){n id hw off:Nat}{ys:List D}{vs:List Value}{ad:Addr}(hp:VR (.rptr id hw off) β Φ (.pointer (some ad)))(hvd:aE ys β Φ vs){H':aA}(hs:jI b H n (.rptr id hw off) (.agg ys)=some H'):
  ∃w',(storeCells ad vs).run P w=.ok () w'∧WR P G β Φ b H' w'∧Ext β Φ H w β Φ H' w':=by
 have hs0:(if ys.length=n then(match H[id]? with
   | some (.row es cs false)=>if cs.length=hw then(if off+n<=cs.length then(if storable b H id ys then some (H.set id (.row es (splice cs off ys) false))else none)else none)else none
   | _=>none)else none)=some H':=hs
 clear hs;by_cases hlen:ys.length=n
 ·rw[if_pos hlen]at hs0
  cases hcs:H[id]? with
  | none=>rw[hcs]at hs0;cases hs0
  | some ck=>
  rw[hcs]at hs0
  cases ck with
  | row es cs nil=>
   cases nil with
   | true=>cases hs0
   | false=>exact XG h hp hvd hlen hcs hs0
  | _=>cases hs0
 ·rw[if_neg hlen]at hs0;cases hs0
theorem bJ.takes {Φ :Fz}{cur:Array Value}:∀(l:List D) (k o:Nat),bJ l Φ cur o->bJ (l.take k) Φ cur o
 | [],k,o,_=>by simp[bJ]
 | d::l,0,o,_=>by simp[bJ]
 | d::l,k+1,o,h=>by
  simp only[bJ,List.take_succ_cons]at h ⊢;exact⟨h.1,bJ.takes l k _ h.2⟩
theorem RG {es k m:Nat}{y:D}{vy:Value}(hv:VR y β Φ vy)(hl:u7 y=some m)(hk:k<=m)(h0:k≠0):∃base cap,vy=.slice base m cap∧VR (D0 es k y) β Φ (.slice base k cap):=by
 unfold u7 at hl;split at hl
 ·cases hl;omega
 ·cases hl;omega
 ·rename_i cs n
  cases hl
  simp only[VR]at hv;obtain⟨ad,cap,hcap,rfl,hc⟩:=hv;refine⟨some ad,cap,rfl,?_⟩;simp only[D0,VR];refine⟨ad,cap,by omega,rfl,?_⟩;rcases hc with rfl | ⟨cur,e,fr,h1,h2,h3⟩
  ·left;simp
  ·exact .inr ⟨cur,e,fr,h1,h2,bJ.takes _ _ _ h3⟩
 ·rename_i id hw off n
  cases hl
  simp only[VR]at hv;rcases hv with⟨k',c,hk',⟨ho,hnc,rfl⟩ | ⟨ho,a',cap,hnc,rfl,ha⟩⟩ | ⟨_,_,_,hn0,rfl⟩
  ·refine⟨_,_,rfl,?_⟩
   simp only[D0,VR];exact .inl ⟨k',c,hk',.inl ⟨ho,by omega,rfl⟩⟩
  ·refine⟨_,_,rfl,?_⟩
   simp only[D0,VR];exact .inl ⟨k',c,hk',.inr ⟨ho,a',cap,by omega,rfl,fun _=>ha (by omega)⟩⟩
  ·omega
 ·cases hl
theorem UO(h:WR P G β Φ b H w)(he:ER β Φ env a.tmps){o:Oper}{c:Call}{t u e:TypeId}{x y:Operand}{xa ya:Arg}{s:Nat}(hop:o.op=.call c)(hb:c.callee=.builtin .copy)(ht:c.argTypes.toList=[t,u])(hx:c.args.toList=[x,y])
  (hu:P.underlying t=some (.slice e)) (hz:dP P e=some s) (hcx:aM x=some xa) (hcy:aM y=some ya) {d:D} {H':aA} (hs:step G b call env H (.copy s xa ya)=some (d,H')):aV P G β Φ b H w a o d H':=by
 have hvx:=bH (G:=G) h he hcx;have hvy:=bH (G:=G) h he hcy;have hex:execOp a.eval o=(do pure (.value (← Builtin.copy_ c.argTypes o.type (c.args.map a.eval)))):=rQ hop hb;rw[uH ht,pZ hx]at hex;simp only[step,Az]at hs;generalize aI G env xa=dx at *;generalize aI G env ya=dy at *;split at hs
 ·rename_i id hw off n
  split at hs
  ·rename_i m hl
   have hlen:∃base cap,a.eval y=.slice base m cap:=by
    unfold u7 at hl;split at hl <;> cases hl <;> simp only[VR]at hvy
    ·exact⟨_,_,hvy⟩
    ·obtain⟨q,hq⟩:=hvy;exact⟨_,_,hq⟩
    ·obtain⟨ad,cap,_,hq,_⟩:=hvy;exact⟨_,_,hq⟩
    ·rcases hvy with⟨_,_,_,⟨_,_,hq⟩ | ⟨_,_,_,_,hq,_⟩⟩ | ⟨_,_,_,hn0,hq⟩
     ·exact⟨_,_,hq⟩
     ·exact⟨_,_,hq⟩
     ·subst hn0;exact⟨_,_,hq⟩
   obtain⟨by_,cy,hyv⟩:=hlen;have hxv:∃base cap,a.eval x=.slice base n cap∧(n≠0->∃ad,base=some ad∧VR (.rptr id hw off) β Φ (.pointer (some ad))):=by
    simp only[VR]at hvx;rcases hvx with⟨k',c',hk',⟨ho,hnc,hq⟩ | ⟨ho,a',cap,hnc,hq,ha⟩⟩ | ⟨_,_,_,hn0,hq⟩
    ·exact⟨_,_,hq,fun _=>⟨_,rfl,by simp only[VR];exact⟨k',c',hk',by rw[ho]⟩⟩⟩
    ·exact⟨_,_,hq,fun hn=>⟨_,rfl,by simp only[VR];exact⟨k',c',hk',by rw[ha hn]⟩⟩⟩
    ·subst hn0;exact⟨_,_,hq,fun hn=>absurd rfl hn⟩
   obtain⟨bx,cx,hxv,hxp⟩:=hxv;have hsz:(sizeOf e).run P w=.ok s w:=kH hz;have hmin:Nat.min m n=min n m:=Nat.min_comm m n;split at hs
   ·rename_i hk0
    cases hs
    refine aV.same h hex (v:=.int .i64 0) ?_ (by simp[VR]) (.inr rfl)
    cases by_ <;> cases bx <;> simp[hxv,hyv,Builtin.copy_,run_underlying hu,Builtin.lenOf,hsz,hmin,hk0,Builtin.firstCells,goInt,storeCells,loadCells,loadCellsFrom]
   ·rename_i hk0
    split at hs
    ·rename_i ys m' hel
     split at hs
     ·rename_i H1 hst
      cases hs
      obtain⟨base,cap,hyq,hvt⟩:=RG (es:=s) hvy hl (k:=min n m) (Nat.min_le_right _ _) hk0;rw[hyv]at hyq
      cases hyq
      obtain⟨vs,g1,g2,g3⟩:=Mf h hvt hel;obtain⟨ad,rfl,hpt⟩:=hxp (by omega);obtain⟨w',q1,q2,q3⟩:=run_copy_cells h hpt g1 hst;have hm':m'=min n m:=by
       have:=g2.len w;simpa [Builtin.lenOf]using this.symm
      subst hm';have hf:(Builtin.firstCells s (min n m) (.slice by_ m cy)).run P w=.ok vs.toArray w:=by
       have:=g2.first w rfl
       cases by_ <;> exact this
      refine aV.made hex (w':=w') (v:=.int .i64 (min n m:Nat)) ?_ (by simp[VR]) q2 q3 (.inr rfl);simp[hxv,hyv,Builtin.copy_,run_underlying hu,Builtin.lenOf,hsz,hmin,hf,q1,goInt]
     ·cases hs
    ·cases hs
  ·cases hs
 ·cases hs
theorem UD(h:WR P G β Φ b H w)(he:ER β Φ env a.tmps)(hun:EU H.length env){o:Oper}{c:Call}{x:Operand}{xs:List Operand}{xa:Arg}{xas:List Arg}(hop:o.op=.call c)(hb:c.callee=.builtin .max)(hx:c.args.toList=x::xs)
  (hcx:aM x=some xa) (hcy:iT xs=some xas) {d:D} {H':aA} (hs:step G b call env H (.maxs xa xas)=some (d,H')):aV P G β Φ b H w a o d H':=by
 have hvx:=bH (G:=G) h he hcx;have hvy:=M8 (G:=G) h he hcy;have hex:execOp a.eval o=(do pure (.value (← Builtin.max_ c.argTypes o.type (c.args.map a.eval)))):=rQ hop hb;rw[pZ hx]at hex;simp only[step]at hs;split at hs
 ·rename_i d' hd
  cases hs
  obtain⟨v,q1,q2⟩:=zFm (P:=P) (w:=w) hd hvx hvy;exact aV.same h hex (by simpa [Builtin.max_]using q1) q2 (HV (hJ hun hcx) hd)
 ·cases hs
theorem UB(h:WR P G β Φ b H w)(he:ER β Φ env a.tmps)(hun:EU H.length env){o:Oper}{c:Call}{x:Operand}{xs:List Operand}{xa:Arg}{xas:List Arg}(hop:o.op=.call c)(hb:c.callee=.builtin .min)(hx:c.args.toList=x::xs)
  (hcx:aM x=some xa) (hcy:iT xs=some xas) {d:D} {H':aA} (hs:step G b call env H (.mins xa xas)=some (d,H')):aV P G β Φ b H w a o d H':=by
 have hvx:=bH (G:=G) h he hcx;have hvy:=M8 (G:=G) h he hcy;have hex:execOp a.eval o=(do pure (.value (← Builtin.min_ c.argTypes o.type (c.args.map a.eval)))):=rQ hop hb;rw[pZ hx]at hex;simp only[step]at hs;split at hs
 ·rename_i d' hd
  cases hs
  obtain⟨v,q1,q2⟩:=zFi (P:=P) (w:=w) hd hvx hvy;exact aV.same h hex (by simpa [Builtin.min_]using q1) q2 (HT (hJ hun hcx) hd)
 ·cases hs
end
end Go.AM
namespace Go.AM
def kv(e:MapEntry):Value×Value:=(e.key,e.val)
def K2(p:Int×Bool):Value×Value:=(Value.int .i64 p.1,Value.bool p.2)
theorem Lu(n:Int):∀(l:List MapEntry) (es:List (Int×Bool)) (i:Nat),l.map kv=es.map K2->
  (∃j e v,Instr.findNow (.int .i64) (.int .i64 n) l i=some (some (i+j,.bool v))∧pL n es=v∧l[j]? =some e∧e.key=.int .i64 n∧∀x,(l.modify j (fun e=> { e with key:=.int .i64 n,val:=.bool x })).map kv=(lR n x es).map K2)∨
  (Instr.findNow (.int .i64) (.int .i64 n) l i=some none∧pL n es=false∧∀x,lR n x es=es++[(n,x)])
 | [],[],i,_=>.inr ⟨rfl,rfl,fun _=>rfl⟩
 | [],_::_,_,h=>by cases h
 | _::_,[],_,h=>by cases h
 | e::l,(k,v)::es,i,h=>by
  simp only[List.map_cons,List.cons.injEq,kv,K2,Prod.mk.injEq]at h;obtain⟨⟨hk,hv⟩,ht⟩:=h;by_cases hn:n=k
  ·subst hn
   refine .inl ⟨0,e,v,?_,by simp[pL],rfl,hk,fun x=>?_⟩
   ·simp[Instr.findNow,hk,hv,Instr.sameNow]
   ·simp only[lR,if_true,List.map_cons,List.modify_zero_cons]
    rw[ht];rfl
  ·rcases Lu n l es (i+1) ht with⟨j,e',v',h1,h2,h3,h4,h5⟩ | ⟨h1,h2,h3⟩
   ·refine .inl ⟨j+1,e',v',?_,by simp[pL,hn,h2],by simpa using h3,h4,fun x=>?_⟩
    ·simp only[Instr.findNow,hk,Instr.sameNow,if_true]
     rw[show(n == k)=false by simpa using hn];simp only[h1];rw[show i+1+j=i+(j+1) by omega]
    ·simp only[lR,if_neg hn,List.map_cons,List.modify_succ_cons,h5 x,kv,K2,hk,hv]
   ·refine .inr ⟨?_,by simp[pL,hn,h2],fun x=>by simp[lR,hn,h3 x]⟩
    simp only[Instr.findNow,hk,Instr.sameNow,if_true];rw[show(n == k)=false by simpa using hn];exact h1
section
variable {P:Program}{G:Nat->Option (List D)}{β:Bk}{Φ :Fz}{b:Nat}{H:aA}{w:World}{env:Env}{a:Act}{call:cT}
theorem W2 {k:Nat}{es:Array MapEntry}{cl:Nat}(h:w.heap[k]? =some (.map es cl)):(getObj k).run P w=.ok (.map es cl) w:=by
 simp[getObj,Sem.run,h]
theorem FD {k:Nat}{es:Array MapEntry}{cl:Nat}(h:w.heap[k]? =some (.map es cl))(o:Obj):(setObj k o).run P w=.ok () { w with heap:=w.heap.setIfInBounds k o } :=by
 simp[setObj,Sem.run,h]
theorem WW(o:Obj):(newObj o).run P w=.ok w.heap.size (w.alloc o):=by
 simp[newObj,Sem.run]
theorem VY {k:Nat}(o:Obj)(hk:k<w.heap.size):Turn w { w with heap:=w.heap.setIfInBounds k o } k o:=
 ⟨rfl,rfl,rfl,by simp,by simp[hk],fun i hi=>by simp[Array.getElem?_setIfInBounds,Ne.symm hi]⟩
theorem HW {t:TypeId}(h:vO P t=true):∃k e i,P.underlying t=some (.map k e)∧P.underlying k=some (.int .i64)∧P.info? e=some i∧i.zero=some (.bool false):=by
 unfold vO at h;split at h
 ·rename_i k e ht
  rw[Bool.and_eq_true]at h;obtain⟨h1,h2⟩:=h;split at h1
  ·rename_i hk
   split at h2
   ·rename_i i hi
    split at h2
    ·rename_i hz;exact⟨k,e,i,ht,hk,hi,hz⟩
    ·cases h2
   ·cases h2
  ·cases h1
 ·cases h
theorem TZ(h:WR P G β Φ b H w){o:Oper}{t:TypeId}(hop:o.op=.makeMap t none){d:D}{H':aA}
  (hs:step G b call env H .mkmap=some (d,H')):aV P G β Φ b H w a o d H':=by
 simp only[step,Option.some.injEq,Prod.mk.injEq]at hs;obtain⟨rfl,rfl⟩:=hs;have hg:=Grow.alloc w (.map #[] 0);obtain⟨g1,g2⟩:=h.G2 (v:=0) (cap:=0) hg (c:=.map []) ⟨w.heap.size,0, #[],0,Bk.fZ _ _ _ _,by simpa using hg.new,rfl⟩ (by simp[Chunk.blk,Bk.fZ]) trivial;refine aV.made (v:=.map (some w.heap.size)) (s:=Instr.makeMap t none) (by unfold execOp;rw[hop];rfl) ?_ ?_ g1 g2 (.inr (by simp[D.under,Nat.blt_eq]))
 ·simp[Instr.makeMap,WW]
 ·simp only[VR];exact⟨_,_,Bk.fZ _ _ _ _,rfl⟩
theorem run_checkKey {k:TypeId}(hk:P.underlying k=some (.int .i64))(q:Bool)(n:Int):(Instr.checkKey q 10000 k (.int .i64 n)).run P w=.ok () w:=by
 obtain⟨d,hd⟩:∃d,10000=d+1:=⟨9999,rfl⟩;rw[hd];simp[Instr.checkKey,run_underlying hk]
theorem run_findKey {k:TypeId}(hk:P.underlying k=some (.int .i64))(n:Int){l:List MapEntry}{r:Option (Nat×Value)}(h:Instr.findNow (.int .i64) (.int .i64 n) l 0=some r):(Instr.findKey k (.int .i64 n) l).run P w=.ok r w:=by
 simp[Instr.findKey,run_underlying hk,h]
theorem UC(h:WR P G β Φ b H w)(he:ER β Φ env a.tmps){o:Oper}{t:TypeId}{m k:Operand}{ma ka:Arg}(hop:o.op=.lookup t m k false)(ht:vO P t=true)(h1:aM m=some ma)(h2:aM k=some ka){d:D}{H':aA}
  (hs:step G b call env H (.mget ma ka)=some (d,H')):aV P G β Φ b H w a o d H':=by
 simp only[step]at hs;split at hs
 ·rename_i id n hm hk
  split at hs
  ·rename_i es hes
   cases hs
   have vm:=hm ▸ bH h he h1;have vk:=(hk ▸ bH h he h2:VR (.int .i64 n) β Φ (a.eval k)).fG;simp only[VR]at vm;obtain⟨k',c,h3,vm⟩:=vm;obtain⟨k'',c',es',cl,h4,h5,h6⟩:=h.ch id _ hes;rw[h3]at h4;cases h4;obtain⟨kt,et,i,g1,g2,g3,g4⟩:=HW ht;refine aV.same (v:=.bool (pL n es)) (s:=Instr.lookup t (.map (some k')) (.int .i64 n) false) h (by unfold execOp;rw[hop];simp only[vm,vk]) ?_ (by simp[VR]) (.inr rfl);have hz:(zeroValue et).run P w=.ok (.bool false) w:=by simp[zeroValue,typeInfo,g3,g4]
   rcases Lu n es'.toList es 0 h6 with⟨j,e,v,q1,q2,_⟩ | ⟨q1,q2,_⟩
   ·rw[q2]
    simp[Instr.lookup,run_underlying g1,W2 h5,run_checkKey g2,run_findKey g2 n q1]
   ·rw[q2]
    simp[Instr.lookup,run_underlying g1,W2 h5,run_checkKey g2,run_findKey g2 n q1,hz]
  ·cases hs
 ·cases hs
theorem TY(h:WR P G β Φ b H w)(he:ER β Φ env a.tmps){o:Oper}{t:TypeId}{m k x:Operand}{ma ka xa:Arg}(hop:o.op=.mapUpdate t m k x)(ht:vO P t=true)(h1:aM m=some ma)(h2:aM k=some ka)(h3:aM x=some xa){d:D}{H':aA}
  (hs:step G b call env H (.mset ma ka xa)=some (d,H')):aV P G β Φ b H w a o d H':=by
 simp only[step]at hs;split at hs
 ·rename_i id n y hm hk hx
  split at hs
  ·rename_i es hes
   cases hs
   have vm:=hm ▸ bH h he h1;have vk:=(hk ▸ bH h he h2:VR (.int .i64 n) β Φ (a.eval k)).fG;have vx:=(hx ▸ bH h he h3:VR (.bool y) β Φ (a.eval x)).sA;simp only[VR]at vm;obtain⟨k',c,q3,vm⟩:=vm;obtain⟨k'',c',es',cl,q4,q5,q6⟩:=h.ch id _ hes;rw[q3]at q4;cases q4;obtain⟨kt,et,i,g1,g2,g3,g4⟩:=HW ht;have hlt:k'<w.heap.size:=(Array.getElem?_eq_some_iff.1 q5).1;have key:∀(es2:Array MapEntry) (cl2:Nat),es2.toList.map kv=(lR n y es).map K2->(Instr.mapUpdate t (.map (some k')) (.int .i64 n) (.bool y)).run P w=.ok () { w with heap:=w.heap.setIfInBounds k' (.map es2 cl2) } ->
     aV P G β Φ b H w a o (.tup []) (H.set id (.map (lR n y es))):=fun es2 cl2 e1 e2=>by
    have htn:=VY (.map es2 cl2) hlt;obtain⟨w1,w2⟩:=h.turn hes (c':=.map (lR n y es)) (by simp[Chunk.blk,q3]) htn (fun _ _ _=>rfl) (fun _ _ h=>h) (fun h=>h) ⟨k',c,es2,cl2,q3,by simpa using htn.here,e1⟩ (by simp[Chunk.blk,q3]) trivial;refine⟨⟨.skip,undef,_,β, Φ,?_,.inr ⟨rfl,rfl⟩,xG _ _,w1,w2⟩,.inr rfl⟩;unfold execOp;rw[hop];simp[vm,vk,vx,e2]
   rcases Lu n es'.toList es 0 q6 with⟨j,e,v,p1,p2,p3,p4,p5⟩ | ⟨p1,p2,p3⟩
   ·have p3':es'[j]? =some e:=by simpa using p3
    refine key (es'.modify j fun e=> { e with key:=.int .i64 n,val:=.bool y }) cl (by rw[Array.toList_modify];exact p5 y) ?_;rw[Nat.zero_add]at p1;have hst:(Instr.keyThatStays (.int .i64 n) (.int .i64 n)).run P w=.ok (.int .i64 n) w:=by
     simp[Instr.keyThatStays,Instr.sameBits]
    simp[Instr.mapUpdate,run_underlying g1,W2 q5,run_checkKey g2,run_findKey g2 n p1,p3',p4,hst,FD q5]
   ·refine key (es'.push { key:=.int .i64 n,val:=.bool y,born:=cl }) (cl+1) (by rw[p3 y,Array.toList_push,List.map_append,List.map_append];congr 1) ?_
    simp[Instr.mapUpdate,run_underlying g1,W2 q5,run_checkKey g2,run_findKey g2 n p1,FD q5]
  ·cases hs
 ·cases hs
end
end Go.AM
namespace Go.AM
section
variable {P:Program}{G:Nat->Option (List D)}{β:Bk}{Φ :Fz}{b:Nat}{H:aA}{w:World}{env:Env}{a:Act}{call:cT}
theorem zJI(h:WR P G β Φ b H w)(he:ER β Φ env a.tmps)(hu:EU H.length env){o:Oper}{src dst:TypeId}{x:Operand}{xa:Arg}{ao:AOp}(hop:o.op=.convert src dst x)(hx:aM x=some xa)(hc:N7 P src dst xa=some ao)
  {d:D} {H':aA} (hs:step G b call env H ao=some (d,H')):aV P G β Φ b H w a o d H':=by
 unfold N7 at hc;split at hc
 ·rename_i h1 h2;cases hc;exact US h he hop h1 h2 hx hs
 ·rename_i h1 h2;cases hc;exact UR h he hop h1 h2 hx hs
 ·rename_i h1 h2;cases hc;exact UQ h he hu hop h1 h2 hx hs
 ·rename_i h1 h2
  split at hc
  ·rename_i h3;cases hc;exact UP h he hop h1 h2 h3 hx hs
  ·cases hc
 ·rename_i h1 h2
  split at hc
  ·rename_i h3;cases hc;exact UT h he hop h1 h2 h3 hx hs
  ·cases hc
 ·cases hc
theorem BZ(h:WR P G β Φ b H w)(he:ER β Φ env a.tmps){o:Oper}{op:BinOp}{neg:Bool}{t ty:TypeId}{x y:Operand}{xa ya:Arg}(hop:o.op=.binOp op t x y ty)(hn:op=.eql∧neg=false∨op=.neq∧neg=true)(ht:P.underlying t=some .bool)(hx:aM x=some xa)(hy:aM y=some ya)
  {d:D} {H':aA} (hs:step G b call env H (.eqB neg xa ya)=some (d,H')):aV P G β Φ b H w a o d H':=by
 simp only[step]at hs;split at hs
 ·rename_i p q e1 e2
  cases hs
  have hx':=(e1 ▸ bH h he hx:VR (.bool p) β Φ (a.eval x)).sA;have hy':=(e2 ▸ bH h he hy:VR (.bool q) β Φ (a.eval y)).sA;refine V2 h hop hn ?_ (by rw[hx',hy'];exact XF ht p q) ?_ ?_ ?_ ?_
  ·rw[hx',hy'];rcases hn with⟨rfl,_⟩ | ⟨rfl,_⟩ <;> simp[eqGuard]
  all_goals simp[hx']
 ·cases hs
theorem BX(h:WR P G β Φ b H w)(he:ER β Φ env a.tmps){o:Oper}{op:BinOp}{neg:Bool}{t ty e:TypeId}{x y:Operand}{xa ya:Arg}(hop:o.op=.binOp op t x y ty)(hn:op=.eql∧neg=false∨op=.neq∧neg=true)(ht:P.underlying t=some (.pointer e))(hx:aM x=some xa)(hy:aM y=some ya)
  {d:D} {H':aA} (hs:step G b call env H (.eqP neg xa ya)=some (d,H')):aV P G β Φ b H w a o d H':=by
 simp only[step]at hs;split at hs
 ·rename_i q hq
  cases hs
  obtain⟨c1,hc1⟩:=zIW hq;obtain⟨c2,hc2⟩:=zIV hq;obtain⟨a1,hx'⟩:=GM hc1 (bH h he hx);obtain⟨a2,hy'⟩:=GM hc2 (bH h he hy);refine V2 h hop hn ?_ (XE ht hq (bH h he hx) (bH h he hy)) ?_ ?_ ?_ ?_
  ·rw[hx',hy'];rcases hn with⟨rfl,_⟩ | ⟨rfl,_⟩ <;> simp[eqGuard]
  all_goals simp[hx']
 ·cases hs
theorem BW(h:WR P G β Φ b H w)(he:ER β Φ env a.tmps){o:Oper}{op:BinOp}{neg:Bool}{t ty e:TypeId}{x y:Operand}{xa ya:Arg}(hop:o.op=.binOp op t x y ty)(hn:op=.eql∧neg=false∨op=.neq∧neg=true)(ht:P.underlying t=some (.slice e))(hx:aM x=some xa)(hy:aM y=some ya)
  {d:D} {H':aA} (hs:step G b call env H (.eqS neg xa ya)=some (d,H')):aV P G β Φ b H w a o d H':=by
 simp only[step]at hs;split at hs
 ·rename_i q hq
  cases hs
  obtain⟨c1,hc1⟩:=zIU hq;obtain⟨c2,hc2⟩:=zIT hq;obtain⟨a1,n1,k1,hx',_⟩:=xR hc1 (bH h he hx);obtain⟨a2,n2,k2,hy',_⟩:=xR hc2 (bH h he hy);refine V2 h hop hn ?_ (XD ht hq (bH h he hx) (bH h he hy)) ?_ ?_ ?_ ?_
  ·rw[hx',hy'];rcases hn with⟨rfl,_⟩ | ⟨rfl,_⟩ <;> simp[eqGuard]
  all_goals simp[hx']
 ·cases hs
theorem CA(h:WR P G β Φ b H w)(he:ER β Φ env a.tmps){o:Oper}{op:BinOp}{neg:Bool}{t ty:TypeId}{ks:List PK}{x y:Operand}{xa ya:Arg}(hop:o.op=.binOp op t x y ty)(hn:op=.eql∧neg=false∨op=.neq∧neg=true)(ht:Ab P t=some ks)(hx:aM x=some xa)(hy:aM y=some ya)
  {d:D} {H':aA} (hs:step G b call env H (.eqA neg ks xa ya)=some (d,H')):aV P G β Φ b H w a o d H':=by
 simp only[step]at hs;split at hs
 ·rename_i xs ys e1 e2
  split at hs
  ·rename_i q hq
   cases hs
   have hx':=bH (G:=G) h he hx;have hy':=bH (G:=G) h he hy;rw[e1]at hx';rw[e2]at hy';simp only[VR]at hx' hy';obtain⟨vx,ex,hvx⟩:=hx';obtain⟨vy,ey,hvy⟩:=hy';obtain⟨q1,q2⟩:=XC (w:=w) ht hvx hvy hq;refine V2 h hop hn (by rw[ex,ey];exact q2 _ _ _) (by rw[ex,ey];exact q1) ?_ ?_ ?_ ?_
   all_goals simp[ex]
  ·cases hs
 ·cases hs
theorem zJJ(h:WR P G β Φ b H w)(he:ER β Φ env a.tmps)(hu:EU H.length env){o:Oper}{op:BinOp}{t ty:TypeId}{x y:Operand}{xa ya:Arg}{ao:AOp}(hop:o.op=.binOp op t x y ty)(hx:aM x=some xa)(hy:aM y=some ya)(hc:N8 P op t xa ya=some ao)
  {d:D} {H':aA} (hs:step G b call env H ao=some (d,H')):aV P G β Φ b H w a o d H':=by
 unfold N8 at hc;split at hc
 ·cases hc;exact CC h he hop hx hy hs
 ·cases hc;exact CC h he hop hx hy hs
 ·rename_i ht
  split at hc
  ·cases hc;exact BZ h he hop (.inl ⟨rfl,rfl⟩) ht hx hy hs
  ·cases hc;exact BZ h he hop (.inr ⟨rfl,rfl⟩) ht hx hy hs
  ·cases hc
 ·rename_i ht
  split at hc
  ·cases hc;exact BX h he hop (.inl ⟨rfl,rfl⟩) ht hx hy hs
  ·cases hc;exact BX h he hop (.inr ⟨rfl,rfl⟩) ht hx hy hs
  ·cases hc
 ·rename_i ht
  split at hc
  ·cases hc;exact BW h he hop (.inl ⟨rfl,rfl⟩) ht hx hy hs
  ·cases hc;exact BW h he hop (.inr ⟨rfl,rfl⟩) ht hx hy hs
  ·cases hc
 ·split at hc
  ·rename_i ks ht
   split at hc
   ·cases hc;exact CA h he hop (.inl ⟨rfl,rfl⟩) ht hx hy hs
   ·cases hc;exact CA h he hop (.inr ⟨rfl,rfl⟩) ht hx hy hs
   ·cases hc
  ·cases hc
 ·cases hc
theorem zJL(h:WR P G β Φ b H w)(he:ER β Φ env a.tmps)(hu:EU H.length env){o:Oper}{c:Call}{bi:Builtin}{ao:AOp}(hop:o.op=.call c)(hb:c.callee=.builtin bi)(hc:N9 P bi c.argTypes.toList c.args.toList=some ao)
  {d:D} {H':aA} (hs:step G b call env H ao=some (d,H')):aV P G β Φ b H w a o d H':=by
 unfold N9 at hc;split at hc
 ·rename_i t x ht hx
  split at hc
  ·rename_i h1 h2;cases hc;exact UF h he hop hb ht hx h1 h2 hs
  ·rename_i h1 h2;cases hc;exact UG h he hop hb ht hx h1 h2 hs
  ·cases hc
 ·rename_i t u x y ht hx
  split at hc
  ·rename_i e e2 xa ya h1 h2 h3 h4
   split at hc
   ·rename_i hz
    split at hc
    ·rename_i hh;cases hc;exact VC h he hu hop hb ht hx h1 h2 hz hh.1 hh.2 h3 h4 hs
    ·cases hc
   ·cases hc
  ·rename_i e xa ya h1 h2 h3 h4
   split at hc
   ·rename_i hz
    split at hc
    ·rename_i hh;cases hc
     obtain⟨rfl,hh⟩:=hh;exact VB h he hu hop hb ht hx h1 h2 hz hh h3 h4 hs
    ·cases hc
   ·cases hc
  ·rename_i e ku xa ya h1 h2 h3 h4
   split at hc
   ·rename_i hz
    split at hc
    ·rename_i hh;cases hc
     exact VA h he hop hb ht hx h1 h2 hz hh.1 h3 h4 hs
    ·cases hc
   ·cases hc
  ·cases hc
 ·rename_i t x ht hx
  split at hc
  ·rename_i e xa h1 h2;cases hc;exact UU h he hop hb ht hx h1 h2 hs
  ·cases hc
 ·rename_i t u x y ht hx
  split at hc
  ·rename_i e xa ya h1 h2 h3
   split at hc
   ·rename_i s hz
    split at hc
    ·cases hc;exact UO h he hop hb ht hx h1 hz h2 h3 hs
    ·cases hc
   ·cases hc
  ·cases hc
 ·rename_i x xs hx
  split at hc
  ·rename_i h1 h2;cases hc;exact UD h he hu hop hb hx h1 h2 hs
  ·cases hc
 ·rename_i x xs hx
  split at hc
  ·rename_i h1 h2;cases hc;exact UB h he hu hop hb hx h1 h2 hs
  ·cases hc
 ·cases hc
theorem zIm {t:TypeId}{fs:Array Field}{places:List (Nat×Nat)}(ht:P.underlying t=some (.struct fs))(hp:Lv P fs=some places)(i:TypeInfo)(z:Value)(parts:List (Nat×Value))(hi:P.info? t=some i)(hz:i.zero=some z):
  P.built t parts=Instr.fill (places.toArray[·]?) z.cells parts:=by
 unfold Lv at hp;simp only[Program.built,hi,ht,hz,hp]
theorem zMZ {t e:TypeId}{n s:Nat}(ht:P.underlying t=some (.array n e))(hs:dP P e=some s)(i:TypeInfo)(z:Value)(parts:List (Nat×Value))(hi:P.info? t=some i)(hz:i.zero=some z):
  P.built t parts=Instr.fill (fun i=>some (i*s,s)) z.cells parts:=by
 unfold dP at hs;split at hs
 ·rename_i ie hie;cases hs;simp only[Program.built,hi,ht,hz,hie]
 ·cases hs
theorem zJK(h:WR P G β Φ b H w)(he:ER β Φ env a.tmps)(hu:EU H.length env){o:Oper}{pol:Option Pol}{x:Operand}{ao:AOp}(hop:o.op=.assign x)(hc:eC P pol (.assign x)=some ao)
  {d:D} {H':aA} (hs:step G b call env H ao=some (d,H')):aV P G β Φ b H w a o d H':=by
 simp only[eC]at hc;split at hc
 ·split at hc
  ·rename_i hes;cases hc
   exact TU h (by unfold execOp;rw[hop];rfl) hes hs
  ·cases hc
 ·split at hc
  ·rename_i hx;cases hc
   exact BV h he hu (by unfold execOp;rw[hop]) hx hs
  ·cases hc
theorem BU(h:WR P G β Φ b H w)(he:ER β Φ env a.tmps)(hu:EU H.length env){o:Oper}{pol:Option Pol}{ao:AOp}(hc:eC P pol o.op=some ao)(hp:ao.plain=true)
  {d:D} {H':aA} (hs:step G b call env H ao=some (d,H')):aV P G β Φ b H w a o d H':=by
 cases hop:o.op <;> rw[hop]at hc
 case assign x=>exact zJK h he hu hop hc hs
 case makeFunc fn first caps=>
  cases fn with
  | func f=>
   simp only[eC]at hc;split at hc
   ·rename_i hk hl;cases hc;exact UA h he hu hop hk hl hs
   ·cases hc
  | _=>simp only[eC]at hc;cases hc
 all_goals simp only[eC]at hc
 all_goals try (cases hc;done)
 case move x=>
  split at hc
  ·rename_i hx;cases hc;exact BV h he hu (by unfold execOp;rw[hop]) hx hs
  ·cases hc
 case pick x y z=>
  split at hc
  ·rename_i h1 h2 h3;cases hc;exact TV h he hu hop h1 h2 h3 hs
  ·cases hc
 case alloc e=>
  split at hc
  ·rename_i hz
   split at hc
   ·cases hc;cases hp
   ·cases hc;exact VD h hop hz hs
  ·cases hc
 case box e x=>
  split at hc
  ·rename_i h1 h2
   split at hc
   ·cases hc;exact UY h he hop h2 hs
   ·cases hc;exact UZ h he hop h2 hu hs
  ·cases hc
 case build t ps=>
  split at hc
  ·rename_i hz ht
   split at hc
   ·rename_i hpl
    split at hc
    ·rename_i hl;cases hc;exact CB h he hu hop hz hl (zIm ht hpl) hs
    ·cases hc
   ·cases hc
  ·rename_i hz ht
   split at hc
   ·rename_i hsz
    split at hc
    ·rename_i hl;cases hc;exact CB h he hu hop hz hl (zMZ ht hsz) hs
    ·cases hc
   ·cases hc
  ·cases hc
 case buildSlice t n ps=>
  split at hc
  ·rename_i e ht
   split at hc
   ·rename_i hz
    split at hc
    ·rename_i hh
     split at hc
     ·rename_i hl
      split at hc
      ·cases hc;exact UX h he hop ht hz hh.1 hh.2 hl hs
      ·cases hc;exact UW h he hop ht hz hh.1 hh.2 hl hs
     ·cases hc
    ·cases hc
   ·cases hc
  ·cases hc
 case load t p=>
  split at hc
  ·rename_i h1 h2 h3;cases hc;exact UE h he hop h1 h2 h3 hs
  ·cases hc
 case store t p v=>
  split at hc
  ·rename_i h1 h2 h3
   split at hc
   ·cases hc;cases hp
   ·cases hc;cases hp
   ·cases hc;exact TR h he hop h1 h2 h3 hs
  ·cases hc
 case nilCheck x=>
  split at hc
  ·rename_i hx;cases hc;exact TW h he hu hop hx hs
  ·cases hc
 case binOp op t x y ty=>
  split at hc
  ·rename_i h1 h2;exact zJJ h he hu hop h1 h2 hc hs
  ·cases hc
 case unOp op ty x=>
  split at hc
  ·rename_i hx;cases hc;exact TQ h he hop hx hs
  ·cases hc
 case convert s t x=>
  split at hc
  ·rename_i hx;exact zJI h he hu hop hx hc hs
  ·cases hc
 case makeSlice t l c=>
  split at hc
  ·rename_i e ht
   split at hc
   ·rename_i hz h1 h2
    split at hc
    ·rename_i hh;cases hc;exact TX h he hop ht hz hh.1 h1 h2 hs
    ·cases hc
   ·cases hc
  ·cases hc
 case slice t x lo hi mx=>
  split at hc
  ·rename_i h1 h2 h3 h4 h5;cases hc;exact TS h he hop h1 h2 h3 h4 h5 hs
  ·rename_i h1 h2 h3 h4 h5
   split at hc
   ·rename_i hz
    split at hc
    ·rename_i hh;cases hc;exact TT h he hu hop h1 hz hh h2 h3 h4 h5 hs
    ·cases hc
   ·cases hc
  ·cases hc
 case fieldAddr s x f=>
  split at hc
  ·rename_i h1 h2
   split at hc
   ·rename_i hf
    split at hc
    ·rename_i hz
     split at hc
     ·rename_i hh;cases hc;exact UL h he hu hop h1 hf hz hh h2 hs
     ·cases hc
    ·cases hc
   ·cases hc
  ·cases hc
 case indexAddr t x i=>
  split at hc
  ·rename_i h1 h2 h3
   split at hc
   ·rename_i hz
    split at hc
    ·cases hc;exact UJ h he hu hop h1 hz h2 h3 hs
    ·cases hc
   ·cases hc
  ·rename_i h1 h2 h3
   split at hc
   ·rename_i hz
    split at hc
    ·cases hc;exact UI h he hu hop h1 hz h2 h3 hs
    ·cases hc
   ·cases hc
  ·cases hc
 case field t x f=>
  split at hc
  ·rename_i h1 h2
   split at hc
   ·rename_i hf
    split at hc
    ·rename_i h3 h4;cases hc;exact UK h he hu hop h1 hf h3 h4 h2 hs
    ·cases hc
   ·cases hc
  ·cases hc
 case index t x i=>
  split at hc
  ·rename_i h1 h2 h3;cases hc;exact UH h he hop h1 h2 h3 hs
  ·cases hc
 case extract x i=>
  split at hc
  ·rename_i hx;cases hc;exact UM h he hu hop hx hs
  ·cases hc
 case makeMap t r=>
  cases r with
  | some _=>cases hc
  | none=>
   simp only at hc;split at hc
   ·rename_i ht;cases hc;exact TZ h hop hs
   ·cases hc
 case lookup t m k ok=>
  cases ok with
  | true=>cases hc
  | false=>
   simp only at hc;split at hc
   ·rename_i ht h1 h2;cases hc;exact UC h he hop ht h1 h2 hs
   ·cases hc
 case mapUpdate t m k x=>
  split at hc
  ·rename_i ht h1 h2 h3;cases hc;exact TY h he hop ht h1 h2 h3 hs
  ·cases hc
 case call c=>
  split at hc
  ·rename_i hb;exact zJL h he hu hop hb hc hs
  ·split at hc
   ·cases hc;cases hp
   ·cases hc
  ·cases hc
end
end Go.AM
