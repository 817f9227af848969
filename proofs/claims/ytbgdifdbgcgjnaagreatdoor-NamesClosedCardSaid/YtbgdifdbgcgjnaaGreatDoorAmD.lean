/- The abstract machine: regions, in any order. -/
import Derived.Test.YtbgdifdbgcgjnaaGreatDoorAmC
import Derived.OrdersIn
import Derived.RangeFuncLeaves
set_option linter.unusedVariables false
set_option linter.unusedSimpArgs false
set_option linter.unnecessarySimpa false
set_option maxRecDepth 100000
namespace Go.AM
theorem Oe(m:Nat):Nat.beq (m % 2) 0=decide (m % 2=0):=by
 rcases Nat.mod_two_eq_zero_or_one m with h | h <;> rw[h] <;> rfl
theorem Env.G1(m:Nat):Env.nil.get m=.undef:=by cases m <;> rfl
theorem Env.K6(l:Env)(v:D)(r:Env)(m:Nat):(Env.node l v r).get (m+1)=if m % 2=0 then l.get (m / 2)else r.get (m / 2):=by
 simp only[Env.get,Oe,decide_eq_true_eq]
theorem Env.WA(f:Nat)(l:Env)(x:D)(r:Env)(n:Nat)(v:D):Env.set (f+1) (.node l x r) (n+1) v=if n % 2=0 then .node (Env.set f l (n / 2) v) x r else .node l x (Env.set f r (n / 2) v):=by
 simp only[Env.set,Oe,decide_eq_true_eq]
theorem Env.VZ(f:Nat)(n:Nat)(v:D):Env.set (f+1) .nil (n+1) v=if n % 2=0 then .node (Env.set f .nil (n / 2) v) .undef .nil else .node .nil .undef (Env.set f .nil (n / 2) v):=by
 simp only[Env.set,Oe,decide_eq_true_eq]
theorem Env.CL:∀(f:Nat) (e:Env) (t u:Nat) (v:D),t+1<2 ^ f->(Env.set f e t v).get u=if u=t then v else e.get u
 | 0,e,t,u,v,h=>by simp at h
 | f+1,e,0,u,v,h=>by
  cases e with
  | nil=>cases u with
   | zero=>simp[Env.set,Env.get]
   | succ m=>simp[Env.set,Env.get,Env.G1]
  | node l x r=>cases u with
   | zero=>simp[Env.set,Env.get]
   | succ m=>simp[Env.set,Env.get]
 | f+1,e,n+1,u,v,h=>by
  have hn:n / 2+1<2 ^ f:=by rw[Nat.pow_succ]at h;omega
  have key:∀(e:Env) (m:Nat),(Env.set f e (n / 2) v).get m=if m=n / 2 then v else e.get m:=fun e m=>Env.CL f e (n / 2) m v hn
  have node:∀(l:Env) (x:D) (r:Env),(if n % 2=0 then Env.node (Env.set f l (n / 2) v) x r else .node l x (Env.set f r (n / 2) v)).get u=if u=n+1 then v else(Env.node l x r).get u:=by
   intro l x r;by_cases hp:n % 2=0
   ·rw[if_pos hp]
    cases u with
    | zero=>rw[if_neg (by omega)];rfl
    | succ m=>
     rw[Env.K6,Env.K6,key];by_cases hm:m % 2=0
     ·rw[if_pos hm,if_pos hm]
      by_cases he:m=n
      ·subst he;simp
      ·rw[if_neg (by omega),if_neg (by omega)]
     ·rw[if_neg hm,if_neg hm,if_neg (by omega)]
   ·rw[if_neg hp]
    cases u with
    | zero=>rw[if_neg (by omega)];rfl
    | succ m=>
     rw[Env.K6,Env.K6,key];by_cases hm:m % 2=0
     ·rw[if_pos hm,if_pos hm,if_neg (by omega)]
     ·rw[if_neg hm,if_neg hm]
      by_cases he:m=n
      ·subst he;simp
      ·rw[if_neg (by omega),if_neg (by omega)]
  cases e with
  | nil=>
   rw[Env.VZ,node];congr 1
   cases u with
   | zero=>rfl
   | succ m=>rw[Env.K6,Env.G1,Env.G1];simp
  | node l x r=>rw[Env.WA,node]
theorem Env.vB {e:Env}{t:Nat}(u:Nat)(v:D)(h:t<65535):(e.put t v).get u=if u=t then v else e.get u:=
 Env.CL 16 e t u v (by omega)
theorem ER.put {β:Bk}{Φ :Fz}{env:Env}{a:Act}{t:Nat}{d:D}{v:Value}(h:ER β Φ env a.tmps)(ht:t<65535)(hb:t<a.tmps.size)(hv:VR d β Φ v):ER β Φ (env.put t d) (a.put (some t) v).tmps:=by
 intro u;rw[Env.vB u d ht];simp only[Act.put];split
 ·rename_i e;subst e;simp[Array.getD,hb,hv]
 ·rename_i e
  have:(a.tmps.setIfInBounds t v).getD u undef=a.tmps.getD u undef:=by
   simp only[Array.getD_eq_getD_getElem?,Array.getElem?_setIfInBounds];rw[if_neg (fun e'=>e e'.symm)]
  rw[this];exact h u
theorem EU.put {n:Nat}{env:Env}{t:Nat}{d:D}(h:EU n env)(ht:t<65535)(hd:UN n d):EU n (env.put t d):=by
 intro u;rw[Env.vB u d ht];split
 ·exact hd
 ·exact h u
def iB(b:Nat)(H:aA):Prop:=b<=H.length∧∀id (c:Chunk),H[id]? =some c->c.aD (if id<b then b else H.length)
section
variable {P:Program}{G:Nat->Option (List D)}{β:Bk}{Φ :Fz}{b:Nat}{H:aA}{w:World}{env:Env}{a:Act}{call:cT}
theorem WR.Y3 {b':Nat}(h:WR P G β Φ b H w)(hi:iB b' H):WR P G β Φ b' H w:=
 ⟨h.ch,h.fz,h.apart,h.inj,h.dom,hi.1,hi.2,h.glob⟩
theorem WR.JG(h:WR P G β Φ b H w):iB b H:=⟨h.base,h.ids⟩
theorem WR.zHc(h:WR P G β Φ b H w):iB 0 H:=⟨Nat.zero_le _,fun id c hc=>by simpa using h.aD hc⟩
theorem WR.zHd(h:WR P G β Φ b H w):iB H.length H:=⟨Nat.le_refl _,fun id c hc=>by simpa using h.aD hc⟩
theorem sP {b' id:Nat}{vs:List D}(h1:b'<=b)(h2:b<=H.length)(h:storable b H id vs=true):storable b' H id vs=true:=by
 simp only[storable,Bool.and_eq_true]at h ⊢;refine⟨?_,h.2⟩;have h:=h.1;by_cases hb:id<b
 ·rw[if_pos hb]at h
  by_cases hb':id<b'
  ·rw[if_pos hb'];exact h
  ·rw[if_neg hb'];exact D.dI _ (by omega) h
 ·rw[if_neg hb]at h
  rw[if_neg (by omega)];exact h
theorem X6:∀ {res:List (Nat×Nat)} {H H':aA} {cs cs':List D},bU H cs res=some (H',cs')->H.length<=H'.length
 | [],_,_,_,_,h=>by simp[bU]at h;rw[h.1];exact Nat.le_refl _
 | (off,es)::r,H,H',cs,cs',h=>by
  simp only[bU]at h;split at h
  ·split at h
   ·have:=X6 h;simp at this;omega
   ·cases h
  ·exact X6 h
theorem BQ {b' n:Nat}{p v:D}{H':aA}(h1:b'<=b)(h2:b<=H.length)(h:jI b H n p v=some H'):jI b' H n p v=some H':=by
 unfold jI at h ⊢;split at h
 ·rename_i hn
  rw[if_pos hn];split at h
  ·split at h
   ·rename_i hc
    split at h
    ·rename_i hl
     split at h
     ·rename_i hst
      simp only[hc,if_pos hl,if_pos (sP h1 h2 hst)];exact h
     ·cases h
    ·cases h
   ·cases h
  ·split at h
   ·rename_i hc
    split at h
    ·rename_i hw
     split at h
     ·rename_i hl
      split at h
      ·rename_i hst
       simp only[hc,if_pos hw,if_pos hl,if_pos (sP h1 h2 hst)];exact h
      ·cases h
     ·cases h
    ·cases h
   ·cases h
  ·cases h
 ·cases h
theorem NS {b' es bytes m:Nat}{x:D}{ys:List D}{r:D×aA}(h1:b'<=b)(h2:b<=H.length)(h:cR b H es bytes x ys m=some r):cR b' H es bytes x ys m=some r:=by
 unfold cR at h ⊢;split at h
 ·split at h
  ·rename_i hm;simp only[if_pos hm];exact h
  ·rename_i hm
   split at h
   ·rename_i hh;simp only[if_neg hm,if_pos (⟨hh.1,sP h1 h2 hh.2.1,hh.2.2⟩:m*bytes<=aX∧storable b' H H.length ys=true∧m<=aX)];exact h
   ·cases h
 ·split at h
  ·rename_i hm;simp only[if_pos hm];exact h
  ·rename_i hm
   split at h
   ·rename_i hh;simp only[if_neg hm,if_pos (⟨hh.1,sP h1 h2 hh.2.1,hh.2.2⟩:m*bytes<=aX∧storable b' H H.length ys=true∧m<=aX)];exact h
   ·cases h
 ·rename_i id hw n
  split at h
  ·rename_i es' cs nil hc
   split at h
   ·rename_i hh
    rw[if_pos ⟨hh.1,hh.2.1,hh.2.2.1,hh.2.2.2.1,hh.2.2.2.2.1,hh.2.2.2.2.2.1,sP h1 h2 hh.2.2.2.2.2.2⟩];exact h
   ·cases h
  ·cases h
 ·cases h
theorem TP {b':Nat}{ao:AOp}{r:D×aA}(h1:b'<=b)(h2:b<=H.length)(h:step G b call env H ao=some r):step G b' call env H ao=some r:=by
 cases ao
 case boxB n x res=>
  simp only[step]at h ⊢;split at h
  ·rename_i hl
   rw[if_pos hl];split at h
   ·rename_i H1 cs hr
    split at h
    ·rename_i hst
     rw[if_pos (sP h1 (Nat.le_trans h2 (X6 hr)) hst)];exact h
    ·cases h
   ·cases h
  ·cases h
 case bslR es zs n ps=>
  simp only[step]at h ⊢;split at h
  ·split at h
   ·rename_i hst;rw[if_pos (sP h1 h2 hst)];exact h
   ·cases h
  ·cases h
 case store n p v=>
  simp only[step]at h ⊢;split at h
  ·rename_i hst;rw[BQ h1 h2 hst];exact h
  ·cases h
 case fill n v=>
  simp only[step]at h ⊢;split at h
  ·exact h
  ·split at h
   ·rename_i hl
    rw[if_pos hl];split at h
    ·rename_i H1 cs hr
     split at h
     ·rename_i hst
      rw[if_pos (sP h1 (Nat.le_trans h2 (X6 hr)) hst)];exact h
     ·cases h
    ·cases h
   ·cases h
 case append es bytes x y=>
  simp only[step]at h ⊢;split at h
  ·exact NS h1 h2 h
  ·cases h
 case appendS bytes x y=>
  simp only[step]at h ⊢;split at h
  ·exact NS h1 h2 h
  ·cases h
 case copy es x y=>
  simp only[step,Az]at h ⊢;split at h
  ·split at h
   ·split at h
    ·rename_i q;rw[if_pos q];exact h
    ·rename_i q
     rw[if_neg q];split at h
     ·split at h
      ·rename_i hst;simp only[BQ h1 h2 hst];exact h
      ·cases h
     ·cases h
   ·cases h
  ·cases h
 all_goals exact h
theorem Ext.zEB(β:Bk)(Φ :Fz)(H:aA)(w:World)(n:Nat):Ext β Φ H w β Φ H { w with drawn:=n } :=
 ⟨More.refl _ _ _,Nat.le_refl _,rfl,rfl,rfl,Nat.le_refl _,fun _ _ _=>rfl,fun _ h=>.inl h,fun _ _ h=>.inl h⟩
end
def gN(r:Option Nat):Fence:= { Fence.wide with round:=r }
def ret(R:Value->World->Prop):Ending->World->Prop
 | .returned v,w=>R v w
 | _,_=>False
def uC(P:Program)(R:Value->World->Prop):Result Next->Prop
 | .ok (.value v) w'=>R v w'
 | .ok (.enter f args) w'=>CallsIn Fence.wide 0 P f args w' (ret R)
 | .ok (.round l f tmps assign body) w'=>RoundIn Fence.wide 0 P l f tmps assign body w' (ret R)
 | _=>False
def Inv(P:Program)(vf:Value)(vargs:Array Value)(w:World)(R:Value->World->Prop):Prop:=
 uC P R ((do let d ← Deferred.ofValue vf vargs;invoke d.target d.args:Sem Next).run P w)
theorem MD {r:Option Nat}{n:Nat}{P:Program}{f:FuncId}{args:Array Value}{w:World}{R R':Ending->World->Prop}(h:CallsIn Fence.wide 0 P f args w R)(hr:∀e w',R e w'->R' e w'):CallsIn (gN r) n P f args w R':=
 ⟨trivial,fun cs _=>let⟨e,w',fr,q,s,x⟩:=h.2 cs (room_wide _);⟨e,w',fr,hr _ _ q,s,x⟩⟩
theorem XV {r:Option Nat}{n:Nat}{P:Program}{l:Nat}{f:FuncId}{tmps:Array Value}{assign body:Code}{w:World}{R R':Ending->World->Prop}(h:RoundIn Fence.wide 0 P l f tmps assign body w R)(hr:∀e w',R e w'->R' e w'):
  RoundIn (gN r) n P l f tmps assign body w R':=
 ⟨trivial,fun c cs _=>let⟨e,w',q,s⟩:=h.2 c cs (room_wide _);⟨e,w',hr _ _ q,s⟩⟩
def Fk(P:Program)(f:Nat):Prop:=∃fn,P.funcs[f]? =some fn∧(fn.name == "runtime.NumGoroutine")=false∧fn.body.isNone=false
def Quiet(P:Program)(g:Nat):Prop:=
 Fk P g∧∀(args:Array Value) (w:World),CallsDIn Fence.wide 0 P g args .returning w (fun e u' w'=>(∃v,e=.returned v)∧settle u'=.returning∧(w.heap.size<=w'.heap.size∧∀k,k<w.heap.size->w'.heap[k]? =w.heap[k]?)∧w'.os=w.os∧w'.tape=w.tape∧w'.output=w.output)
def Fh(P:Program)(d:Deferred):Prop:=∃f vs us,d= { target:=.fn (.func f) vs,args:=us } ∧Quiet P f
structure WS(P:Program)(G:gT)(β:Bk)(Φ :Fz)(B:Nat->Prop)(H:aA)(w:World):Prop where
 wr:WR P G β Φ 0 H w
 ids:∀b,B b->iB b H
def qQ(P:Program)(G:gT)(call:cT):Prop:=
 ∀ {d:D} {args:List D} {H:aA} {d':D} {H':aA},call d args H=some (d',H')->
  ∀ {β:Bk} {Φ :Fz} {w:World} {vf:Value} {vargs:List Value} {B:Nat->Prop},WS P G β Φ B H w->VR d β Φ vf->aE args β Φ vargs->UN H.length d->(∀x∈args,UN H.length x)->
   Inv P vf vargs.toArray w fun v w'=> ∃β' Φ',VR d' β' Φ' v∧WS P G β' Φ' B H' w'∧Ext β Φ H w β' Φ' H' w'∧UN H'.length d'
end Go.AM
namespace Go.AM
structure HoleAt(β:Bk)(Φ :Fz)(H:aA)(z:Nat)(tmps:Array Value)(w:World)(t s k:Nat):Prop where
 tmp:tmps.getD t undef=.pointer (some ⟨k,0,none⟩)
 cells:∃cur e,w.heap[k]? =some (.cells cur e (0,0))∧cur.size=s
 dead:¬live β H k
 loose: Φ k=none
 new:z<=k
structure RS(P:Program)(G:gT)(N:Nat)(B:Nat->Prop)(ds:List Deferred)(β0:Bk)(Φ0 :Fz)(H0:aA)(w0:World)(κ:Nat->Option (Nat×Nat))(β:Bk)(Φ :Fz)(env:Env)(H:aA)(a:Act)(w:World):Prop where
 ws:WS P G β Φ B H w
 er:ER β Φ env a.tmps
 eu:EU H.length env
 size:N<=a.tmps.size
 dfr:∃hs,(∀d∈hs,Fh P d)∧a.defers=hs++ds
 ext:Ext β0 Φ0 H0 w0 β Φ H w
 hole:∀t s k,κ t=some (s,k)->HoleAt β Φ H w0.heap.size a.tmps w t s k
 inj:∀t t' s s' k,κ t=some (s,k)->κ t'=some (s',k)->t=t'
def Holes.set(κ:Nat->Option (Nat×Nat))(t:Nat)(x:Option (Nat×Nat)):Nat->Option (Nat×Nat):=fun u=>if u=t then x else κ u
section
variable {P:Program}{G:Nat->Option (List D)}{β:Bk}{Φ :Fz}{b N:Nat}{B:Nat->Prop}{ds:List Deferred}{β0:Bk}{Φ0 :Fz}{H0 H:aA}{w0 w:World}{κ:Nat->Option (Nat×Nat)}{env:Env}{a:Act}{call:cT}
theorem GK {a:Act}{t u:Nat}{v:Value}(h:u≠t):(a.put (some t) v).tmps.getD u undef=a.tmps.getD u undef:=by
 simp only[Act.put,Array.getD_eq_getD_getElem?,Array.getElem?_setIfInBounds];rw[if_neg (fun e'=>h e'.symm)]
theorem ZE {a:Act}{t:Nat}{v:Value}(h:t<a.tmps.size):(a.put (some t) v).tmps.getD t undef=v:=by
 simp[Act.put,Array.getD,h]
theorem GJ {a:Act}{dst:Option Nat}{v:Value}:(a.put dst v).tmps.size=a.tmps.size:=by
 cases dst <;> simp[Act.put]
theorem HoleAt.keep {z:Nat}{tmps tmps':Array Value}{t s k:Nat}{β':Bk}{Φ' :Fz}{H':aA}{w':World}(h:HoleAt β Φ H z tmps w t s k)(hx:Ext β Φ H w β' Φ' H' w')(ht:tmps'.getD t undef=tmps.getD t undef):HoleAt β' Φ' H' z tmps' w' t s k:=by
 obtain⟨cur,e,hc,hs⟩:=h.cells;have hk:k<w.heap.size:=(Array.getElem?_eq_some_iff.1 hc).1;refine⟨by rw[ht];exact h.tmp,⟨cur,e,by rw[hx.same k hk h.dead];exact hc,hs⟩,fun hl=>?_,?_,h.new⟩
 ·rcases hx.fresh k hl with h' | h'
  ·exact h.dead h'
  ·omega
 ·cases hf: Φ' k with
  | none=>rfl
  | some o=>
   rcases hx.fzn k o hf with h' | h' | h'
   ·rw[h.loose]at h';cases h'
   ·exact absurd h' h.dead
   ·omega
theorem RS.next(hN:N<=65535)(hs:RS P G N B ds β0 Φ0 H0 w0 κ β Φ env H a w){d:D}{v:Value}{w':World}{β':Bk}{Φ' :Fz}{H':aA}(hv:VR d β' Φ' v)(hw:WS P G β' Φ' B H' w')(hx:Ext β Φ H w β' Φ' H' w')(hu:UN H'.length d)
  {dst:Option Nat} (hd:∀t,dst=some t->t<N∧κ t=none):RS P G N B ds β0 Φ0 H0 w0 κ β' Φ' (bS env dst d) H' (a.put dst v) w':=by
 have he:ER β' Φ' env a.tmps:=hs.er.more hs.eu hx.more;have hu':EU H'.length env:=hs.eu.le hx.len
 cases dst with
 | none=>exact⟨hw,he,hu',hs.size,hs.dfr,hs.ext.trans hx,fun t s k hk=>(hs.hole t s k hk).keep hx rfl,hs.inj⟩
 | some t=>
  obtain⟨h1,h2⟩:=hd t rfl;have hlt:t<65535:=by omega
  have hsz:=hs.size;refine⟨hw,he.put hlt (by omega) hv,hu'.put hlt hu,by rw[GJ];exact hsz,hs.dfr,hs.ext.trans hx,fun u s k hk=>(hs.hole u s k hk).keep hx (GK ?_),hs.inj⟩;rintro rfl;rw[h2]at hk;cases hk
theorem TB(hw:WS P G β Φ B H w)(hb:B b)(hB:∀b',B b'->b'<=b)(he:ER β Φ env a.tmps)(hu:EU H.length env){o:Oper}{pol:Option Pol}{ao:AOp}(hc:eC P pol o.op=some ao)(hp:ao.plain=true)
  {d:D} {H':aA} (hs:step G b call env H ao=some (d,H')):
  ∃r v w' β' Φ',(execOp a.eval o).run P w=.ok r w'∧(r=.value v∨r=.skip∧v=undef)∧VR d β' Φ' v∧WS P G β' Φ' B H' w'∧Ext β Φ H w β' Φ' H' w'∧UN H'.length d:=by
 obtain⟨⟨r,v,w',β', Φ',h1,h2,h3,h4,h5⟩,h6⟩:=BU (hw.wr.Y3 (hw.ids b hb)) he hu hc hp hs;refine⟨r,v,w',β', Φ',h1,h2,h3,⟨h4.Y3 h4.zHc,fun b' hb'=>?_⟩,h5,h6⟩;obtain⟨⟨_,_,_,_,_,_,_,_,g4,_⟩,_⟩:=BU (hw.wr.Y3 (hw.ids b' hb')) he hu hc hp (TP (hB b' hb') (hw.ids b hb).1 hs);exact g4.JG
theorem pO {ops:Array Oper}{g:Option (Nat×Bool)}{o:Oper}{x:Bool}(hg:y5 ops o.guard=some g)(hx:gW env g=some x)(he:ER β Φ env a.tmps):Region.wanted o (yielded ops a.tmps)=x:=by
 unfold y5 at hg;unfold Region.wanted;split at hg
 ·rename_i e;cases hg;rw[e];simp[gW]at hx;simp[hx]
 ·rename_i j q e
  split at hg
  ·rename_i t ht
   cases hg
   rw[e];simp only[gW]at hx;have hv:=he t;split at hx
   ·rename_i y hy
    cases hx
    rw[hy]at hv;have hv:=hv.sA;have hget:a.tmps[t]? =some (.bool y):=by
     simp only[Array.getD_eq_getD_getElem?]at hv
     cases hh:a.tmps[t]? with
     | none=>rw[hh]at hv;simp[undef]at hv
     | some v=>rw[hh]at hv;simp at hv;rw[hv]
    simp only[yielded,ht,Option.bind_some,hget]
    cases y <;> cases q <;> rfl
   ·rename_i hy
    cases hx
    rw[hy]at hv;simp only[VR]at hv;obtain⟨vs,hv,hvs⟩:=hv;simp only[aE]at hvs;subst hvs;have:yielded ops a.tmps j=none:=by
     simp only[yielded,ht,Option.bind_some];simp only[Array.getD_eq_getD_getElem?]at hv
     cases hh:a.tmps[t]? with
     | none=>rfl
     | some v=>rw[hh]at hv;simp at hv;rw[hv]
    simp only[this];rfl
   ·cases hx
  ·cases hg
theorem Ms {pol:Option Pol}{op:Op}{ao:AOp}(h:eC P pol op=some ao):∀c,op≠ .defer c:=by
 rintro c rfl;simp[eC]at h
theorem U4 {r:Option Nat}{n:Nat}{o:Oper}{x:Next}{v:Value}{w':World}{K:Act->World->Prop}{Q:Exit->Act->World->Prop}(hnd:∀c,o.op≠ .defer c)(hr:(execOp a.eval o).run P w=.ok x w')(hx:x=.value v∨x=.skip∧v=undef)(hK:K (a.put o.dst v) w'):
  o.wpIn (gN r) n P a w K Q:=by
 refine⟨fun _ _=>trivial,?_⟩;rw[Oper.semAt_eq _ _ _ hnd,hr];rcases hx with rfl | ⟨rfl,rfl⟩
 ·exact hK
 ·exact hK
structure Comped(P:Program)(r:Option Nat)(ops:Array Oper)(o:Oper)(ao:AOper):Prop where
 guard:y5 ops o.guard=some ao.guard
 op:(∃pol,(eC P pol o.op).getD .bad=ao.op)∨∃c x f xa,o.op=.defer c∧c.callee=.value x∧c.args= #[]∧aM x=some xa∧ao.op=.dfrop f xa∧r=none∧Quiet P f
 dst:(∀s v,ao.op≠ .fill s v)->ao.dst=o.dst
 fill:∀s v,ao.op=.fill s v->o.dst=none∧∃ty t x,o.op=.store ty (.tmp t) x∧ao.dst=some t∧dP P ty=some s∧aM x=some v.arg
theorem zJF {r:Option Nat}{pol:Option Pol}{ops:Array Oper}{o:Oper}{ao:AOper}(hq:∀f,pol=some (.quiet f)->r=none∧Quiet P f)(h:Mu P pol ops o=some ao):Comped P r ops o ao:=by
 unfold Mu at h;split at h
 ·rename_i g hg
  split at h
  ·rename_i f c hdf
   unfold JE at hdf;split at hdf
   ·rename_i c' f' hop
    cases hdf
    split at h
    ·rename_i ad had
     cases h
     unfold LN at had;split at had
     ·rename_i x hx
      split at had
      ·rename_i hsz
       split at had
       ·rename_i xa hxa
        cases had
        obtain⟨q1,q2⟩:=hq f rfl;exact⟨hg,.inr ⟨c,x,f,xa,hop,hx,Array.eq_empty_of_size_eq_zero hsz,hxa,rfl,q1,q2⟩,fun _=>rfl,fun s v e=>by cases e⟩
       ·cases had
      ·cases had
     ·cases had
    ·cases h
   ·cases hdf
  ·split at h
   ·rename_i n v ty t x he ho
    split at h
    ·rename_i hd
     cases h
     have he':eC P pol o.op=some (.fill n v):=by
      cases hh:eC P pol o.op with
      | none=>rw[hh]at he;cases he
      | some y=>rw[hh]at he;simpa using he
     refine⟨hg,.inl ⟨pol,he⟩,fun hf=>absurd rfl (hf n v),fun s v' hsv=>?_⟩
     cases hsv
     refine⟨hd,ty,t,x,ho,rfl,?_⟩;rw[ho]at he';simp only[eC]at he';split at he'
     ·rename_i h1 h2 h3
      split at he'
      ·cases he';exact⟨h1,h3⟩
      ·cases he';exact⟨h1,h3⟩
      ·cases he'
     ·cases he'
    ·cases h
   ·cases h
   ·rename_i op hop hno _
    cases h
    refine⟨hg,.inl ⟨pol,rfl⟩,fun _=>rfl,fun s v hsv=>?_⟩;exact(hno s v hsv).elim
 ·cases h
theorem zAG(hN:N<=65535){r:Option Nat}{n i:Nat}{ops:Array Oper}{o:Oper}{ao:AOper}{K:Act->World->Prop}{Q:Exit->Act->World->Prop}(hi:ops[i]? =some o)(hrs:RS P G N B ds β0 Φ0 H0 w0 κ β Φ env H a w)(hb:B b)(hB:∀b',B b'->b'<=b)
  (hc:Comped P r ops o ao) (hp:ao.op.plain=true) (hd:∀t,ao.dst=some t->t<N∧κ t=none) {d:D} {H':aA} (hrun:bD G b call env H ao=some (d,H'))
  (hK:∀β' Φ' v w',RS P G N B ds β0 Φ0 H0 w0 κ β' Φ' (bS env ao.dst d) H' (a.put o.dst v) w'->K (a.put o.dst v) w'):wpOpIn (gN r) n P ops Q i K a w:=by
 have hdst:ao.dst=o.dst:=hc.dst (fun s v e=>by rw[e]at hp;cases hp);rw[hdst]at hd hK;unfold wpOpIn;simp only[hi];unfold bD at hrun;split at hrun
 ·rename_i hwt
  rw[if_pos (pO hc.guard hwt hrs.er)];obtain⟨pol,hop⟩:=hc.op.resolve_right (fun⟨_,_,_,_,_,_,_,_,e,_⟩=>by rw[e]at hp;cases hp);have hop':eC P pol o.op=some ao.op:=by
   cases hh:eC P pol o.op with
   | none=>rw[hh]at hop;simp at hop;rw[← hop]at hp;cases hp
   | some y=>rw[hh]at hop;simpa using hop
  obtain⟨x,v,w',β', Φ',h1,h2,h3,h4,h5,h6⟩:=TB hrs.ws hb hB hrs.er hrs.eu hop' hp hrun;exact U4 (Ms hop') h1 h2 (hK β' Φ' v w' (hrs.next hN h3 h4 h5 h6 hd))
 ·rename_i hwt
  cases hrun
  rw[if_neg (by rw[pO hc.guard hwt hrs.er];simp)];exact⟨fun _ _=>trivial,hK β Φ undef w (hrs.next hN (xG _ _) hrs.ws (Ext.refl _ _ _ _) (.inr rfl) hd)⟩
 ·cases hrun
theorem zJO {op:BinOp}{t:TypeId}{x y:Arg}{ao:AOp}(h:N8 P op t x y=some ao):ao.plain=true:=by
 unfold N8 at h
 repeat' split at h
 all_goals first | (cases h;rfl) | cases h
theorem zJN {s t:TypeId}{x:Arg}{ao:AOp}(h:N7 P s t x=some ao):ao.plain=true:=by
 unfold N7 at h
 repeat' split at h
 all_goals first | (cases h;rfl) | cases h
theorem zJP {bi:Builtin}{ts:List TypeId}{xs:List Operand}{ao:AOp}(h:N9 P bi ts xs=some ao):ao.plain=true:=by
 unfold N9 at h
 repeat' split at h
 all_goals first | (cases h;rfl) | cases h
theorem Gd {pol:Option Pol}{op:Op}{ao:AOp}(h:eC P pol op=some ao)(hp:ao.plain=false):
  (∃c fo f as,op=.call c∧c.callee=.value fo∧aM fo=some f∧iT c.args.toList=some as∧ao=.call f as)∨
  (∃e s by_ zs,op=.alloc e∧gV P e=some (s,by_,zs)∧ao=.hole s)∨(∃s v,ao=.fill s v):=by
 cases op
 case call c=>
  simp only[eC]at h;split at h
  ·rw[zJP h]at hp;cases hp
  ·rename_i f hf
   split at h
   ·rename_i h1 h2
    cases h
    exact .inl ⟨c,f,_,_,rfl,hf,h1,h2,rfl⟩
   ·cases h
  ·cases h
 case alloc e=>
  simp only[eC]at h;split at h
  ·rename_i s by_ zs hz
   split at h
   ·cases h;exact .inr (.inl ⟨e,s,by_,zs,rfl,hz,rfl⟩)
   ·cases h;cases hp
  ·cases h
 case store t p v=>
  simp only[eC]at h;split at h
  ·split at h
   ·cases h;exact .inr (.inr ⟨_,_,rfl⟩)
   ·cases h;exact .inr (.inr ⟨_,_,rfl⟩)
   ·cases h;cases hp
  ·cases h
 case binOp op t x y ty=>
  simp only[eC]at h;split at h
  ·rw[zJO h]at hp;cases hp
  ·cases h
 case convert s t x=>
  simp only[eC]at h;split at h
  ·rw[zJN h]at hp;cases hp
  ·cases h
 case makeFunc fn first caps=>
  cases fn <;> simp only[eC]at h
  all_goals (repeat' split at h)
  all_goals first | (cases h;cases hp;done) | cases h
 case makeMap t r=>
  cases r <;> simp only[eC]at h
  all_goals (repeat' split at h)
  all_goals first | (cases h;cases hp;done) | cases h
 case lookup t m k ok=>
  cases ok <;> simp only[eC]at h
  all_goals (repeat' split at h)
  all_goals first | (cases h;cases hp;done) | cases h
 all_goals simp only[eC]at h
 all_goals (repeat' split at h)
 all_goals first | (cases h;cases hp;done) | cases h
theorem zAL(hN:N<=65535)(hsim:qQ P G call){r:Option Nat}{n i:Nat}{ops:Array Oper}{o:Oper}{ao:AOper}{K:Act->World->Prop}{Q:Exit->Act->World->Prop}(hi:ops[i]? =some o)(hrs:RS P G N B ds β0 Φ0 H0 w0 κ β Φ env H a w)
  (hc:Comped P r ops o ao) {f:Arg} {as:List Arg} (hao:ao.op=.call f as) (hd:∀t,ao.dst=some t->t<N∧κ t=none) {d:D} {H':aA} (hrun:bD G b call env H ao=some (d,H'))
  (hK:∀β' Φ' v w',RS P G N B ds β0 Φ0 H0 w0 κ β' Φ' (bS env ao.dst d) H' (a.put o.dst v) w'->K (a.put o.dst v) w'):wpOpIn (gN r) n P ops Q i K a w:=by
 have hdst:ao.dst=o.dst:=hc.dst (fun s v e=>by rw[e]at hao;cases hao);rw[hdst]at hd hK;unfold wpOpIn;simp only[hi];unfold bD at hrun;split at hrun
 ·rename_i hwt
  rw[if_pos (pO hc.guard hwt hrs.er)];obtain⟨pol,hop⟩:=hc.op.resolve_right (fun⟨_,_,_,_,_,_,_,_,e,_⟩=>by rw[e]at hao;cases hao);have hop':eC P pol o.op=some (.call f as):=by
   cases hh:eC P pol o.op with
   | none=>rw[hh,hao]at hop;cases hop
   | some y=>rw[hh,hao]at hop;simpa using hop
  rcases Gd hop' rfl with⟨c,fo,f',as',h1,h2,h3,h4,h5⟩ | ⟨_,_,_,_,_,_,h⟩ | ⟨_,_,h⟩
  ·cases h5
   rw[hao]at hrun;simp only[step]at hrun;have hargs:∀ {xs:List Operand} {as:List Arg},iT xs=some as->∀x∈fM G env as,UN H.length x:=fun h=>Md hrs.eu h
   have hinv:=hsim hrun hrs.ws (bH hrs.ws.wr hrs.er h3) (M8 hrs.ws.wr hrs.er h4) (hJ hrs.eu h3) (hargs h4);have hex:execOp a.eval o=(do let d ← Deferred.ofValue (a.eval fo) ((c.args.toList.map a.eval).toArray);invoke d.target d.args:Sem Next):=by
    unfold execOp;rw[h1];simp only[resolve,h2];rw[pZ (a:=a) (c:=c) rfl]
   refine⟨fun _ _=>trivial,?_⟩;rw[Oper.semAt_eq _ _ _ (Ms hop'),hex];unfold Inv at hinv;have fin:∀v w',(∃β' Φ',VR d β' Φ' v∧WS P G β' Φ' B H' w'∧Ext β Φ H w β' Φ' H' w'∧UN H'.length d)->K (a.put o.dst v) w':=by
    rintro v w' ⟨β', Φ',g1,g2,g3,hun⟩;exact hK β' Φ' v w' (hrs.next hN g1 g2 g3 hun hd)
   revert hinv
   generalize Sem.run P (do let d ← Deferred.ofValue (a.eval fo) ((c.args.toList.map a.eval).toArray);invoke d.target d.args:Sem Next) w=res;intro hinv;unfold uC at hinv;split at hinv
   ·exact fin _ _ hinv
   ·refine⟨fun h=>by simp[gN,Fence.wide]at h,MD hinv fun e w'' he=>?_⟩
    cases e with
    | returned v=>exact fin _ _ he
    | panicked c=>exact he.elim
    | outgrown=>exact he.elim
   ·refine⟨fun h=>by simp[gN,Fence.wide]at h,XV hinv fun e w'' he=>?_⟩
    cases e with
    | returned v=>exact fin _ _ he
    | panicked c=>exact he.elim
    | outgrown=>exact he.elim
   ·exact hinv.elim
  ·cases h
  ·cases h
 ·rename_i hwt
  cases hrun
  rw[if_neg (by rw[pO hc.guard hwt hrs.er];simp)];exact⟨fun _ _=>trivial,hK β Φ undef w (hrs.next hN (xG _ _) hrs.ws (Ext.refl _ _ _ _) (.inr rfl) hd)⟩
 ·cases hrun
theorem zAK(hN:N<=65535){r:Option Nat}{n i:Nat}{ops:Array Oper}{o:Oper}{ao:AOper}{K:Act->World->Prop}{Q:Exit->Act->World->Prop}(hi:ops[i]? =some o)(hrs:RS P G N B ds β0 Φ0 H0 w0 κ β Φ env H a w)
  (hc:Comped P r ops o ao) {f:Nat} {x:Arg} (hao:ao.op=.dfrop f x) (hd:∀t,ao.dst=some t->t<N∧κ t=none) {d:D} {H':aA} (hrun:bD G b call env H ao=some (d,H'))
  (hK:∀β' Φ' a' w',RS P G N B ds β0 Φ0 H0 w0 κ β' Φ' (bS env ao.dst d) H' a' w'->K a' w'):wpOpIn (gN r) n P ops Q i K a w:=by
 have hdst:ao.dst=o.dst:=hc.dst (fun s v e=>by rw[e]at hao;cases hao);rw[hdst]at hd hK;unfold wpOpIn;simp only[hi];unfold bD at hrun;split at hrun
 ·rename_i hwt
  rw[if_pos (pO hc.guard hwt hrs.er)];rcases hc.op with⟨pol,hop⟩ | ⟨c,y,f',xa,h1,h2,h3,h4,h5,rfl,h6⟩
  ·exfalso
   rw[hao]at hop
   cases hh:eC P pol o.op with
   | none=>rw[hh]at hop;cases hop
   | some z=>
    rw[hh]at hop;simp at hop;subst hop;rcases Gd hh rfl with⟨_,_,_,_,_,_,_,_,h⟩ | ⟨_,_,_,_,_,_,h⟩ | ⟨_,_,h⟩ <;> cases h
  ·rw[hao]at h5 hrun
   cases h5
   simp only[step]at hrun;split at hrun
   ·rename_i g pre cs hx
    split at hrun
    ·rename_i hgf
     cases hrun
     have hgf:g=f:=by simpa [Nat.beq_eq]using hgf
     subst hgf;have hv:=bH (G:=G) hrs.ws.wr hrs.er h4;rw[hx]at hv;simp only[VR]at hv;obtain⟨us,vs,e,_,_⟩:=hv;have hex:(execOp a.eval o).run P w=.ok (.defer { target:=.fn (.func g) vs.toArray,args:=us.toArray++ #[] }) w:=by
      unfold execOp;rw[h1];have hae:(#[]:Array Operand).map a.eval= #[]:=by simp
      simp only[resolve,h2,h3,e,hae];rfl
     refine⟨fun _ _=>trivial,?_⟩;have hsem:Oper.semAt (gN none).round a.eval o=execOp a.eval o:=rfl;rw[hsem,hex];have hh:Fh P { target:=.fn (.func g) vs.toArray,args:=us.toArray++ #[] } :=⟨g,_,_,rfl,h6⟩;obtain⟨hs,q1,q2⟩:=hrs.dfr;have hrs':RS P G N B ds β0 Φ0 H0 w0 κ β Φ env H { a with defers:= { target:=.fn (.func g) vs.toArray,args:=us.toArray++ #[] } ::a.defers } w:=
      ⟨hrs.ws,hrs.er,hrs.eu,hrs.size,⟨_::hs,fun d hd=>by
       rcases List.mem_cons.1 hd with rfl | hd
       ·exact hh
       ·exact q1 d hd,by rw[List.cons_append, ← q2]⟩,hrs.ext,hrs.hole,hrs.inj⟩
     exact hK β Φ _ w (hrs'.next hN (xG _ _) hrs.ws (Ext.refl _ _ _ _) (.inr rfl) hd)
    ·cases hrun
   ·cases hrun
 ·rename_i hwt
  cases hrun
  rw[if_neg (by rw[pO hc.guard hwt hrs.er];simp)];exact⟨fun _ _=>trivial,hK β Φ _ w (hrs.next hN (xG _ _) hrs.ws (Ext.refl _ _ _ _) (.inr rfl) hd)⟩
 ·cases hrun
end
end Go.AM
namespace Go.AM
section
variable {P:Program}{G:Nat->Option (List D)}{β:Bk}{Φ :Fz}{b N:Nat}{B:Nat->Prop}{ds:List Deferred}{β0:Bk}{Φ0 :Fz}{H0 H:aA}{w0 w:World}{κ:Nat->Option (Nat×Nat)}{env:Env}{a:Act}{call:cT}
theorem iB.append {b:Nat}{c:Chunk}(h:iB b H)(hc:c.aD (H.length+1)):iB b (H++[c]):=by
 refine⟨by simp;have:=h.1;omega,fun i x hx=>?_⟩;rcases gU hx with h1 | ⟨h1,h2⟩
 ·have:=h.2 i x h1
  split
  ·rename_i h3;rwa [if_pos h3]at this
  ·rename_i h3;rw[if_neg h3]at this;exact Chunk.dI (by simp) this
 ·subst h2
  have:=h.1;rw[if_neg (by omega)];simpa using hc
theorem WR.grow(h:WR P G β Φ b H w){w':World}{o:Obj}(hg:Grow w w' o):WR P G β Φ b H w'∧Ext β Φ H w β Φ H w':=by
 refine⟨⟨fun id c hc=>?_,fun k o' hk=>?_,h.apart,h.inj,h.dom,h.base,h.ids,h.glob⟩,⟨More.refl _ _ _,Nat.le_refl _,hg.os,hg.tape,hg.output,by rw[hg.size];omega,fun k hk _=>hg.old hk,fun k hk=>.inl hk,fun k o' hk=>.inl hk⟩⟩
 ·exact(h.ch id c hc).more (h.aD hc) (gZ hc) (More.refl _ _ _) (fun _=>rfl) (fun k hk=>hg.old (h.lD hc hk))
 ·rw[hg.old (h.tJ hk)];exact h.fz k o' hk
theorem WR.freeze(h:WR P G β Φ b H w){w':World}{k:Nat}{o:Obj}(ht:Turn w w' k o)(hd:¬live β H k)(hl: Φ k=none):WR P G β (Fz.put Φ k o) b H w':=by
 have hm:More H.length β Φ β (Fz.put Φ k o):=⟨fun _ _ _ _ h=>h,fun _ _ h=>h,Fz.vA o hl⟩;refine⟨fun id c hc=>?_,fun j o' hj=>?_,fun id c j hc hj=>?_,h.inj,h.dom,h.base,h.ids,fun g cs hgc=>?_⟩
 ·refine(h.ch id c hc).more (h.aD hc) (gZ hc) hm (fun _=>rfl) (fun j hj=>ht.other j ?_)
  rintro rfl;exact hd ⟨id,c,hc,hj⟩
 ·unfold Fz.put at hj
  split at hj
  ·rename_i e;subst e;cases hj;exact ht.here
  ·rename_i e;rw[ht.other j e];exact h.fz j o' hj
 ·unfold Fz.put
  rw[if_neg (by rintro rfl;exact hd ⟨id,c,hc,hj⟩)];exact h.apart id c j hc hj
 ·obtain⟨cur,e,fr,h1,h2⟩:=h.glob g cs hgc
  exact⟨cur,e,fr,Fz.vA o hl _ _ h1,bJ.more cs (Fz.vA o hl) h2⟩
theorem zEJ(h:WR P G β Φ b H w):¬live β H w.heap.size:=by
 rintro⟨id,c,h1,h2⟩;have:=h.lD h1 h2;omega
theorem zHG(h:WR P G β Φ b H w): Φ w.heap.size=none:=by
 cases hx: Φ w.heap.size with
 | none=>rfl
 | some x=>exact absurd (h.tJ hx) (by omega)
theorem zAH(hN:N<=65535){r:Option Nat}{n i:Nat}{ops:Array Oper}{o:Oper}{ao:AOper}{K:Act->World->Prop}{Q:Exit->Act->World->Prop}(hi:ops[i]? =some o)(hrs:RS P G N B ds β0 Φ0 H0 w0 κ β Φ env H a w)
  (hc:Comped P r ops o ao) {s t:Nat} (hao:ao.op=.hole s) (hgd:ao.guard=none) (hdst:ao.dst=some t) (ht:t<N) (hκ:κ t=none)
  (hK:∀β' Φ' v w' k,RS P G N B ds β0 Φ0 H0 w0 (Holes.set κ t (some (s,k))) β' Φ' (env.put t .undef) H (a.put o.dst v) w'->K (a.put o.dst v) w'):wpOpIn (gN r) n P ops Q i K a w:=by
 have hd:ao.dst=o.dst:=hc.dst (fun s v e=>by rw[e]at hao;cases hao);rw[hdst]at hd;unfold wpOpIn;simp only[hi];have hwt:gW env ao.guard=some true:=by rw[hgd];rfl
 rw[if_pos (pO hc.guard hwt hrs.er)];obtain⟨pol,hop⟩:=hc.op.resolve_right (fun⟨_,_,_,_,_,_,_,_,e,_⟩=>by rw[e]at hao;cases hao);have hop':eC P pol o.op=some (.hole s):=by
  cases hh:eC P pol o.op with
  | none=>rw[hh,hao]at hop;cases hop
  | some y=>rw[hh,hao]at hop;simpa using hop
 rcases Gd hop' rfl with⟨_,_,_,_,_,_,_,_,h⟩ | ⟨e,s',by_,zs,h1,h2,h3⟩ | ⟨_,_,h⟩
 ·cases h
 ·cases h3
  obtain⟨i,z,hi',hzz,_,_,hcz,_,_⟩:=oT h2;have hg:=Grow.alloc w (.cells z.cells e);obtain⟨g1,g2⟩:=hrs.ws.wr.grow hg;refine U4 (x:=.value (.pointer (some ⟨w.heap.size,0,none⟩))) (v:=.pointer (some ⟨w.heap.size,0,none⟩)) (w':=w.alloc (.cells z.cells e)) (Ms hop') ?_ (.inl rfl) (hK β Φ _ _ w.heap.size ?_)
  ·unfold execOp;rw[h1]
   have:=V9 (w:=w) hi' hzz;simp[Instr.alloc,this,newVar,newRow]
  ·have hsz:=hrs.size
   have hlt:t<65535:=by omega
   rw[← hd];refine⟨⟨g1,hrs.ws.ids⟩,(hrs.er.more hrs.eu g2.more).put hlt (by omega) (by trivial),hrs.eu.put hlt (.inl rfl),by rw[GJ];exact hsz,hrs.dfr,hrs.ext.trans g2,fun u s' k hk=>?_,fun u u' s1 s2 k hk hk'=>?_⟩
   ·unfold Holes.set at hk
    split at hk
    ·rename_i e';subst e';cases hk
     exact⟨ZE (by omega),⟨_,_,hg.new,hcz⟩,zEJ hrs.ws.wr,zHG hrs.ws.wr,hrs.ext.size⟩
    ·rename_i e';exact(hrs.hole u s' k hk).keep g2 (GK e')
   ·have hk1:∀u s',κ u=some (s',k)->k<w.heap.size:=fun u s' hk=>by
     obtain⟨_,_,hc,_⟩:=(hrs.hole u s' k hk).cells;exact(Array.getElem?_eq_some_iff.1 hc).1
    unfold Holes.set at hk hk';split at hk <;> split at hk'
    ·rename_i e1 e2;rw[e1,e2]
    ·cases hk;exact absurd (hk1 _ _ hk') (by omega)
    ·cases hk';exact absurd (hk1 _ _ hk) (by omega)
    ·exact hrs.inj u u' s1 s2 k hk hk'
 ·cases h
theorem zAJ(hN:N<=65535){r:Option Nat}{n i:Nat}{ops:Array Oper}{o:Oper}{ao:AOper}{K:Act->World->Prop}{Q:Exit->Act->World->Prop}(hi:ops[i]? =some o)(hrs:RS P G N B ds β0 Φ0 H0 w0 κ β Φ env H a w)
  (hc:Comped P r ops o ao) {s t k:Nat} {x:Fil} (hao:ao.op=.fill s x) (hbx:x.box=none) (hgd:ao.guard=none) (hdst:ao.dst=some t) (ht:t<N) (hκ:κ t=some (s,k)) {d:D} {H':aA} (hrun:bD G b call env H ao=some (d,H'))
  (hK:∀ Φ' v w',RS P G N B ds β0 Φ0 H0 w0 (Holes.set κ t none) β Φ' (env.put t d) H' (a.put o.dst v) w'->K (a.put o.dst v) w'):wpOpIn (gN r) n P ops Q i K a w:=by
 obtain⟨hd,ty,t',y,hop,hdst',hsz,hy⟩:=hc.fill s x hao;rw[hdst]at hdst';cases hdst';unfold wpOpIn;simp only[hi];have hwt:gW env ao.guard=some true:=by rw[hgd];rfl
 rw[if_pos (pO hc.guard hwt hrs.er)];unfold bD at hrun;rw[hwt,hao]at hrun;simp only[step,hbx]at hrun;split at hrun
 ·rename_i hh
  cases hrun
  obtain⟨hlen,hun,hon⟩:=hh;have hv:=VR.cells hon (bH hrs.ws.wr hrs.er hy);have hl:(a.eval y).cells.size=s:=by rw[← hlen, ← aE.length hv];simp
  have hho:=hrs.hole t s k hκ;obtain⟨cur,e,hcell,hcs⟩:=hho.cells;have hrun:=run_storeCells_at P k 0 e (a.eval y).cells.toList 0 cur w hcell (by simp;omega) (sV hon hv);simp only[Nat.add_zero,Nat.zero_add]at hrun;have hturn:=uO w k cur (cur.toList.take 0++(a.eval y).cells.toList++cur.toList.drop (a.eval y).cells.toList.length).toArray e (0,0) hcell;have harr:(cur.toList.take 0++(a.eval y).cells.toList++cur.toList.drop (a.eval y).cells.toList.length).toArray=(a.eval y).cells:=by
   rw[List.drop_of_length_le (by simp;omega)];simp
  rw[harr]at hturn hrun;have hst:=W0 (v:=a.eval y) hsz hl hrun;refine U4 (x:=.skip) (v:=undef) (w':=w.setRow k (a.eval y).cells) (fun c=>by rw[hop];simp) ?_ (.inr ⟨rfl,rfl⟩) (hK (Fz.put Φ k (.cells (a.eval y).cells e (0,0))) _ _ ?_)
  ·unfold execOp;rw[hop]
   have ht':a.eval (.tmp t)=.pointer (some ⟨k,0,none⟩):=hho.tmp;simp[ht',hst]
  ·rw[hd]
   have hm:=Fz.vA (Obj.cells (a.eval y).cells e (0,0)) hho.loose;have hmore:More H.length β Φ β (Fz.put Φ k (.cells (a.eval y).cells e (0,0))):=⟨fun _ _ _ _ h=>h,fun _ _ h=>h,hm⟩;have hsize:=hrs.size;have hlt:t<65535:=by omega
   have hvd:VR (.fptr (aI G env x.arg).cells) β (Fz.put Φ k (.cells (a.eval y).cells e (0,0))) (a.tmps.getD t undef):=by
    simp only[VR];refine⟨⟨k,0,none⟩,hho.tmp,.inr ⟨(a.eval y).cells,e,(0,0),by simp[Fz.put],rfl,?_⟩⟩;refine U1 (aE.more _ (D.dI _ (Nat.zero_le _) hun) hmore hv) hun (fun j u hj=>?_);simpa using hj
   have her:ER β (Fz.put Φ k (.cells (a.eval y).cells e (0,0))) env a.tmps:=hrs.er.more hrs.eu hmore;refine⟨⟨hrs.ws.wr.freeze hturn hho.dead hho.loose,hrs.ws.ids⟩,?_,hrs.eu.put hlt (.inr rfl),hsize,hrs.dfr,?_,fun u s' k' hk=>?_,fun u u' s1 s2 k' hk hk'=>?_⟩
   ·intro u
    rw[Env.vB u _ hlt];split
    ·rename_i e';subst e';exact hvd
    ·exact her u
   ·have hx:=hrs.ext
    refine⟨⟨hx.more.some,hx.more.none,fun b o hb=>hm _ _ (hx.more.fz b o hb)⟩,hx.len,hturn.os.trans hx.os,hturn.tape.trans hx.tape,hturn.output.trans hx.output,by rw[hturn.size];exact hx.size,fun j hj hl=>?_,hx.fresh,fun j o' hj=>?_⟩
    ·rw[hturn.other j (by have:=hho.new;omega)];exact hx.same j hj hl
    ·unfold Fz.put at hj
     split at hj
     ·rename_i e';subst e';exact .inr (.inr hho.new)
     ·exact hx.fzn j o' hj
   ·unfold Holes.set at hk
    split at hk
    ·cases hk
    ·rename_i e'
     have h1:=hrs.hole u s' k' hk;have hne:k'≠k:=fun e2=>e' (hrs.inj u t s' s k (e2 ▸ hk) hκ)
     obtain⟨c1,c2,c3,c4⟩:=h1.cells;exact⟨h1.tmp,⟨c1,c2,by rw[hturn.other k' hne];exact c3,c4⟩,h1.dead,by unfold Fz.put;rw[if_neg hne];exact h1.loose,h1.new⟩
   ·unfold Holes.set at hk hk'
    split at hk
    ·cases hk
    ·split at hk'
     ·cases hk'
     ·exact hrs.inj u u' s1 s2 k' hk hk'
 ·cases hrun
theorem WR.zNb(h:WR P G β Φ b H w){w':World}{k cap:Nat}{o:Obj}(ht:Turn w w' k o)(hd:¬live β H k)(hl: Φ k=none){c:Chunk}
  (hc:uF P (Bk.put β H.length 0 (k,cap)) Φ w' H.length c) (hb:c.blk (Bk.put β H.length 0 (k,cap)) H.length=some k) (hu:c.aD (H.length+1)):
  WR P G (Bk.put β H.length 0 (k,cap)) Φ b (H++[c]) w'∧More H.length β Φ (Bk.put β H.length 0 (k,cap)) Φ ∧(∀j,live (Bk.put β H.length 0 (k,cap)) (H++[c]) j->live β H j∨j=k):=by
 have hold:∀i u,i<H.length->Bk.put β H.length 0 (k,cap) i u=β i u:=fun i u hi=>Bk.kJ (by omega)
 have hm:More H.length β Φ (Bk.put β H.length 0 (k,cap)) Φ :=
  ⟨fun id u x hi hx=>by rw[hold id u hi];exact hx,fun id hi hx=>by rw[hold id 0 hi];exact hx,fun _ _ h=>h⟩
 have hbl:∀id (c:Chunk),H[id]? =some c->c.blk (Bk.put β H.length 0 (k,cap)) id=c.blk β id:=fun id c hc=>by
  cases c <;> simp[Chunk.blk,hold _ _ (gZ hc)]
 refine⟨⟨fun id c' hc'=>?_,fun j o' hj=>?_,fun id c' j hc' hj=>?_,fun id c' id' c'' j hc' hc'' hj hj'=>?_,fun id u hi=>?_,?_,fun id c' hc'=>?_,h.glob⟩,hm,?_⟩
 ·rcases gU hc' with h1 | ⟨h1,h2⟩
  ·refine(h.ch id c' h1).more (h.aD h1) (gZ h1) hm (fun u=>hold id u (gZ h1)) (fun j hj=>ht.other j ?_)
   rintro rfl;exact hd ⟨id,c',h1,hj⟩
  ·subst h1;subst h2;exact hc
 ·rw[ht.other j (by rintro rfl;rw[hl]at hj;cases hj)];exact h.fz j o' hj
 ·rcases gU hc' with h1 | ⟨h1,h2⟩
  ·rw[hbl id c' h1]at hj;exact h.apart id c' j h1 hj
  ·subst h1;subst h2;rw[hb]at hj;cases hj;exact hl
 ·rcases gU hc' with h1 | ⟨h1,h2⟩ <;> rcases gU hc'' with g1 | ⟨g1,g2⟩
  ·rw[hbl id c' h1]at hj;rw[hbl id' c'' g1]at hj';exact h.inj id c' id' c'' j h1 g1 hj hj'
  ·subst g1;subst g2;rw[hb]at hj';cases hj';rw[hbl id c' h1]at hj;exact absurd ⟨id,c',h1,hj⟩ hd
  ·subst h1;subst h2;rw[hb]at hj;cases hj;rw[hbl id' c'' g1]at hj';exact absurd ⟨id',c'',g1,hj'⟩ hd
  ·rw[h1,g1]
 ·simp only[List.length_append,List.length_singleton]at hi
  rw[Bk.kJ (by omega)];exact h.dom id u (by omega)
 ·have:=h.base;simp;omega
 ·rcases gU hc' with h1 | ⟨h1,h2⟩
  ·have:=h.ids id c' h1
   split
   ·rename_i h3;rwa [if_pos h3]at this
   ·rename_i h3;rw[if_neg h3]at this;exact Chunk.dI (by simp) this
  ·subst h2
   have:=h.base;rw[if_neg (by omega)];simpa using hu
 ·rintro j ⟨id,c',h1,h2⟩
  rcases gU h1 with g1 | ⟨g1,g2⟩
  ·rw[hbl id c' g1]at h2;exact .inl ⟨id,c',g1,h2⟩
  ·subst g1;subst g2;rw[hb]at h2;cases h2;exact .inr rfl
theorem zAI(hN:N<=65535){r:Option Nat}{n i:Nat}{ops:Array Oper}{o:Oper}{ao:AOper}{K:Act->World->Prop}{Q:Exit->Act->World->Prop}(hi:ops[i]? =some o)(hrs:RS P G N B ds β0 Φ0 H0 w0 κ β Φ env H a w)
  (hc:Comped P r ops o ao) {s t k:Nat} {x:Fil} {res:List (Nat×Nat)} (hao:ao.op=.fill s x) (hbx:x.box=some res) (hgd:ao.guard=none) (hdst:ao.dst=some t) (ht:t<N) (hκ:κ t=some (s,k)) {d:D} {H':aA} (hrun:bD G b call env H ao=some (d,H'))
  (hK:∀β' Φ' v w',RS P G N B ds β0 Φ0 H0 w0 (Holes.set κ t none) β' Φ' (env.put t d) H' (a.put o.dst v) w'->K (a.put o.dst v) w'):wpOpIn (gN r) n P ops Q i K a w:=by
 obtain⟨hd,ty,t',y,hop,hdst',hsz,hy⟩:=hc.fill s x hao;rw[hdst]at hdst';cases hdst';unfold wpOpIn;simp only[hi];have hwt:gW env ao.guard=some true:=by rw[hgd];rfl
 rw[if_pos (pO hc.guard hwt hrs.er)];unfold bD at hrun;rw[hwt,hao]at hrun;simp only[step,hbx]at hrun;split at hrun
 ·rename_i hlen
  split at hrun
  ·rename_i H1 cs hr
   split at hrun
   ·rename_i hst
    cases hrun
    have ho':D.aF cs=true:=by simp only[storable,Bool.and_eq_true]at hst;exact hst.2
    have ho:=X5 hr ho';have hun:D.aD H.length (aI G env x.arg).cells=true:=by
     rcases hJ (G:=G) hrs.eu hy with hun | hun
     ·rw[hun]at ho;simp[D.cells,D.aF,D.one]at ho
     ·exact D.Gi hun
    have hv:=VR.cells ho (bH hrs.ws.wr hrs.er hy);obtain⟨w1,w2,w3,w4,w5⟩:=E5 hrs.ws.wr hv hun ho hr;have hids:∀b',B b'->iB b' H1:=fun b' hb'=>(E5 (hrs.ws.wr.Y3 (hrs.ws.ids b' hb')) hv hun ho hr).1.JG
    have hl:(a.eval y).cells.size=s:=by rw[← hlen, ← aE.length hv];simp
    have hho0:=hrs.hole t s k hκ;have hho:=hho0.keep w2 (tmps':=a.tmps) rfl;obtain⟨cur,e,hcell,hcs⟩:=hho.cells;have hrun:=run_storeCells_at P k 0 e (a.eval y).cells.toList 0 cur w hcell (by simp;omega) (sV ho hv);simp only[Nat.add_zero,Nat.zero_add]at hrun;have hturn:=uO w k cur (cur.toList.take 0++(a.eval y).cells.toList++cur.toList.drop (a.eval y).cells.toList.length).toArray e (0,0) hcell;have harr:(cur.toList.take 0++(a.eval y).cells.toList++cur.toList.drop (a.eval y).cells.toList.length).toArray=(a.eval y).cells:=by
     rw[List.drop_of_length_le (by simp;omega)];simp
    rw[harr]at hturn hrun;have hsto:=W0 (v:=a.eval y) hsz hl hrun;have hm0:More H1.length β Φ (Bk.put β H1.length 0 (k,0)) Φ :=
     ⟨fun id u x hi hx=>by rw[Bk.kJ (by omega)];exact hx,fun id hi hx=>by rw[Bk.kJ (by omega)];exact hx,fun _ _ h=>h⟩
    have hcu:(Chunk.box cs).aD (H1.length+1):=D.dI _ (Nat.le_succ _) w4;obtain⟨g1,g2,g3⟩:=w1.zNb (cap:=0) hturn hho.dead hho.loose (c:=.box cs) ⟨w5,k,0,_,e,Bk.fZ _ _ _ _,hturn.here,aE.more cs w4 hm0 w3⟩ (by simp[Chunk.blk,Bk.fZ]) hcu;refine U4 (x:=.skip) (v:=undef) (w':=w.setRow k (a.eval y).cells) (fun c=>by rw[hop];simp) ?_ (.inr ⟨rfl,rfl⟩) (hK (Bk.put β H1.length 0 (k,0)) Φ _ _ ?_)
    ·unfold execOp;rw[hop]
     have ht':a.eval (.tmp t)=.pointer (some ⟨k,0,none⟩):=hho.tmp;simp[ht',hsto]
    ·rw[hd]
     have hsize:=hrs.size;have hlt:t<65535:=by omega
     have her:ER (Bk.put β H1.length 0 (k,0)) Φ env a.tmps:=(hrs.er.more hrs.eu w2.more).more (hrs.eu.le w2.len) g2;have hx:=hrs.ext.trans w2;refine⟨⟨g1,fun b' hb'=>(hids b' hb').append hcu⟩,?_,(hrs.eu.le (by simp;have:=w2.len;omega)).put hlt (.inr (by simp[D.under,Nat.blt_eq])),hsize,hrs.dfr,?_,fun u s' k' hk=>?_,fun u u' s1 s2 k' hk hk'=>?_⟩
     ·intro u
      rw[Env.vB u _ hlt];split
      ·rename_i e';subst e'
       simp only[VR];exact⟨k,0,Bk.fZ _ _ _ _,hho.tmp⟩
      ·exact her u
     ·refine⟨hx.more.trans hx.len g2,by simp;have:=hx.len;omega,hturn.os.trans hx.os,hturn.tape.trans hx.tape,hturn.output.trans hx.output,by rw[hturn.size];exact hx.size,fun j hj hl=>?_,fun j hj=>?_,fun j o' hj=>hx.fzn j o' hj⟩
      ·rw[hturn.other j (by have:=hho.new;omega)];exact hx.same j hj hl
      ·rcases g3 j hj with h1 | rfl
       ·exact hx.fresh j h1
       ·exact .inr hho.new
     ·unfold Holes.set at hk
      split at hk
      ·cases hk
      ·rename_i e'
       have h1:=(hrs.hole u s' k' hk).keep w2 (tmps':=a.tmps) rfl;have hne:k'≠k:=fun e2=>e' (hrs.inj u t s' s k (e2 ▸ hk) hκ)
       obtain⟨c1,c2,c3,c4⟩:=h1.cells;refine⟨h1.tmp,⟨c1,c2,by rw[hturn.other k' hne];exact c3,c4⟩,fun hl=>?_,h1.loose,h1.new⟩;rcases g3 k' hl with h2 | h2
       ·exact h1.dead h2
       ·exact hne h2
     ·unfold Holes.set at hk hk'
      split at hk
      ·cases hk
      ·split at hk'
       ·cases hk'
       ·exact hrs.inj u u' s1 s2 k' hk hk'
   ·cases hrun
  ·cases hrun
 ·cases hrun
end
end Go.AM
namespace Go.AM
def Pd(p:List (Nat×Nat))(κ:Nat->Option (Nat×Nat)):Prop:=∀t,(κ t).map (·.1)=eV p t
theorem yB(t s u:Nat)(p:List (Nat×Nat)):eV ((t,s)::p) u=if u=t then some s else eV p u:=by
 simp only[eV,Nat.beq_eq];by_cases h:t=u
 ·subst h;simp
 ·rw[if_neg h,if_neg (fun e=>h e.symm)]
theorem F6:∀(p:List (Nat×Nat)) (t u:Nat),eV (sS p t) u=if u=t then none else eV p u
 | [],t,u=>by simp[sS,eV]
 | (x,s)::r,t,u=>by
  simp only[sS,Nat.beq_eq];by_cases h:x=t
  ·rw[if_pos h,F6 r t u,yB]
   subst h;by_cases hu:u=x
   ·simp[hu]
   ·simp[hu]
  ·rw[if_neg h,yB,yB,F6 r t u]
   by_cases hu:u=x
   ·subst hu;rw[if_pos rfl,if_neg h];simp
   ·rw[if_neg hu,if_neg hu]
theorem Pd.hole {p:List (Nat×Nat)}{κ:Nat->Option (Nat×Nat)}(h:Pd p κ)(t s k:Nat):Pd ((t,s)::p) (Holes.set κ t (some (s,k))):=by
 intro u;rw[yB];unfold Holes.set;by_cases hu:u=t
 ·rw[if_pos hu,if_pos hu];rfl
 ·rw[if_neg hu,if_neg hu];exact h u
theorem Pd.fill {p:List (Nat×Nat)}{κ:Nat->Option (Nat×Nat)}(h:Pd p κ)(t:Nat):Pd (sS p t) (Holes.set κ t none):=by
 intro u;rw[F6];unfold Holes.set;by_cases hu:u=t
 ·rw[if_pos hu,if_pos hu];rfl
 ·rw[if_neg hu,if_neg hu];exact h u
theorem Pd.none {p:List (Nat×Nat)}{κ:Nat->Option (Nat×Nat)}(h:Pd p κ){t:Nat}(hp:(eV p t).isNone=true):κ t=none:=by
 have:=h t;rw[Option.isNone_iff_eq_none]at hp;rw[hp]at this;simpa using this
theorem Pd.some {p:List (Nat×Nat)}{κ:Nat->Option (Nat×Nat)}(h:Pd p κ){t s:Nat}(hp:eV p t=some s):∃k,κ t=some (s,k):=by
 have:=h t;rw[hp]at this
 cases hk:κ t with
 | none=>rw[hk]at this;cases this
 | some x=>rw[hk]at this;simp at this;exact⟨x.2,by rw[← this]⟩
theorem wF {o:AOper}{N:Nat}(h:o.fits N=true){t:Nat}(ht:o.dst=some t):t<N:=by
 unfold AOper.fits at h;rw[ht]at h;simpa [Nat.blt_eq]using h
section
variable {P:Program}{G:Nat->Option (List D)}{β:Bk}{Φ :Fz}{b N:Nat}{B:Nat->Prop}{ds:List Deferred}{β0:Bk}{Φ0 :Fz}{H0 H:aA}{w0 w:World}{κ:Nat->Option (Nat×Nat)}{env:Env}{a:Act}{call:cT}
theorem zHj {o:AOper}{s:Nat}(ho:o.op=.hole s)(hg:o.guard=none){d:D}{H':aA}(h:bD G b call env H o=some (d,H')):d=.undef∧H'=H:=by
 unfold bD at h;rw[hg,ho]at h;simp only[gW,step]at h
 cases h;exact⟨rfl,rfl⟩
theorem zMW {o:AOper}{d:D}{H':aA}(ho:o.op=.bad)(h:bD G b call env H o=some (d,H')):d=.tup []∧H'=H∧gW env o.guard=some false:=by
 unfold bD at h;split at h
 ·rw[ho]at h;simp[step]at h
 ·rename_i hw;cases h;exact⟨rfl,rfl,hw⟩
 ·cases h
theorem zAF(hN:N<=65535){r:Option Nat}{n i:Nat}{ops:Array Oper}{o:Oper}{ao:AOper}{K:Act->World->Prop}{Q:Exit->Act->World->Prop}(hi:ops[i]? =some o)(hrs:RS P G N B ds β0 Φ0 H0 w0 κ β Φ env H a w)
  (hc:Comped P r ops o ao) (hdst:ao.dst=o.dst) (hd:∀t,ao.dst=some t->t<N∧κ t=none) (hwt:gW env ao.guard=some false)
  (hK:∀β' Φ' v w',RS P G N B ds β0 Φ0 H0 w0 κ β' Φ' (bS env ao.dst (.tup [])) H (a.put o.dst v) w'->K (a.put o.dst v) w'):wpOpIn (gN r) n P ops Q i K a w:=by
 rw[hdst]at hd hK;unfold wpOpIn;simp only[hi];rw[if_neg (by rw[pO hc.guard hwt hrs.er];simp)];exact⟨fun _ _=>trivial,hK β Φ undef w (hrs.next hN (xG _ _) hrs.ws (Ext.refl _ _ _ _) (.inr rfl) hd)⟩
theorem Z4(hN:N<=65535)(hsim:qQ P G call){r:Option Nat}{n i:Nat}{ops:Array Oper}{o:Oper}{ao:AOper}{K:Act->World->Prop}{Q:Exit->Act->World->Prop}(hi:ops[i]? =some o)(hrs:RS P G N B ds β0 Φ0 H0 w0 κ β Φ env H a w)(hb:B b)(hB:∀b',B b'->b'<=b)
  (hc:Comped P r ops o ao) (hf:ao.fits N=true) {d:D} {H':aA} (hrun:bD G b call env H ao=some (d,H'))
  (hh:∀s,ao.op=.hole s->ao.guard=none∧∃t,ao.dst=some t∧κ t=none)
  (hfl:∀s x,ao.op=.fill s x->ao.guard=none∧∃t k,ao.dst=some t∧κ t=some (s,k))
  (hel:(∀s,ao.op≠ .hole s)->(∀s x,ao.op≠ .fill s x)->∀t,ao.dst=some t->κ t=none)
  (hK:∀β' Φ' κ' a' w',RS P G N B ds β0 Φ0 H0 w0 κ' β' Φ' (bS env ao.dst d) H' a' w'->
   (∀s t,ao.op=.hole s->ao.dst=some t->∃k,κ'=Holes.set κ t (some (s,k)))->(∀s x t,ao.op=.fill s x->ao.dst=some t->κ'=Holes.set κ t none)->((∀s,ao.op≠ .hole s)->(∀s x,ao.op≠ .fill s x)->κ'=κ)->
   K a' w'):wpOpIn (gN r) n P ops Q i K a w:=by
 have plain:(∀s,ao.op≠ .hole s)->(∀s x,ao.op≠ .fill s x)->∀β' Φ' v w',RS P G N B ds β0 Φ0 H0 w0 κ β' Φ' (bS env ao.dst d) H' (a.put o.dst v) w'->K (a.put o.dst v) w':=
  fun h1 h2 β' Φ' v w' hr=>hK β' Φ' κ _ w' hr (fun s t e=>absurd e (h1 s)) (fun s x t e=>absurd e (h2 s x)) (fun _ _=>rfl)
 have hd:(∀s,ao.op≠ .hole s)->(∀s x,ao.op≠ .fill s x)->∀t,ao.dst=some t->t<N∧κ t=none:=fun h1 h2 t ht=>⟨wF hf ht,hel h1 h2 t ht⟩
 cases hop:ao.op
 case hole s=>
  obtain⟨hg,t,ht,hκ⟩:=hh s hop;obtain⟨rfl,rfl⟩:=zHj hop hg hrun;refine zAH hN hi hrs hc hop hg ht (wF hf ht) hκ fun β' Φ' v w' k hr=>?_
  refine hK β' Φ' _ _ w' (by rw[ht];exact hr) (fun s' t' e1 e2=>?_) (fun s' x t' e=>by rw[hop]at e;cases e) (fun h=>absurd hop (h s));rw[hop]at e1;cases e1;rw[ht]at e2;cases e2;exact⟨k,rfl⟩
 case fill s x=>
  obtain⟨hg,t,k,ht,hκ⟩:=hfl s x hop
  cases hbx:x.box with
  | none=>
   have hH:H'=H:=by
    unfold bD at hrun;rw[hg,hop]at hrun;simp only[gW,step,hbx]at hrun;split at hrun
    ·cases hrun;rfl
    ·cases hrun
   subst hH;refine zAJ hN hi hrs hc hop hbx hg ht (wF hf ht) hκ hrun fun Φ' v w' hr=>?_
   refine hK β Φ' _ _ w' (by rw[ht];exact hr) (fun s' t' e=>by rw[hop]at e;cases e) (fun s' x' t' e1 e2=>?_) (fun _ h=>absurd hop (h s x));rw[ht]at e2;cases e2;rfl
  | some res=>
   refine zAI hN hi hrs hc hop hbx hg ht (wF hf ht) hκ hrun fun β' Φ' v w' hr=>?_
   refine hK β' Φ' _ _ w' (by rw[ht];exact hr) (fun s' t' e=>by rw[hop]at e;cases e) (fun s' x' t' e1 e2=>?_) (fun _ h=>absurd hop (h s x));rw[ht]at e2;cases e2;rfl
 case call f as=>
  have h1:∀s,ao.op≠ .hole s:=fun s e=>by rw[hop]at e;cases e
  have h2:∀s x,ao.op≠ .fill s x:=fun s x e=>by rw[hop]at e;cases e
  exact zAL hN hsim hi hrs hc hop (hd h1 h2) hrun (plain h1 h2)
 case dfrop f x=>
  have h1:∀s,ao.op≠ .hole s:=fun s e=>by rw[hop]at e;cases e
  have h2:∀s x,ao.op≠ .fill s x:=fun s x e=>by rw[hop]at e;cases e
  exact zAK hN hi hrs hc hop (hd h1 h2) hrun (fun β' Φ' a' w' hr=>hK β' Φ' κ a' w' hr (fun s t e=>absurd e (h1 s)) (fun s x t e=>absurd e (h2 s x)) (fun _ _=>rfl))
 case bad=>
  have h1:∀s,ao.op≠ .hole s:=fun s e=>by rw[hop]at e;cases e
  have h2:∀s x,ao.op≠ .fill s x:=fun s x e=>by rw[hop]at e;cases e
  obtain⟨rfl,rfl,hw⟩:=zMW hop hrun;exact zAF hN hi hrs hc (hc.dst h2) (hd h1 h2) hw (plain h1 h2)
 all_goals
  have h1:∀s,ao.op≠ .hole s:=fun s e=>by rw[hop]at e;cases e
  have h2:∀s x,ao.op≠ .fill s x:=fun s x e=>by rw[hop]at e;cases e
  exact zAG hN hi hrs hb hB hc (by rw[hop];rfl) (hd h1 h2) hrun (plain h1 h2)
theorem Mt {rr:Option Nat}{pol:Nat->Option Pol}(hq:∀i f,pol i=some (.quiet f)->rr=none∧Quiet P f){ops:Array Oper}{i:Nat}{o:Oper}{r:List Oper}{l:List AOper}(h:lC P pol ops i (o::r)=some l):
  ∃x xs,l=x::xs∧Comped P rr ops o x∧lC P pol ops (i+1) r=some xs:=by
 simp only[lC]at h;split at h
 ·rename_i x hx
  split at h
  ·rename_i xs hxs
   cases h
   exact⟨x,xs,rfl,zJF (hq i) hx,hxs⟩
  ·cases h
 ·cases h
theorem WD(hN:N<=65535)(hsim:qQ P G call){r:Option Nat}{n:Nat}{ops:Array Oper}{Q:Exit->Act->World->Prop}(hb:B b)(hB:∀b',B b'->b'<=b){pol:Nat->Option Pol}(hq:∀i f,pol i=some (.quiet f)->r=none∧Quiet P f):
  ∀(os:List Oper) (j:Nat) (as:List AOper) (p:List (Nat×Nat)) (κ:Nat->Option (Nat×Nat)) (β:Bk) (Φ :Fz) (env:Env) (H:aA) (a:Act) (w:World) (env':Env) (H':aA),
   ops.toList.drop j=os->lC P pol ops j os=some as->nA p as=true->L5 N as=true->RS P G N B ds β0 Φ0 H0 w0 κ β Φ env H a w->Pd p κ->eU G b call as env H=some (env',H')->
   (∀β' Φ' κ' a' w',RS P G N B ds β0 Φ0 H0 w0 κ' β' Φ' env' H' a' w'->Q .normal a' w')->wpOpsIn (gN r) n P ops Q (List.range' j os.length) a w:=by
 intro os
 induction os with
 | nil=>
  intro j as p κ β Φ env H a w env' H' _ hc _ _ hrs _ hrun hQ;simp[lC]at hc;subst hc;simp[eU]at hrun;obtain⟨rfl,rfl⟩:=hrun;exact hQ _ _ _ _ _ hrs
 | cons o os ih=>
  intro j as p κ β Φ env H a w env' H' hdrop hc hp hf hrs hpd hrun hQ;obtain⟨x,xs,rfl,hcx,hcxs⟩:=Mt hq hc;simp only[L5,Bool.and_eq_true]at hf;have hi:ops[j]? =some o:=by
   have:=congrArg (fun l=>l[0]?) hdrop;simpa using this
  have hdrop':ops.toList.drop (j+1)=os:=by
   have:=congrArg (fun l=>l.drop 1) hdrop;simpa [List.drop_drop,Nat.add_comm]using this
  simp only[eU]at hrun;split at hrun
  ·rename_i d H1 hr1
   rw[List.length_cons,List.range'_succ,wpOpsIn_cons];simp only[nA]at hp;split at hp
   ·rename_i s hop
    split at hp
    ·rename_i t ht
     simp only[Bool.and_eq_true]at hp;obtain⟨⟨p1,p2⟩,p3⟩:=hp;refine Z4 hN hsim hi hrs hb hB hcx hf.1 hr1 (fun s' e=>⟨by simpa using p1,t,ht,hpd.none p2⟩) (fun s' x' e=>by rw[hop]at e;cases e) (fun h=>absurd hop (h s)) fun β' Φ' κ' a' w' hr k1 k2 k3=>?_
     obtain⟨k,rfl⟩:=k1 s t hop ht;exact ih (j+1) xs _ _ β' Φ' _ H1 _ w' env' H' hdrop' hcxs p3 hf.2 hr (hpd.hole t s k) hrun hQ
    ·cases hp
   ·rename_i s x' hop
    split at hp
    ·rename_i t ht
     simp only[Bool.and_eq_true]at hp;obtain⟨⟨p1,p2⟩,p3⟩:=hp;split at p2
     ·rename_i s' hs'
      have:s'=s:=by simpa [Nat.beq_eq]using p2
      subst this;obtain⟨k,hk⟩:=hpd.some hs';refine Z4 hN hsim hi hrs hb hB hcx hf.1 hr1 (fun s' e=>by rw[hop]at e;cases e) (fun s'' x'' e=>?_) (fun _ h=>absurd hop (h _ _)) fun β' Φ' κ' a' w' hr k1 k2 k3=>?_
      ·rw[hop]at e;cases e;exact⟨by simpa using p1,t,k,ht,hk⟩
      ·have:=k2 s' x' t hop ht
       subst this;exact ih (j+1) xs _ _ β' Φ' _ H1 _ w' env' H' hdrop' hcxs p3 hf.2 hr (hpd.fill t) hrun hQ
     ·cases p2
    ·cases hp
   ·rename_i hn1 hn2
    simp only[Bool.and_eq_true]at hp;obtain⟨p1,p2⟩:=hp;refine Z4 hN hsim hi hrs hb hB hcx hf.1 hr1 (fun s e=>absurd e (hn1 s)) (fun s x' e=>absurd e (hn2 s x')) (fun _ _ t ht=>?_) fun β' Φ' κ' a' w' hr k1 k2 k3=>?_
    ·rw[ht]at p1;exact hpd.none p1
    ·have:=k3 hn1 hn2
     subst this;exact ih (j+1) xs _ _ β' Φ' _ H1 _ w' env' H' hdrop' hcxs p2 hf.2 hr hpd hrun hQ
  ·cases hrun
theorem XZ(hN:N<=65535)(hsim:qQ P G call){r:Option Nat}{n id:Nat}{ops:Array Oper}{Q:Exit->Act->World->Prop}(hb:B b)(hB:∀b',B b'->b'<=b){pol:Nat->Option Pol}(hq:∀i f,pol i=some (.quiet f)->r=none∧Quiet P f){as:List AOper}
  (hc:lC P pol ops 0 ops.toList=some as) (hp:nA [] as=true) (hf:L5 N as=true) (hrs:RS P G N B ds β0 Φ0 H0 w0 (fun _=>none) β Φ env H a w) {env':Env} {H':aA} (hrun:eU G b call as env H=some (env',H'))
  (hQ:∀β' Φ' κ' a' w',RS P G N B ds β0 Φ0 H0 w0 κ' β' Φ' env' H' a' w'->Q .normal a' w'):(Code.region id ops false).wpIn (gN r) n P Q a w:=by
 refine wpIn_region ?_;rw[List.range_eq_range'];have:=WD hN hsim (r:=r) (n:=n) (ops:=ops) (Q:=Q) hb hB hq ops.toList 0 as [] (fun _=>none) β Φ env H a w env' H' (by simp) hc hp hf hrs (fun _=>rfl) hrun hQ;simpa using this
end
end Go.AM
namespace Go.AM
mutual
theorem D.beq_eq:∀(x y:D),x.beq y=true->x=y
 | .undef,y,h=>by cases y <;> simp[D.beq]at h ⊢
 | .bool a,y,h=>by cases y <;> simp[D.beq]at h ⊢;exact h
 | .int k a,y,h=>by cases y <;> simp[D.beq]at h ⊢;exact h
 | .str a,y,h=>by cases y <;> simp[D.beq]at h ⊢;exact h
 | .nilp,y,h=>by cases y <;> simp[D.beq]at h ⊢
 | .nilsl,y,h=>by cases y <;> simp[D.beq]at h ⊢
 | .nilf,y,h=>by cases y <;> simp[D.beq]at h ⊢
 | .esl,y,h=>by cases y <;> simp[D.beq]at h ⊢
 | .fptr a,y,h=>by cases y <;> simp[D.beq]at h ⊢;exact D.tR _ _ h
 | .fsl a n,y,h=>by cases y <;> simp[D.beq]at h ⊢;exact⟨D.tR _ _ h.2,h.1⟩
 | .ptr a o,y,h=>by cases y <;> simp[D.beq]at h ⊢;exact h
 | .rptr a g o,y,h=>by cases y <;> simp[D.beq]at h ⊢;exact⟨h.1.1,h.1.2,h.2⟩
 | .osl a g o n,y,h=>by cases y <;> simp[D.beq]at h ⊢;exact⟨h.1.1.1,h.1.1.2,h.1.2,h.2⟩
 | .func f a c,y,h=>by cases y <;> simp[D.beq]at h ⊢;exact⟨h.1.1,D.tR _ _ h.1.2,D.tR _ _ h.2⟩
 | .yield a,y,h=>by cases y <;> simp[D.beq]at h ⊢;exact h
 | .mp a,y,h=>by cases y <;> simp[D.beq]at h ⊢;exact h
 | .agg a,y,h=>by cases y <;> simp[D.beq]at h ⊢;exact D.tR _ _ h
 | .tup a,y,h=>by cases y <;> simp[D.beq]at h ⊢;exact D.tR _ _ h
 | .sym _ _,y,h=>by cases y <;> simp[D.beq]at h ⊢;exact h
theorem D.tR:∀(x y:List D),D.kQ x y=true->x=y
 | [],y,h=>by cases y <;> simp[D.kQ]at h ⊢
 | a::as,y,h=>by
  cases y with
  | nil=>simp[D.kQ]at h
  | cons b bs=>
   simp only[D.kQ,Bool.and_eq_true]at h;rw[D.beq_eq a b h.1,D.tR as bs h.2]
end
def mI(l:List Nat)(e e':Env):Prop:=∀t∈l,e.get t=e'.get t
section
variable {G:Nat->Option (List D)}{b:Nat}{call:cT}{e e':Env}{H:aA}
theorem bR {x:Arg}{l:List Nat}(h:mI (x.reads l) e e'):aI G e x=aI G e' x∧mI l e e':=by
 cases x with
 | t i=>exact⟨h i (by simp[Arg.reads]),fun t ht=>h t (by simp[Arg.reads,ht])⟩
 | c d=>exact⟨rfl,h⟩
 | g n=>exact⟨rfl,h⟩
theorem xY {l:List Nat}:∀ {xs:List Arg},mI (E9 l xs) e e'->fM G e xs=fM G e' xs∧mI l e e'
 | [],h=>⟨rfl,h⟩
 | x::r,h=>by
  obtain⟨h1,h2⟩:=bR (G:=G) h;obtain⟨h3,h4⟩:=xY h2;exact⟨by simp only[fM,h1,h3],h4⟩
theorem Y4 {l:List Nat}:∀ {xs:List (Nat×Nat×Arg)},mI (Hm l xs) e e'->gK G e xs=gK G e' xs∧mI l e e'
 | [],h=>⟨rfl,h⟩
 | (_,_,x)::r,h=>by
  obtain⟨h1,h2⟩:=bR (G:=G) h;obtain⟨h3,h4⟩:=Y4 h2;exact⟨by simp only[gK,h1,h3],h4⟩
theorem E8 {l:List Nat}{x:Option Arg}(h:mI (xZ l x) e e'):cZ G e x=cZ G e' x∧mI l e e':=by
 cases x with
 | none=>exact⟨rfl,h⟩
 | some x=>
  obtain⟨h1,h2⟩:=bR (G:=G) h;exact⟨by simp only[cZ,h1],h2⟩
theorem TI {ao:AOp}{l:List Nat}(h:mI (ao.reads l) e e'):step G b call e H ao=step G b call e' H ao∧mI l e e':=by
 cases ao
 case resv=>exact⟨rfl,h⟩
 case allocB=>exact⟨rfl,h⟩
 case hole=>exact⟨rfl,h⟩
 case bad=>exact⟨rfl,h⟩
 case mkmap=>exact⟨rfl,h⟩
 case mget x y=>
  obtain⟨h1,h⟩:=bR (G:=G) h;obtain⟨h2,h⟩:=bR (G:=G) h;exact⟨by simp only[step,h1,h2],h⟩
 case copy=>
  obtain⟨h1,h⟩:=bR (G:=G) h;obtain⟨h2,h⟩:=bR (G:=G) h;exact⟨by simp only[step,h1,h2],h⟩
 case mset x y z=>
  obtain⟨h1,h⟩:=bR (G:=G) h;obtain⟨h2,h⟩:=bR (G:=G) h;obtain⟨h3,h⟩:=bR (G:=G) h;exact⟨by simp only[step,h1,h2,h3],h⟩
 case pick c x y=>
  obtain⟨h1,h⟩:=bR (G:=G) h;obtain⟨h2,h⟩:=bR (G:=G) h;obtain⟨h3,h⟩:=bR (G:=G) h;exact⟨by simp only[step,h1,h2,h3],h⟩
 case build zs ps=>obtain⟨h1,h⟩:=Y4 (G:=G) h;exact⟨by simp only[step,h1],h⟩
 case bslF zs n ps=>obtain⟨h1,h⟩:=Y4 (G:=G) h;exact⟨by simp only[step,h1],h⟩
 case bslR es zs n ps=>obtain⟨h1,h⟩:=Y4 (G:=G) h;exact⟨by simp only[step,h1],h⟩
 case mkf f xs ys=>
  obtain⟨h1,h⟩:=xY (G:=G) h;obtain⟨h2,h⟩:=xY (G:=G) h;exact⟨by simp only[step,h1,h2],h⟩
 case maxs x xs=>
  obtain⟨h1,h⟩:=bR (G:=G) h;obtain⟨h2,h⟩:=xY (G:=G) h;exact⟨by simp only[step,h1,h2],h⟩
 case mins x xs=>
  obtain⟨h1,h⟩:=bR (G:=G) h;obtain⟨h2,h⟩:=xY (G:=G) h;exact⟨by simp only[step,h1,h2],h⟩
 case call x xs=>
  obtain⟨h1,h⟩:=bR (G:=G) h;obtain⟨h2,h⟩:=xY (G:=G) h;exact⟨by simp only[step,h1,h2],h⟩
 case sliceS x lo hi=>
  obtain⟨h1,h⟩:=bR (G:=G) h;obtain⟨h2,h⟩:=E8 (G:=G) h;obtain⟨h3,h⟩:=E8 (G:=G) h;exact⟨by simp only[step,h1,h2,h3],h⟩
 case sliceL es x lo hi mx=>
  obtain⟨h1,h⟩:=bR (G:=G) h;obtain⟨h2,h⟩:=E8 (G:=G) h;obtain⟨h3,h⟩:=E8 (G:=G) h;obtain⟨h4,h⟩:=E8 (G:=G) h;exact⟨by simp only[step,h1,h2,h3,h4],h⟩
 case store=>
  obtain⟨h1,h⟩:=bR (G:=G) h;obtain⟨h2,h⟩:=bR (G:=G) h;exact⟨by simp only[step,h1,h2],h⟩
 case bin=>
  obtain⟨h1,h⟩:=bR (G:=G) h;obtain⟨h2,h⟩:=bR (G:=G) h;exact⟨by simp only[step,h1,h2],h⟩
 case eqB=>
  obtain⟨h1,h⟩:=bR (G:=G) h;obtain⟨h2,h⟩:=bR (G:=G) h;exact⟨by simp only[step,h1,h2],h⟩
 case eqP=>
  obtain⟨h1,h⟩:=bR (G:=G) h;obtain⟨h2,h⟩:=bR (G:=G) h;exact⟨by simp only[step,h1,h2],h⟩
 case eqS=>
  obtain⟨h1,h⟩:=bR (G:=G) h;obtain⟨h2,h⟩:=bR (G:=G) h;exact⟨by simp only[step,h1,h2],h⟩
 case eqA=>
  obtain⟨h1,h⟩:=bR (G:=G) h;obtain⟨h2,h⟩:=bR (G:=G) h;exact⟨by simp only[step,h1,h2],h⟩
 case msl=>
  obtain⟨h1,h⟩:=bR (G:=G) h;obtain⟨h2,h⟩:=bR (G:=G) h;exact⟨by simp only[step,h1,h2],h⟩
 case iaddr=>
  obtain⟨h1,h⟩:=bR (G:=G) h;obtain⟨h2,h⟩:=bR (G:=G) h;exact⟨by simp only[step,h1,h2],h⟩
 case iaddrA=>
  obtain⟨h1,h⟩:=bR (G:=G) h;obtain⟨h2,h⟩:=bR (G:=G) h;exact⟨by simp only[step,h1,h2],h⟩
 case indexS=>
  obtain⟨h1,h⟩:=bR (G:=G) h;obtain⟨h2,h⟩:=bR (G:=G) h;exact⟨by simp only[step,h1,h2],h⟩
 case append=>
  obtain⟨h1,h⟩:=bR (G:=G) h;obtain⟨h2,h⟩:=bR (G:=G) h;exact⟨by simp only[step,h1,h2],h⟩
 case appendS=>
  obtain⟨h1,h⟩:=bR (G:=G) h;obtain⟨h2,h⟩:=bR (G:=G) h;exact⟨by simp only[step,h1,h2],h⟩
 case appendZ=>
  obtain⟨h1,h⟩:=bR (G:=G) h;obtain⟨h2,h⟩:=bR (G:=G) h;exact⟨by simp only[step,h1,h2],h⟩
 case capn=>
  obtain⟨h1,h⟩:=bR (G:=G) h;exact⟨by simp only[step,h1],h⟩
 case mov=>
  obtain⟨h1,h⟩:=bR (G:=G) h;exact⟨by simp only[step,h1],h⟩
 case boxF=>
  obtain⟨h1,h⟩:=bR (G:=G) h;exact⟨by simp only[step,h1],h⟩
 case boxB=>
  obtain⟨h1,h⟩:=bR (G:=G) h;exact⟨by simp only[step,h1],h⟩
 case load=>
  obtain⟨h1,h⟩:=bR (G:=G) h;exact⟨by simp only[step,h1],h⟩
 case nilchk=>
  obtain⟨h1,h⟩:=bR (G:=G) h;exact⟨by simp only[step,h1],h⟩
 case un=>
  obtain⟨h1,h⟩:=bR (G:=G) h;exact⟨by simp only[step,h1],h⟩
 case convI=>
  obtain⟨h1,h⟩:=bR (G:=G) h;exact⟨by simp only[step,h1],h⟩
 case convSB=>
  obtain⟨h1,h⟩:=bR (G:=G) h;exact⟨by simp only[step,h1],h⟩
 case convBS=>
  obtain⟨h1,h⟩:=bR (G:=G) h;exact⟨by simp only[step,h1],h⟩
 case faddr=>
  obtain⟨h1,h⟩:=bR (G:=G) h;exact⟨by simp only[step,h1],h⟩
 case field=>
  obtain⟨h1,h⟩:=bR (G:=G) h;exact⟨by simp only[step,h1],h⟩
 case extract=>
  obtain⟨h1,h⟩:=bR (G:=G) h;exact⟨by simp only[step,h1],h⟩
 case len=>
  obtain⟨h1,h⟩:=bR (G:=G) h;exact⟨by simp only[step,h1],h⟩
 case dfrop=>
  obtain⟨h1,h⟩:=bR (G:=G) h;exact⟨by simp only[step,h1],h⟩
 case convIS=>
  obtain⟨h1,h⟩:=bR (G:=G) h;exact⟨by simp only[step,h1],h⟩
 case fill=>
  obtain⟨h1,h⟩:=bR (G:=G) h;exact⟨by simp only[step,h1],h⟩
theorem FO {o:AOper}(h:mI o.reads e e'):bD G b call e H o=bD G b call e' H o:=by
 unfold AOper.reads at h;obtain⟨h1,h2⟩:=TI (G:=G) (b:=b) (call:=call) (H:=H) h;have hw:gW e o.guard=gW e' o.guard:=by
  cases hg:o.guard with
  | none=>rfl
  | some x=>
   obtain⟨t,q⟩:=x;rw[hg]at h2;simp only[gW,h2 t (by simp)]
 unfold bD;rw[hw,h1]
theorem TK {ao:AOp}(hE:ao.isE=false){d:D}{H':aA}(h:step G b call e H ao=some (d,H')):H'=H:=by
 cases ao <;> first | (cases hE;done) | skip
 case fill n v=>
  have hb:v.box=none:=by simpa [AOp.isE]using hE
  simp only[step,hb]at h;split at h
  ·cases h;rfl
  ·cases h
 all_goals simp only[step]at h
 all_goals (repeat' split at h)
 all_goals first | (cases h;rfl) | cases h
theorem TO {ao:AOp}(hE:ao.isE=false)(hL:ao.isL=false){d:D}{H':aA}(h:step G b call e H ao=some (d,H'))(H2:aA):step G b call e H2 ao=some (d,H2):=by
 cases ao <;> first | (cases hE;done) | (cases hL;done) | skip
 case fill n v=>
  have hb:v.box=none:=by simpa [AOp.isE]using hE
  simp only[step,hb]at h ⊢;split at h
  ·rename_i hh;cases h;rw[if_pos hh]
  ·cases h
 all_goals simp only[step]at h ⊢
 all_goals (repeat' split at h)
 all_goals first | (cases h;done) | (cases h;simp_all;done)
theorem W6 {o:AOper}(hE:o.op.isE=false){d:D}{H':aA}(h:bD G b call e H o=some (d,H')):H'=H:=by
 unfold bD at h;split at h
 ·exact TK hE h
 ·cases h;rfl
 ·cases h
theorem XP {o:AOper}(hE:o.op.isE=false)(hL:o.op.isL=false){d:D}{H':aA}(h:bD G b call e H o=some (d,H'))(H2:aA):bD G b call e H2 o=some (d,H2):=by
 unfold bD at h ⊢;split at h
 ·exact TO hE hL h H2
 ·cases h;rfl
 ·cases h
theorem FM {o:AOper}(hE:o.op.isE=false){d:D}(h:sameAt G b call e o d H=true):bD G b call e H o=some (d,H):=by
 unfold sameAt at h;split at h
 ·rename_i d' H' hr
  rw[D.beq_eq _ _ h]at hr;rw[W6 hE hr]at hr;exact hr
 ·cases h
end
end Go.AM
namespace Go.AM
section
variable {G:Nat->Option (List D)}{b:Nat}{call:cT}
theorem CO {e:Env}{o:AOper}{d:D}{lo:Nat}:∀ {l:List (Nat×aA)},dR G b call e o d lo l=true->∀j K,(j,K)∈l->lo<=j->sameAt G b call e o d K=true
 | [],_,j,K,h,_=>by cases h
 | (j',K')::r,h,j,K,hm,hl=>by
  simp only[dR,Bool.and_eq_true,Bool.or_eq_true,Nat.blt_eq]at h;rcases List.mem_cons.1 hm with e | hm
  ·cases e;exact h.1.resolve_left (by omega)
  ·exact CO h.2 j K hm hl
theorem CV {e:Env}{o:AOper}{d:D}{hi:Nat}:∀ {l:List (Nat×aA)},fQ G b call e o d hi l=true->∀j K,(j,K)∈l->j<hi->sameAt G b call e o d K=true
 | [],_,j,K,h,_=>by cases h
 | (j',K')::r,h,j,K,hm,hl=>by
  simp only[fQ,Bool.and_eq_true,Bool.or_eq_true,Nat.ble_eq]at h;rcases List.mem_cons.1 hm with e | hm
  ·cases e;exact h.1.resolve_left (by omega)
  ·exact CV h.2 j K hm hl
structure Trace(G:gT)(b:Nat)(call:cT)(i:Nat)(l:List (AOper×Nat×Nat))(past:List (Nat×aA))(env:Env)(H:aA)(envF:Env)(HF:aA)(fut:List (Nat×aA))(E:Nat->Env)(Hs:Nat->aA)(dd:Nat->D):Prop where
 e0:E i=env
 h0:Hs i=H
 eF:E (i+l.length)=envF
 hF:Hs (i+l.length)=HF
 run:∀k x,l[k]? =some x->bD G b call (E (i+k)) (Hs (i+k)) x.1=some (dd (i+k),Hs (i+k+1))∧E (i+k+1)=bS (E (i+k)) x.1.dst (dd (i+k))
 fut:∀k x,l[k]? =some x->x.1.op.isE=true->(i+k,Hs (i+k+1))∈fut
 pastL:∀k x,l[k]? =some x->x.1.op.isE=false->x.1.op.isL=true->∀j K,(j,K)∈past->x.2.1<=j->sameAt G b call (E (i+k)) x.1 (dd (i+k)) K=true
 slipL:∀k x k' x',l[k]? =some x->x.1.op.isE=false->x.1.op.isL=true->l[k']? =some x'->x'.1.op.isE=true->k'<k->x.2.1<=i+k'->sameAt G b call (E (i+k)) x.1 (dd (i+k)) (Hs (i+k'))=true
 futL:∀k x k' x',l[k]? =some x->x.1.op.isE=false->x.1.op.isL=true->l[k']? =some x'->x'.1.op.isE=true->k<k'->i+k'<x.2.2->sameAt G b call (E (i+k)) x.1 (dd (i+k)) (Hs (i+k'+1))=true
theorem XQ:∀(l:List (AOper×Nat×Nat)) (i:Nat) (past:List (Nat×aA)) (env:Env) (H:aA) (envF:Env) (HF:aA) (fut:List (Nat×aA)),cV G b call i l past env H=some (envF,HF,fut)->
  ∃E Hs dd,Trace G b call i l past env H envF HF fut E Hs dd:=by
 intro l
 induction l with
 | nil=>
  intro i past env H envF HF fut h;simp[cV]at h;obtain⟨rfl,rfl,rfl⟩:=h;exact⟨fun _=>env,fun _=>H,fun _=>.undef,⟨rfl,rfl,rfl,rfl,by simp,by simp,by simp,by simp,by simp⟩⟩
 | cons x r ih=>
  intro i past env H envF HF fut h;obtain⟨o,lo,hi⟩:=x;simp only[cV]at h;split at h
  ·rename_i d H1 hr
   have glue:∀(past':List (Nat×aA)) (fut':List (Nat×aA)) (E':Nat->Env) (Hs':Nat->aA) (dd':Nat->D),Trace G b call (i+1) r past' (bS env o.dst d) H1 envF HF fut' E' Hs' dd'->
     (∀y,y∈past->y∈past')->(o.op.isE=true->(i,H)∈past')->(∀y,y∈fut'->y∈fut)->(o.op.isE=true->(i,H1)∈fut)->
     (o.op.isE=false->o.op.isL=true->(∀j K,(j,K)∈past->lo<=j->sameAt G b call env o d K=true)∧(∀j K,(j,K)∈fut'->j<hi->sameAt G b call env o d K=true))->
     ∃E Hs dd,Trace G b call i ((o,lo,hi)::r) past env H envF HF fut E Hs dd:=by
    intro past' fut' E' Hs' dd' T hp1 hp2 hf1 hf2 hs;have ne:∀k,i+1+k≠i:=fun k=>by omega
    have eq:∀k,i+(k+1)=i+1+k:=fun k=>by omega
    refine⟨fun m=>if m=i then env else E' m,fun m=>if m=i then H else Hs' m,fun m=>if m=i then d else dd' m,⟨by simp,by simp,?_,?_,?_,?_,?_,?_,?_⟩⟩
    ·simp only[List.length_cons,ne r.length,if_false,eq r.length];exact T.eF
    ·simp only[List.length_cons,ne r.length,if_false,eq r.length];exact T.hF
    ·intro k x hk
     cases k with
     | zero=>
      simp at hk;subst hk;have h1:i+0+1≠i:=by omega
      simp only[Nat.add_zero,if_true,h1,if_false];have h2:=T.h0;have h3:=T.e0;simp only[show i+1≠i by omega,if_false,h2,h3];exact⟨hr,trivial⟩
     | succ k=>
      simp at hk;have:=T.run k x hk;simp only[ne k,if_false,eq k,show i+1+k+1≠i by omega];exact this
    ·intro k x hk hE
     cases k with
     | zero=>
      simp at hk;subst hk;simp only[Nat.add_zero,show i+1≠i by omega,if_false,T.h0];exact hf2 hE
     | succ k=>
      simp at hk;simp only[eq k,show i+1+k+1≠i by omega,if_false];exact hf1 _ (T.fut k x hk hE)
    ·intro k x hk hE hL j K hm hl
     cases k with
     | zero=>
      simp at hk;subst hk;simp only[Nat.add_zero,if_true];exact(hs hE hL).1 j K hm hl
     | succ k=>
      simp at hk;simp only[ne k,if_false,eq k];exact T.pastL k x hk hE hL j K (hp1 _ hm) hl
    ·intro k x k' x' hk hE hL hk' hE' hlt hl
     cases k with
     | zero=>omega
     | succ k=>
      simp at hk
      cases k' with
      | zero=>
       simp at hk';subst hk';simp only[ne k,if_false,eq k,Nat.add_zero,if_true];exact T.pastL k x hk hE hL i H (hp2 hE') (by simpa using hl)
      | succ k'=>
       simp at hk';simp only[ne k,ne k',if_false,eq k,eq k'];exact T.slipL k x k' x' hk hE hL hk' hE' (by omega) (by rw[← eq k'];exact hl)
    ·intro k x k' x' hk hE hL hk' hE' hlt hl
     cases k' with
     | zero=>omega
     | succ k'=>
      simp at hk'
      cases k with
      | zero=>
       simp at hk;subst hk;simp only[Nat.add_zero,if_true,eq k',show i+1+k'+1≠i by omega,if_false];exact(hs hE hL).2 (i+1+k') _ (T.fut k' x' hk' hE') (by rw[← eq k'];exact hl)
      | succ k=>
       simp at hk;simp only[ne k,if_false,eq k,eq k',show i+1+k'+1≠i by omega];exact T.futL k x k' x' hk hE hL hk' hE' (by omega) (by rw[← eq k'];exact hl)
   split at h
   ·rename_i hE
    split at h
    ·rename_i e h' fut' hr2
     cases h
     obtain⟨E',Hs',dd',T⟩:=ih _ _ _ _ _ _ _ hr2;exact glue _ _ E' Hs' dd' T (fun y hy=>by simp[hy]) (fun _=>by simp) (fun y hy=>by simp[hy]) (fun _=>by simp) (fun hE'=>by rw[hE]at hE';cases hE')
    ·cases h
   ·rename_i hE
    split at h
    ·rename_i e h' fut' hr2
     obtain⟨E',Hs',dd',T⟩:=ih _ _ _ _ _ _ _ hr2;split at h
     ·rename_i hL
      split at h
      ·rename_i hs
       cases h
       simp only[Bool.and_eq_true]at hs;exact glue _ _ E' Hs' dd' T (fun y hy=>hy) (fun hE'=>absurd hE' hE) (fun y hy=>hy) (fun hE'=>absurd hE' hE) (fun _ _=>⟨CO hs.1,CV hs.2⟩)
      ·cases h
     ·rename_i hL
      cases h
      exact glue _ _ E' Hs' dd' T (fun y hy=>hy) (fun hE'=>absurd hE' hE) (fun y hy=>hy) (fun hE'=>absurd hE' hE) (fun _ hL'=>absurd hL' hL)
    ·cases h
  ·cases h
end
theorem NW {ancs:List Nat}:∀ {ps:List Nat} {j:Nat},(tS ancs ps).testBit j=true->∃p∈ps,j=p∨(ancs.getD p 0).testBit j=true
 | [],j,h=>by simp[tS]at h
 | p::r,j,h=>by
  simp only[tS,Nat.testBit_or,Bool.or_eq_true]at h;rcases h with(h | h) | h
  ·refine⟨p,by simp,.inl ?_⟩
   rw[Nat.one_shiftLeft,Nat.testBit_two_pow]at h;exact(by simpa using h:p=j).symm
  ·exact⟨p,by simp,.inr h⟩
  ·obtain⟨q,hq,hh⟩:=NW h
   exact⟨q,by simp[hq],hh⟩
theorem Ol:∀(os:List Oper) (ancs:List Nat),∃L,qJ ancs os=ancs++L∧L.length=os.length∧∀k o,os[k]? =some o->L[k]? =some (tS (ancs++L.take k) (mY o))
 | [],ancs=>⟨[],by simp[qJ],rfl,by simp⟩
 | o::r,ancs=>by
  obtain⟨L,h1,h2,h3⟩:=Ol r (ancs++[tS ancs (mY o)]);refine⟨tS ancs (mY o)::L,by rw[qJ,h1];simp,by simp[h2],fun k o' hk=>?_⟩
  cases k with
  | zero=>simp at hk;subst hk;simp
  | succ k=>
   simp at hk;have:=h3 k o' hk;simpa using this
theorem NV {ops:Array Oper}{S:Nat->Prop}(hS:∀i o,ops[i]? =some o->S i->∀p∈mY o,S p):∀(i:Nat) (o:Oper) (j:Nat),ops[i]? =some o->(∀p∈mY o,S p)->((qJ [] ops.toList).getD i 0).testBit j=true->S j:=by
 obtain⟨L,h1,h2,h3⟩:=Ol ops.toList [];simp only[List.nil_append]at h1 h3;rw[h1];intro i
 induction i using Nat.strongRecOn with
 | _ i ih=>
  intro o j hi hp hb;have hL:=h3 i o (by simpa using hi);rw[List.getD_eq_getElem?_getD,hL]at hb;simp only[Option.getD_some]at hb;obtain⟨p,hpm,hh⟩:=NW hb;rcases hh with rfl | hh
  ·exact hp _ hpm
  ·by_cases hlt:p<i
   ·rw[List.getD_eq_getElem?_getD,List.getElem?_take,if_pos hlt, ← List.getD_eq_getElem?_getD]at hh
    have hpn:p<L.length:=by
     rcases Nat.lt_or_ge p L.length with h | h
     ·exact h
     ·rw[List.getD_eq_getElem?_getD,List.getElem?_eq_none h]at hh;simp at hh
    have hpo:∃o',ops[p]? =some o':=⟨ops[p]'(by rw[h2]at hpn;simpa using hpn),by simp⟩;obtain⟨o',ho'⟩:=hpo;exact ih p hlt o' j ho' (hS p o' ho' (hp p hpm)) hh
   ·rw[List.getD_eq_getElem?_getD,List.getElem?_take,if_neg hlt]at hh
    simp at hh
theorem KU {i:Nat}{a:AOper}{rs:List Nat}{ai lo hi:Nat}:∀ {l:List (AOper×Nat×Nat)} {j:Nat} {ancs:List Nat},N2 i a rs ai lo hi j l ancs=true->
  ∀k x,l[k]? =some x->j+k=i∨ordered i ai (j+k) (ancs.getD k 0)=true∨qG i a rs lo hi (j+k) x.1=true
 | [],_,_,_,k,x,hk=>by simp at hk
 | (o,p,q)::r,j,[],h,k,x,hk=>by simp[N2]at h
 | (o,p,q)::r,j,aj::ra,h,k,x,hk=>by
  simp only[N2,Bool.and_eq_true,Bool.or_eq_true,Nat.beq_eq]at h
  cases k with
  | zero=>
   simp at hk;subst hk;simp only[Nat.add_zero,List.getD_cons_zero];rcases h.1 with(h | h) | h
   ·exact .inl h.symm
   ·exact .inr (.inl h)
   ·exact .inr (.inr h)
  | succ k=>
   simp at hk;have:=KU h.2 k x hk;simpa [Nat.add_assoc,Nat.add_comm 1 k]using this
theorem KV {l0:List (AOper×Nat×Nat)}{ancs0:List Nat}:∀ {l:List (AOper×Nat×Nat)} {i:Nat} {ancs:List Nat},N3 l0 ancs0 i l ancs=true->
  ∀k x,l[k]? =some x->∀k' x',l0[k']? =some x'->k'=i+k∨ordered (i+k) (ancs.getD k 0) k' (ancs0.getD k' 0)=true∨qG (i+k) x.1 x.1.reads x.2.1 x.2.2 k' x'.1=true
 | [],_,_,_,k,x,hk,_,_,_=>by simp at hk
 | (o,p,q)::r,j,[],h,k,x,hk,_,_,_=>by simp[N3]at h
 | (o,p,q)::r,j,aj::ra,h,k,x,hk,k',x',hk'=>by
  simp only[N3,Bool.and_eq_true]at h
  cases k with
  | zero=>
   simp at hk;subst hk;have:=KU h.1 k' x' hk';simp only[Nat.zero_add,Nat.add_zero,List.getD_cons_zero]at this ⊢;exact this
  | succ k=>
   simp at hk;have:=KV h.2 k x hk k' x' hk';simpa [Nat.add_assoc,Nat.add_comm 1 k]using this
def At {X:Type}(eN:Nat->Option Nat)(val:Nat->X)(init:Nat->X)(S:Nat->Prop)(g:Nat->X):Prop:=
 ∀t,(∃j,S j∧eN j=some t∧(∀j',S j'->eN j'=some t->j'<=j)∧g t=val j)∨((∀j,S j->eN j≠some t)∧g t=init t)
theorem At.eq {X:Type}{eN:Nat->Option Nat}{val init:Nat->X}{S S':Nat->Prop}{g g':Nat->X}(h:At eN val init S g)(h':At eN val init S' g'){t:Nat}(hs:∀j,eN j=some t->(S j↔S' j)):g t=g' t:=by
 rcases h t with⟨j,h1,h2,h3,h4⟩ | ⟨h1,h2⟩
 ·rcases h' t with⟨j',k1,k2,k3,k4⟩ | ⟨k1,k2⟩
  ·have e1:=h3 j' ((hs j' k2).2 k1) k2
   have e2:=k3 j ((hs j h2).1 h1) h2;have:j=j':=by omega
   subst this;rw[h4,k4]
  ·exact absurd h2 (k1 j ((hs j h2).1 h1))
 ·rcases h' t with⟨j',k1,k2,k3,k4⟩ | ⟨k1,k2⟩
  ·exact absurd k2 (h1 j' ((hs j' k2).2 k1))
  ·rw[h2,k2]
theorem At.step {X:Type}{eN:Nat->Option Nat}{val init:Nat->X}{S S':Nat->Prop}{g g':Nat->X}{i:Nat}(h:At eN val init S g)(hS:∀j,S' j↔(S j∨j=i))(hord:∀t j,eN i=some t->S j->eN j=some t->j<=i)
  (hg:∀t,eN i=some t->g' t=val i) (hg':∀t,eN i≠some t->g' t=g t):At eN val init S' g':=by
 intro t;by_cases ht:eN i=some t
 ·refine .inl ⟨i,(hS i).2 (.inr rfl),ht,fun j' hj' hd=>?_,hg t ht⟩
  rcases(hS j').1 hj' with h' | rfl
  ·exact hord t j' ht h' hd
  ·exact Nat.le_refl _
 ·rcases h t with⟨j,h1,h2,h3,h4⟩ | ⟨h1,h2⟩
  ·refine .inl ⟨j,(hS j).2 (.inl h1),h2,fun j' hj' hd=>?_,by rw[hg' t ht,h4]⟩
   rcases(hS j').1 hj' with h' | rfl
   ·exact h3 j' h' hd
   ·exact absurd hd ht
  ·refine .inr ⟨fun j hj=>?_,by rw[hg' t ht,h2]⟩
   rcases(hS j).1 hj with h' | rfl
   ·exact h1 j h'
   ·exact ht
theorem At.nil {X:Type}{eN:Nat->Option Nat}{val init:Nat->X}{S:Nat->Prop}(h:∀j,¬S j):At eN val init S init:=
 fun t=>.inr ⟨fun j hj=>absurd hj (h j),rfl⟩
end Go.AM
namespace Go.AM
theorem KR {md:Region.Mode}{n k:Nat}{ρ:List Nat}:∀ {l:List Edge},Al md n ρ k l=true->∀e∈l,Region.binds md e=true->e.on<n∧ρ.getD e.on n<k
 | [],_,e,h,_=>by cases h
 | d::r,h,e,he,hb=>by
  simp only[Al,Bool.and_eq_true,Bool.or_eq_true,Nat.blt_eq,Bool.not_eq_true']at h;rcases List.mem_cons.1 he with rfl | he
  ·rcases h.1 with h1 | h1
   ·rw[hb]at h1;cases h1
   ·exact h1
  ·exact KR h.2 e he hb
theorem GG {md:Region.Mode}{n:Nat}{ρ:List Nat}:∀ {os:List Oper} {i:Nat},F0 md n ρ i os=true->∀(k:Nat) (o:Oper),os[k]? =some o->∀e∈o.after,Region.binds md e=true->e.on<n∧ρ.getD e.on n<ρ.getD (i+k) n
 | [],_,_,k,o,hk,_,_,_=>by simp at hk
 | o'::r,i,h,k,o,hk,e,he,hb=>by
  simp only[F0,Bool.and_eq_true]at h
  cases k with
  | zero=>simp at hk;subst hk;exact KR h.1 e (by simpa using he) hb
  | succ k=>
   simp at hk;have:=GG h.2 k o hk e he hb;rw[show i+(k+1)=i+1+k by omega];exact this
theorem CG {as0:List AOper}{ancs0:List Nat}:∀ {as:List AOper} {ancs:List Nat} {i:Nat},ancs.length=as.length->(D7 as0 ancs0 i as ancs).map (·.1)=as
 | [],ancs,i,_=>by simp[D7]
 | a::r,[],i,h=>by simp at h
 | a::r,x::xs,i,h=>by
  simp only[D7,List.map_cons];rw[CG (by simpa using h)]
theorem LK {P:Program}{rr:Option Nat}{pol:Nat->Option Pol}(hq:∀i f,pol i=some (.quiet f)->rr=none∧Quiet P f){ops:Array Oper}:∀ {os:List Oper} {i:Nat} {l:List AOper},lC P pol ops i os=some l->l.length=os.length
 | [],i,l,h=>by simp[lC]at h;subst h;rfl
 | o::r,i,l,h=>by
  obtain⟨x,xs,rfl,_,hxs⟩:=Mt hq h;simp[LK hq hxs]
theorem LL {P:Program}{rr:Option Nat}{pol:Nat->Option Pol}(hq:∀i f,pol i=some (.quiet f)->rr=none∧Quiet P f){ops:Array Oper}:∀ {os:List Oper} {i:Nat} {l:List AOper},lC P pol ops i os=some l->∀(k:Nat) (o:Oper),os[k]? =some o->∃x:AOper,l[k]? =some x∧Comped P rr ops o x
 | [],i,l,h,k,o,hk=>by simp at hk
 | o'::r,i,l,h,k,o,hk=>by
  obtain⟨x,xs,rfl,hx,hxs⟩:=Mt hq h
  cases k with
  | zero=>simp at hk;subst hk;exact⟨x,rfl,hx⟩
  | succ k=>simp at hk;simpa using LL hq hxs k o hk
def C0(p:List (Nat×Nat))(o:AOper)(p':List (Nat×Nat)):Prop:=
 (∀s,o.op=.hole s->o.guard=none∧∃t,o.dst=some t∧eV p t=none∧p'=(t,s)::p)∧
 (∀s x,o.op=.fill s x->o.guard=none∧∃t,o.dst=some t∧eV p t=some s∧p'=sS p t)∧
 ((∀s,o.op≠ .hole s)->(∀s x,o.op≠ .fill s x)->(∀t,o.dst=some t->eV p t=none)∧p'=p)
theorem GQ:∀(as:List AOper) (p0:List (Nat×Nat)),nA p0 as=true->∃p:Nat->List (Nat×Nat),p 0=p0∧∀(k:Nat) (o:AOper),as[k]? =some o->C0 (p k) o (p (k+1))
 | [],p0,_=>⟨fun _=>p0,rfl,by simp⟩
 | o::r,p0,h=>by
  have glue:∀p1,C0 p0 o p1->nA p1 r=true->∃p:Nat->List (Nat×Nat),p 0=p0∧∀(k:Nat) (o':AOper),(o::r)[k]? =some o'->C0 (p k) o' (p (k+1)):=by
   intro p1 h1 h2;obtain⟨p,hp0,hp⟩:=GQ r p1 h2;refine⟨fun k=>match k with | 0=>p0 | k+1=>p k,rfl,fun k o' hk=>?_⟩
   cases k with
   | zero=>simp at hk;subst hk;simp only[hp0];exact h1
   | succ k=>simp at hk;exact hp k o' hk
  simp only[nA]at h;split at h
  ·rename_i s hop
   split at h
   ·rename_i t ht
    simp only[Bool.and_eq_true,Option.isNone_iff_eq_none]at h;refine glue _ ⟨fun s' e=>?_,fun s' x' e=>(by rw[hop]at e;cases e),fun hn=>absurd hop (hn s)⟩ h.2;rw[hop]at e;cases e;exact⟨h.1.1,t,ht,h.1.2,rfl⟩
   ·cases h
  ·rename_i s x hop
   split at h
   ·rename_i t ht
    simp only[Bool.and_eq_true,Option.isNone_iff_eq_none]at h;refine glue _ ⟨fun s' e=>(by rw[hop]at e;cases e),fun s' x' e=>?_,fun _ hn=>absurd hop (hn s x)⟩ h.2;rw[hop]at e;cases e;have h2:=h.1.2;split at h2
    ·rename_i s' hs'
     have:s'=s:=by simpa [Nat.beq_eq]using h2
     subst this;exact⟨h.1.1,t,ht,hs',rfl⟩
    ·cases h2
   ·cases h
  ·rename_i hn1 hn2
   simp only[Bool.and_eq_true]at h;refine glue _ ⟨fun s e=>absurd e (hn1 s),fun s x e=>absurd e (hn2 s x),fun _ _=>⟨fun t ht=>?_,rfl⟩⟩ h.2;rw[ht]at h;simpa using h.1
theorem C0.other {p p':List (Nat×Nat)}{o:AOper}(h:C0 p o p'){t:Nat}(ht:o.dst≠some t):eV p' t=eV p t:=by
 obtain⟨h1,h2,h3⟩:=h
 cases hop:o.op
 case hole s=>
  obtain⟨_,u,hu,_,rfl⟩:=h1 s hop;rw[yB,if_neg (by rintro rfl;exact ht hu)]
 case fill s x=>
  obtain⟨_,u,hu,_,rfl⟩:=h2 s x hop;rw[F6,if_neg (by rintro rfl;exact ht hu)]
 all_goals
  have:=h3 (fun s e=>by rw[hop]at e;cases e) (fun s x e=>by rw[hop]at e;cases e);rw[this.2]
def oU:List Bool->Nat
 | []=>0
 | b::r=>(if b then 0 else 1)+oU r
theorem AW:∀(l:List Bool) (i:Nat),l[i]? =some false->oU (l.set i true)+1=oU l
 | [],i,h=>by simp at h
 | b::r,0,h=>by simp at h;subst h;simp[oU];omega
 | b::r,i+1,h=>by
  simp at h;have:=AW r i h;simp only[List.set_cons_succ,oU];omega
theorem AV:∀(l:List Bool),oU l=0->∀i:Nat,l[i]? ≠some false
 | [],_,i=>by simp
 | b::r,h,i=>by
  simp only[oU]at h
  cases b with
  | false=>simp at h
  | true=>
   cases i with
   | zero=>simp
   | succ i=>simp;exact AV r (by simpa using h) i
theorem Y7 {env:Env}{dst:Option Nat}{d:D}{N:Nat}(hN:N<=65535)(hd:∀t,dst=some t->t<N)(t:Nat):(bS env dst d).get t=if dst=some t then d else env.get t:=by
 cases dst with
 | none=>simp[bS]
 | some u=>
  have:=hd u rfl;simp only[bS];rw[Env.vB t d (by omega)];by_cases h:t=u
  ·subst h;simp
  ·rw[if_neg h,if_neg (by simpa using fun e=>h e.symm)]
theorem KB {N:Nat}:∀ {l:List (AOper×Nat×Nat)},L6 N l=true->∀(k:Nat) (x:AOper×Nat×Nat),l[k]? =some x->x.1.fits N=true
 | [],_,k,x,hk=>by simp at hk
 | (o,p,q)::r,h,k,x,hk=>by
  simp only[L6,Bool.and_eq_true]at h
  cases k with
  | zero=>simp at hk;subst hk;exact h.1
  | succ k=>simp at hk;exact KB h.2 k x hk
theorem JI {t:Nat}:∀ {l:List Nat},t∈l->y0 t l=true
 | [],h=>by cases h
 | u::r,h=>by
  simp only[y0,Bool.or_eq_true,Nat.beq_eq];rcases List.mem_cons.1 h with rfl | h
  ·exact .inl rfl
  ·exact .inr (JI h)
section
variable {P:Program}{r:Option Nat}{G:Nat->Option (List D)}{b N:Nat}{B:Nat->Prop}{ds:List Deferred}{β0:Bk}{Φ0 :Fz}{H0 H:aA}{w0 w:World}{env:Env}{a:Act}{call:cT}
structure Plan(P:Program)(r:Option Nat)(G:gT)(b N:Nat)(call:cT)(ops:Array Oper)(l:List (AOper×Nat×Nat))(E:Nat->Env)(Hs:Nat->aA)(dd:Nat->D)(p:Nat->List (Nat×Nat)):Prop where
 len:l.length=ops.size
 comp:∀(i:Nat) (o:Oper),ops[i]? =some o->∃x:AOper×Nat×Nat,l[i]? =some x∧Comped P r ops o x.1
 fit:∀(i:Nat) (x:AOper×Nat×Nat),l[i]? =some x->x.1.fits N=true
 run:∀(i:Nat) (x:AOper×Nat×Nat),l[i]? =some x->bD G b call (E i) (Hs i) x.1=some (dd i,Hs (i+1))∧E (i+1)=bS (E i) x.1.dst (dd i)
 slipL:∀(i:Nat) (x:AOper×Nat×Nat) (j:Nat) (y:AOper×Nat×Nat),l[i]? =some x->x.1.op.isE=false->x.1.op.isL=true->l[j]? =some y->y.1.op.isE=true->j<i->x.2.1<=j->sameAt G b call (E i) x.1 (dd i) (Hs j)=true
 futL:∀(i:Nat) (x:AOper×Nat×Nat) (j:Nat) (y:AOper×Nat×Nat),l[i]? =some x->x.1.op.isE=false->x.1.op.isL=true->l[j]? =some y->y.1.op.isE=true->i<j->j<x.2.2->sameAt G b call (E i) x.1 (dd i) (Hs (j+1))=true
 p0:p 0=[]
 pend:∀(i:Nat) (x:AOper×Nat×Nat),l[i]? =some x->C0 (p i) x.1 (p (i+1))
 preds:∀md:Region.Mode,∃ρ:Nat->Nat,∀(i:Nat) (o:Oper),ops[i]? =some o->∀e∈o.after,Region.binds md e=true->e.on<ops.size∧ρ e.on<ρ i
 draw:∀(i:Nat) (x:AOper×Nat×Nat) (j:Nat) (y:AOper×Nat×Nat),l[i]? =some x->l[j]? =some y->j=i∨ordered i ((qJ [] ops.toList).getD i 0) j ((qJ [] ops.toList).getD j 0)=true∨qG i x.1 x.1.reads x.2.1 x.2.2 j y.1=true
def eN(l:List (AOper×Nat×Nat))(j:Nat):Option Nat:=(l[j]?).bind (·.1.dst)
def Oh(l:List (AOper×Nat×Nat))(dd:Nat->D)(p:Nat->List (Nat×Nat))(j:Nat):D×Option Nat:=(dd j,(eN l j).bind (eV (p (j+1))))
variable {ops:Array Oper}{l:List (AOper×Nat×Nat)}{E:Nat->Env}{Hs:Nat->aA}{dd:Nat->D}{p:Nat->List (Nat×Nat)}
theorem On {j t:Nat}(h:eN l j=some t):∃x:AOper×Nat×Nat,l[j]? =some x∧x.1.dst=some t:=by
 unfold eN at h
 cases hl:l[j]? with
 | none=>rw[hl]at h;cases h
 | some x=>rw[hl]at h;exact⟨x,rfl,h⟩
theorem Plan.text(hN:N<=65535)(T:Plan P r G b N call ops l E Hs dd p):∀i,i<=l.length->At (eN l) (Oh l dd p) (fun t=>((E 0).get t,none)) (· < i) (fun t=>((E i).get t,eV (p i) t))
 | 0,_=>by
  have:(fun t=>((E 0).get t,eV (p 0) t))=fun t=>((E 0).get t,(none:Option Nat)):=by funext t;rw[T.p0];rfl
  rw[this];exact At.nil (fun j=>by omega)
 | i+1,hi=>by
  obtain⟨x,hx⟩:∃x:AOper×Nat×Nat,l[i]? =some x:=⟨l[i]'(by omega),by simp⟩;have had:eN l i=x.1.dst:=by simp[eN,hx]
  obtain⟨h1,h2⟩:=T.run i x hx;have hfit:∀t,x.1.dst=some t->t<N:=fun t ht=>wF (T.fit i x hx) ht
  refine(Plan.text hN T i (by omega)).step (i:=i) (fun j=>by omega) (fun t j _ hj _=>by omega) (fun t ht=>?_) (fun t ht=>?_)
  ·rw[had]at ht
   simp only[Oh,had,ht,Option.bind_some];rw[h2,Y7 hN hfit,if_pos ht]
  ·rw[had]at ht
   show((E (i+1)).get t,eV (p (i+1)) t)=((E i).get t,eV (p i) t);rw[h2,Y7 hN hfit,if_neg ht,(T.pend i x hx).other ht]
theorem Plan.vS (T : Plan P r G b N call ops l E Hs dd p) {e : Nat} : ∀ m, e <= m -> m <= l.length -> (∀ (j : Nat) (x : AOper × Nat × Nat), e <= j -> j < m -> l[j]? = some x -> x.1.op.isE = false) -> Hs e = Hs m
  | 0, h, _, _ => by have : e = 0 := by omega
                     rw [this]
  | m + 1, h, hm, hn => by
    by_cases he : e = m + 1
    · rw [he]
    · obtain ⟨x, hx⟩ : ∃ x : AOper × Nat × Nat, l[m]? = some x := ⟨l[m]'(by omega), by simp⟩
      rw [T.vS m (by omega) (by omega) (fun j y h1 h2 => hn j y h1 (by omega))]
      exact (W6 (hn m x (by omega) (by omega) hx) (T.run m x hx).1).symm
theorem KC(l:List (AOper×Nat×Nat))(e:Nat):∀m:Nat,e<=m->(∀(j:Nat) (x:AOper×Nat×Nat),e<=j->j<m->l[j]? =some x->x.1.op.isE=false)∨∃(j:Nat) (x:AOper×Nat×Nat),e<=j∧j<m∧l[j]? =some x∧x.1.op.isE=true∧∀(j':Nat) (x':AOper×Nat×Nat),e<=j'->j'<j->l[j']? =some x'->x'.1.op.isE=false
 | 0,h=>.inl fun j x h1 h2=>absurd h2 (by omega)
 | m+1,h=>by
  by_cases he:e=m+1
  ·exact .inl fun j x h1 h2=>absurd h2 (by omega)
  ·rcases KC l e m (by omega)with h1 | ⟨j,x,h1,h2,h3⟩
   ·cases hx:l[m]? with
    | none=>
     refine .inl fun j x h2 h3 hj=>?_
     by_cases hjm:j=m
     ·subst hjm;rw[hx]at hj;cases hj
     ·exact h1 j x h2 (by omega) hj
    | some x=>
     cases hE:x.1.op.isE with
     | false=>
      refine .inl fun j y h2 h3 hj=>?_
      by_cases hjm:j=m
      ·subst hjm;rw[hx]at hj;cases hj;exact hE
      ·exact h1 j y h2 (by omega) hj
     | true=>exact .inr ⟨m,x,by omega,by omega,hx,hE,fun j y h2 h3 hj=>h1 j y h2 h3 hj⟩
   ·exact .inr ⟨j,x,h1,by omega,h3⟩
theorem Kz(l:List (AOper×Nat×Nat))(e:Nat):∀m:Nat,e<=m->(∀(j:Nat) (x:AOper×Nat×Nat),e<=j->j<m->l[j]? =some x->x.1.op.isE=false)∨∃(j:Nat) (x:AOper×Nat×Nat),e<=j∧j<m∧l[j]? =some x∧x.1.op.isE=true∧∀(j':Nat) (x':AOper×Nat×Nat),j<j'->j'<m->l[j']? =some x'->x'.1.op.isE=false
 | 0,h=>.inl fun j x h1 h2=>absurd h2 (by omega)
 | m+1,h=>by
  by_cases he:e=m+1
  ·exact .inl fun j x h1 h2=>absurd h2 (by omega)
  ·cases hx:l[m]? with
   | none=>
    rcases Kz l e m (by omega)with h1 | ⟨j,x,h1,h2,h3,h4,h5⟩
    ·refine .inl fun j x h2 h3 hj=>?_
     by_cases hjm:j=m
     ·subst hjm;rw[hx]at hj;cases hj
     ·exact h1 j x h2 (by omega) hj
    ·refine .inr ⟨j,x,h1,by omega,h3,h4,fun j' y h6 h7 hj=>?_⟩
     by_cases hjm:j'=m
     ·subst hjm;rw[hx]at hj;cases hj
     ·exact h5 j' y h6 (by omega) hj
   | some x=>
    cases hE:x.1.op.isE with
    | true=>exact .inr ⟨m,x,by omega,by omega,hx,hE,fun j y h2 h3 hj=>absurd h3 (by omega)⟩
    | false=>
     rcases Kz l e m (by omega)with h1 | ⟨j,y,h1,h2,h3,h4,h5⟩
     ·refine .inl fun j y h2 h3 hj=>?_
      by_cases hjm:j=m
      ·subst hjm;rw[hx]at hj;cases hj;exact hE
      ·exact h1 j y h2 (by omega) hj
     ·refine .inr ⟨j,y,h1,by omega,h3,h4,fun j' z h6 h7 hj=>?_⟩
      by_cases hjm:j'=m
      ·subst hjm;rw[hx]at hj;cases hj;exact hE
      ·exact h5 j' z h6 (by omega) hj
structure Done(P:Program)(G:gT)(N:Nat)(B:Nat->Prop)(ds:List Deferred)(β0:Bk)(Φ0 :Fz)(H0:aA)(w0:World)(ops:Array Oper)(l:List (AOper×Nat×Nat))(E:Nat->Env)(Hs:Nat->aA)(dd:Nat->D)(p:Nat->List (Nat×Nat))(S:Nat->Prop)(κ:Nat->Option (Nat×Nat))(env:Env)(H:aA):Prop where
 at_:At (eN l) (Oh l dd p) (fun t=>((E 0).get t,none)) S (fun t=>(env.get t,(κ t).map (·.1)))
 heap:∃e,e<=l.length∧H=Hs e∧∀(j:Nat) (x:AOper×Nat×Nat),l[j]? =some x->x.1.op.isE=true->(S j↔j<e)
 down:∀(i:Nat) (o:Oper),ops[i]? =some o->S i->∀q∈mY o,S q
theorem Plan.ready(hN:N<=65535)(T:Plan P r G b N call ops l E Hs dd p){S:Nat->Prop}{κ:Nat->Option (Nat×Nat)}(hD:Done P G N B ds β0 Φ0 H0 w0 ops l E Hs dd p S κ env H){i:Nat}{o:Oper}{x:AOper×Nat×Nat}
  (hi:ops[i]? =some o) (hx:l[i]? =some x) (hS:¬S i) (hp:∀q∈mY o,S q):
  ∃H',bD G b call env H x.1=some (dd i,H')∧(x.1.op.isE=true->H'=Hs (i+1))∧(x.1.op.isE=false->H'=H)∧
   (∀t,x.1.dst=some t->(κ t).map (·.1)=eV (p i) t)∧(∀t j,x.1.dst=some t->S j->eN l j=some t->j<=i)∧
   (x.1.op.isE=true->∀(j:Nat) (y:AOper×Nat×Nat),l[j]? =some y->y.1.op.isE=true->(S j∨j=i↔j<i+1)):=by
 have hil:i<l.length:=(List.getElem?_eq_some_iff.1 hx).1;have ordS:∀(j:Nat) (y:AOper×Nat×Nat),l[j]? =some y->ordered i ((qJ [] ops.toList).getD i 0) j ((qJ [] ops.toList).getD j 0)=true->j≠i->(S j↔j<i):=by
  intro j y hj ho hne;unfold ordered at ho;split at ho
  ·rename_i hlt
   rw[Nat.blt_eq]at hlt;exact⟨fun _=>hlt,fun _=>NV hD.down i o j hi hp ho⟩
  ·rename_i hlt
   rw[Nat.blt_eq]at hlt;refine⟨fun hSj=>?_,fun h=>absurd h hlt⟩;have hjl:j<l.length:=(List.getElem?_eq_some_iff.1 hj).1;obtain⟨o',ho'⟩:∃o',ops[j]? =some o':=⟨ops[j]'(by rw[← T.len];exact hjl),by simp⟩;exact absurd (NV hD.down j o' i ho' (hD.down j o' ho' hSj) ho) hS
 have notd:∀(j:Nat) (y:AOper×Nat×Nat),l[j]? =some y->j≠i->qG i x.1 x.1.reads x.2.1 x.2.2 j y.1=false->(S j↔j<i):=by
  intro j y hj hne hap;rcases T.draw i x j y hx hj with h | h | h
  ·exact absurd h hne
  ·exact ordS j y hj h hne
  ·rw[h]at hap;cases hap
 have rd:∀t,t∈x.1.reads->(E i).get t=env.get t:=by
  intro t ht;have:=At.eq (t:=t) (T.text hN i (by omega)) hD.at_ (fun j hj=>by
   obtain⟨y,hy,hyd⟩:=On hj;by_cases hne:j=i
   ·subst hne;exact⟨fun h=>by omega,fun h=>absurd h hS⟩
   ·refine(notd j y hy hne ?_).symm
    unfold qG;rw[hyd];simp[GF,JI ht])
  exact congrArg Prod.fst this
 have wr:∀(t j:Nat) (y:AOper×Nat×Nat),x.1.dst=some t->l[j]? =some y->y.1.dst=some t->j≠i->(S j↔j<i):=by
  intro t j y ht hy hyd hne;refine notd j y hy hne ?_;unfold qG;rw[hyd,ht];simp[CY]
 have like:mI x.1.reads (E i) env:=rd;obtain⟨hrun,_⟩:=T.run i x hx;have eE:x.1.op.isE=true->∀(j:Nat) (y:AOper×Nat×Nat),l[j]? =some y->y.1.op.isE=true->j≠i->(S j↔j<i):=by
  intro hE j y hy hyE hne;refine notd j y hy hne ?_;unfold qG;rw[hE,hyE];simp
 obtain⟨e,hel,hHe,heS⟩:=hD.heap;have heap:x.1.op.isE=true->H=Hs i:=by
  intro hE;have hei:e<=i:=by
   rcases Nat.lt_or_ge i e with h | h
   ·exact absurd ((heS i x hx hE).2 h) hS
   ·exact h
  rw[hHe];refine T.vS i hei (by omega) fun j y h1 h2 hy=>?_
  cases hyE:y.1.op.isE with
  | false=>rfl
  | true=>
   have h3:=(eE hE j y hy hyE (by omega)).2 h2;have h4:=(heS j y hy hyE).1 h3;omega
 have fin:∀H',bD G b call env H x.1=some (dd i,H')->(x.1.op.isE=true->H'=Hs (i+1))->(x.1.op.isE=false->H'=H)->_:=fun H' h1 h2 h3=>(⟨H',h1,h2,h3,fun t ht=>?_,fun t j ht hSj hj=>?_,fun hE j y hy hyE=>?_⟩:∃H',bD G b call env H x.1=some (dd i,H')∧(x.1.op.isE=true->H'=Hs (i+1))∧(x.1.op.isE=false->H'=H)∧
   (∀t,x.1.dst=some t->(κ t).map (·.1)=eV (p i) t)∧(∀t j,x.1.dst=some t->S j->eN l j=some t->j<=i)∧
   (x.1.op.isE=true->∀(j:Nat) (y:AOper×Nat×Nat),l[j]? =some y->y.1.op.isE=true->(S j∨j=i↔j<i+1)))
 ·rcases Bool.eq_false_or_eq_true x.1.op.isE with hE | hE
  ·refine fin (Hs (i+1)) ?_ (fun _=>rfl) (fun h=>by rw[hE]at h;cases h)
   rw[heap hE, ← FO like];exact hrun
  ·refine fin H ?_ (fun h=>by rw[hE]at h;cases h) (fun _=>rfl)
   rw[← FO like]
   cases hL:x.1.op.isL with
   | false=>exact XP hE hL hrun H
   | true=>
    have lE:∀(j:Nat) (y:AOper×Nat×Nat),l[j]? =some y->y.1.op.isE=true->(S j↔j<i)∨(if Nat.blt j i then Nat.ble x.2.1 j else Nat.blt j x.2.2)=true:=by
     intro j y hy hyE;by_cases hne:j=i
     ·subst hne;rw[hx]at hy;cases hy;rw[hE]at hyE;cases hyE
     ·cases hap:qG i x.1 x.1.reads x.2.1 x.2.2 j y.1 with
      | false=>exact .inl (notd j y hy hne hap)
      | true=>
       unfold qG at hap;rw[hE,hyE,hL]at hap;simp only[Bool.and_eq_true,Bool.not_true,Bool.false_or,Bool.not_false,Bool.true_and]at hap;exact .inr hap.2
    rcases Nat.lt_or_ge i e with hei | hei
    ·rcases Kz l i e (by omega)with hno | ⟨j,y,h1,h2,hy,hyE,hno⟩
     ·have:=T.vS e (by omega) hel hno
      rw[hHe, ← this];have hk:=W6 hE hrun;rw[hk]at hrun;exact hrun
     ·have hji:i<j:=by
       rcases Nat.lt_or_ge i j with h | h
       ·exact h
       ·have:j=i:=by omega
        subst this;rw[hx]at hy;cases hy;rw[hE]at hyE;cases hyE
      have hSj:S j:=(heS j y hy hyE).2 h2;rcases lE j y hy hyE with h | h
      ·have:=h.1 hSj;omega
      ·rw[if_neg (by rw[Nat.blt_eq];omega),Nat.blt_eq]at h
       have hs:=T.futL i x j y hx hE hL hy hyE hji h;have hc:=T.vS (e:=j+1) e (by omega) hel (fun j' y' h3 h4 h5=>hno j' y' (by omega) h4 h5);rw[hHe, ← hc];exact FM hE hs
    ·rcases KC l e i hei with hno | ⟨j,y,h1,h2,hy,hyE,hno⟩
     ·have:=T.vS i hei (by omega) hno
      rw[hHe,this];have hk:=W6 hE hrun;rw[hk]at hrun;exact hrun
     ·have hSj:¬S j:=fun h=>by have:=(heS j y hy hyE).1 h;omega
      rcases lE j y hy hyE with h | h
      ·exact absurd (h.2 h2) hSj
      ·rw[if_pos (by rw[Nat.blt_eq];omega),Nat.ble_eq]at h
       have hs:=T.slipL i x j y hx hE hL hy hyE h2 h;have hc:=T.vS (e:=e) j h1 (by omega) hno;rw[hHe,hc];exact FM hE hs
 ·have:=At.eq (t:=t) (T.text hN i (by omega)) hD.at_ (fun j hj=>by
   obtain⟨y,hy,hyd⟩:=On hj;by_cases hne:j=i
   ·subst hne;exact⟨fun h=>by omega,fun h=>absurd h hS⟩
   ·exact(wr t j y ht hy hyd hne).symm)
  exact(congrArg Prod.snd this).symm
 ·obtain⟨y,hy,hyd⟩:=On hj
  by_cases hne:j=i
  ·omega
  ·have:=(wr t j y ht hy hyd hne).1 hSj;omega
 ·by_cases hne:j=i
  ·subst hne;simp
  ·have:=eE hE j y hy hyE hne
   rw[this];omega
end
end Go.AM
namespace Go.AM
section
variable {P:Program}{G:Nat->Option (List D)}{b N:Nat}{B:Nat->Prop}{ds:List Deferred}{β β0:Bk}{Φ Φ0 :Fz}{H0 H:aA}{w0 w:World}{env:Env}{a:Act}{call:cT}
variable {ops:Array Oper}{l:List (AOper×Nat×Nat)}{E:Nat->Env}{Hs:Nat->aA}{dd:Nat->D}{p:Nat->List (Nat×Nat)}
theorem RS.like {κ:Nat->Option (Nat×Nat)}{env':Env}(h:RS P G N B ds β0 Φ0 H0 w0 κ β Φ env H a w)(he:∀t,env.get t=env'.get t):RS P G N B ds β0 Φ0 H0 w0 κ β Φ env' H a w:=
 ⟨h.ws,fun t=>by rw[← he t];exact h.er t,fun t=>by rw[← he t];exact h.eu t,h.size,h.dfr,h.ext,h.hole,h.inj⟩
theorem ZL {o:Oper}{q:Nat}(h:q∈mY o):∃e∈o.after,Region.binds .any e=true∧e.on=q:=by
 unfold mY at h;obtain⟨e,he,rfl⟩:=List.mem_map.1 h;obtain⟨h1,h2⟩:=List.mem_filter.1 he;exact⟨e,by simpa using h1,h2,rfl⟩
def iW(listed:Array Bool)(i:Nat):Prop:=listed.getD i false=true
theorem J6 {listed:Array Bool}{i:Nat}(hi:i<listed.size)(j:Nat):iW (listed.setIfInBounds i true) j↔(iW listed j∨j=i):=by
 unfold iW;simp only[Array.getD_eq_getD_getElem?,Array.getElem?_setIfInBounds];by_cases h:i=j
 ·subst h;simp[hi]
 ·rw[if_neg h]
  constructor
  ·exact fun hh=>.inl hh
  ·rintro(hh | rfl)
   ·exact hh
   ·exact absurd rfl h
theorem zMr {md:Region.Mode}{e:Edge}(h:Region.binds .any e=true):Region.binds md e=true:=by
 unfold Region.binds at h ⊢;split at h
 ·exact absurd h (by decide)
 ·exact absurd h (by decide)
 ·rfl
theorem zJf {md:Region.Mode}(hN:N<=65535)(hsim:qQ P G call)(hb:B b)(hB:∀b',B b'->b'<=b){r:Option Nat}{n:Nat}{Q:Exit->Act->World->Prop}(T:Plan P r G b N call ops l E Hs dd p)
  (hQ:∀β' Φ' κ' a' w',RS P G N B ds β0 Φ0 H0 w0 κ' β' Φ' (E l.length) (Hs l.length) a' w'->Q .normal a' w'):
  ∀(fuel:Nat) (listed:Array Bool) (κ:Nat->Option (Nat×Nat)) (β:Bk) (Φ :Fz) (env:Env) (H:aA) (a:Act) (w:World),listed.size=ops.size->oU listed.toList<=fuel->
   RS P G N B ds β0 Φ0 H0 w0 κ β Φ env H a w->Done P G N B ds β0 Φ0 H0 w0 ops l E Hs dd p (iW listed) κ env H->wpAnyIn (gN r) n P md ops Q fuel listed a w:=by
 have fin:∀(listed:Array Bool) (κ:Nat->Option (Nat×Nat)) (β:Bk) (Φ :Fz) (env:Env) (H:aA) (a:Act) (w:World),listed.size=ops.size->(∀i,i<ops.size->iW listed i)->
   RS P G N B ds β0 Φ0 H0 w0 κ β Φ env H a w->Done P G N B ds β0 Φ0 H0 w0 ops l E Hs dd p (iW listed) κ env H->Q .normal a w:=by
  intro listed κ β Φ env H a w hsz hall hrs hD;have hiff:∀j,iW listed j↔j<l.length:=fun j=>by
   rw[T.len];refine⟨fun h=>?_,hall j⟩;rcases Nat.lt_or_ge j ops.size with h' | h'
   ·exact h'
   ·unfold iW at h
    rw[Array.getD_eq_getD_getElem?,Array.getElem?_eq_none (by omega)]at h
    cases h
  have hH:H=Hs l.length:=by
   obtain⟨e,h1,h2,h3⟩:=hD.heap;rw[h2];refine T.vS l.length h1 (Nat.le_refl _) fun j x h4 h5 hx=>?_
   cases hE:x.1.op.isE with
   | false=>rfl
   | true=>
    have:=(h3 j x hx hE).1 ((hiff j).2 h5);omega
  have hE:∀t,env.get t=(E l.length).get t:=fun t=>by
   have:=At.eq (t:=t) hD.at_ (T.text hN l.length (Nat.le_refl _)) (fun j _=>hiff j);exact congrArg Prod.fst this
  rw[hH]at hrs;exact hQ _ _ _ _ _ (hrs.like hE)
 have somed:∀(listed:Array Bool),listed.size=ops.size->Region.ready md ops listed=[]->∀i,i<ops.size->iW listed i:=by
  intro listed hsz hr;obtain⟨ρ,hρ⟩:=T.preds md;have key:∀k i,ρ i=k->i<ops.size->iW listed i:=by
   intro k
   induction k using Nat.strongRecOn with
   | _ k ih=>
    intro i hk hi;rcases Bool.eq_false_or_eq_true (listed.getD i false)with h | h
    ·exact h
    ·exfalso
     have:i∈Region.ready md ops listed:=by
      refine mem_ready.2 ⟨?_,ops[i],by simp[hi],fun e he hbe=>?_⟩
      ·rw[Array.getD_eq_getD_getElem?,Array.getElem?_eq_getElem (by omega)]at h ⊢
       exact h
      ·obtain⟨h1,h2⟩:=hρ i ops[i] (by simp[hi]) e he hbe
       exact ih (ρ e.on) (by omega) e.on rfl h1
     rw[hr]at this;cases this
  exact fun i hi=>key (ρ i) i rfl hi
 intro fuel
 induction fuel with
 | zero=>
  intro listed κ β Φ env H a w hsz hf hrs hD;have hall:∀i,i<ops.size->iW listed i:=fun i hi=>by
   rcases Bool.eq_false_or_eq_true (listed.getD i false)with h | h
   ·exact h
   ·exfalso
    refine AV listed.toList (by omega) i ?_;rw[Array.getD_eq_getD_getElem?]at h;rw[Array.getElem?_toList];rw[Array.getElem?_eq_getElem (by omega)]at h ⊢;simpa using h
  refine⟨?_,fin listed κ β Φ env H a w hsz hall hrs hD⟩
  cases hr:Region.ready md ops listed with
  | nil=>rfl
  | cons i rs=>
   exfalso;have hm:i∈Region.ready md ops listed:=by rw[hr];simp
   obtain⟨h1,o,h2,_⟩:=mem_ready.1 hm;have hi:i<ops.size:=(Array.getElem?_eq_some_iff.1 h2).1;have:=hall i hi;unfold iW at this;rw[Array.getD_eq_getD_getElem?,Array.getElem?_eq_getElem (by omega)]at this h1;simp at this h1;rw[this]at h1;cases h1
 | succ fuel ih=>
  intro listed κ β Φ env H a w hsz hf hrs hD;refine⟨fun hr=>fin listed κ β Φ env H a w hsz (somed listed hsz hr) hrs hD,fun i hi=>?_⟩;obtain⟨h1,o,h2,h3⟩:=mem_ready.1 hi;have his:i<ops.size:=(Array.getElem?_eq_some_iff.1 h2).1;have hnot:listed[i]? =some false:=by
   rw[Array.getD_eq_getD_getElem?,Array.getElem?_eq_getElem (by omega)]at h1;rw[Array.getElem?_eq_getElem (by omega)];simpa using h1
  have hS:¬iW listed i:=by
   unfold iW;rw[Array.getD_eq_getD_getElem?,hnot];simp
  obtain⟨x,hx,hcx⟩:=T.comp i o h2;have hp:∀q∈mY o,iW listed q:=fun q hq=>by
   obtain⟨e,he,hbe,rfl⟩:=ZL hq;exact h3 e he (zMr hbe)
  obtain⟨H',g1,g2,g3,g4,g5,g6⟩:=T.ready hN hD h2 hx hS hp;have hps:=T.pend i x hx;have hd:eN l i=x.1.dst:=by simp[eN,hx]
  have κnone:∀t,x.1.dst=some t->eV (p i) t=none->κ t=none:=fun t ht hpn=>by
   have:=g4 t ht;rw[hpn]at this;simpa using this
  refine Z4 hN hsim h2 hrs hb hB hcx (T.fit i x hx) g1 (fun s e=>?_) (fun s y e=>?_) (fun e1 e2 t ht=>?_) (fun β' Φ' κ' a' w' hr k1 k2 k3=>?_)
  ·obtain⟨a1,t,a2,a3,_⟩:=hps.1 s e
   exact⟨a1,t,a2,κnone t a2 a3⟩
  ·obtain⟨a1,t,a2,a3,_⟩:=hps.2.1 s y e
   have:=g4 t a2;rw[a3]at this
   cases hk:κ t with
   | none=>rw[hk]at this;cases this
   | some z=>rw[hk]at this;simp at this;exact⟨a1,t,z.2,a2,by rw[hk, ← this]⟩
  ·exact κnone t ht ((hps.2.2 e1 e2).1 t ht)
  ·have hκ:∀t,(κ' t).map (·.1)=if x.1.dst=some t then eV (p (i+1)) t else(κ t).map (·.1):=by
    intro t
    cases hop:x.1.op
    case hole s=>
     obtain⟨_,u,hu,_,hp'⟩:=hps.1 s hop;obtain⟨k,rfl⟩:=k1 s u hop hu;rw[hu,hp',yB];unfold Holes.set;by_cases htu:t=u
     ·subst htu;simp
     ·rw[if_neg htu,if_neg (by simpa using fun e=>htu e.symm)]
    case fill s y=>
     obtain⟨_,u,hu,_,hp'⟩:=hps.2.1 s y hop;rw[k2 s y u hop hu,hu,hp',F6];unfold Holes.set;by_cases htu:t=u
     ·subst htu;simp
     ·rw[if_neg htu,if_neg (by simpa using fun e=>htu e.symm)]
    all_goals
     have e1:∀s,x.1.op≠ .hole s:=fun s e=>by rw[hop]at e;cases e
     have e2:∀s y,x.1.op≠ .fill s y:=fun s y e=>by rw[hop]at e;cases e
     obtain⟨h4,h5⟩:=hps.2.2 e1 e2;rw[k3 e1 e2];by_cases ht:x.1.dst=some t
     ·rw[if_pos ht,h5,h4 t ht,κnone t ht (h4 t ht)];rfl
     ·rw[if_neg ht]
   refine ih (listed.setIfInBounds i true) κ' β' Φ' _ H' _ w' (by simpa using hsz) ?_ hr ⟨?_,?_,fun j o' hj hjS q hq=>?_⟩
   ·have hset:(listed.setIfInBounds i true).toList=listed.toList.set i true:=by simp
    rw[hset];have:=AW listed.toList i (by simpa using hnot);omega
   ·refine hD.at_.step (i:=i) (J6 (by omega)) (fun t j ht hj hjt=>?_) (fun t ht=>?_) (fun t ht=>?_)
    ·rw[hd]at ht;exact g5 t j ht hj hjt
    ·rw[hd]at ht
     show((bS env x.1.dst (dd i)).get t,(κ' t).map (·.1))=(dd i,(eN l i).bind (eV (p (i+1))));rw[Y7 hN (fun u hu=>wF (T.fit i x hx) hu),if_pos ht,hκ t,if_pos ht,hd,ht];rfl
    ·rw[hd]at ht
     show((bS env x.1.dst (dd i)).get t,(κ' t).map (·.1))=(env.get t,(κ t).map (·.1));rw[Y7 hN (fun u hu=>wF (T.fit i x hx) hu),if_neg ht,hκ t,if_neg ht]
   ·obtain⟨e,he1,he2,he3⟩:=hD.heap
    rcases Bool.eq_false_or_eq_true x.1.op.isE with hE | hE
    ·refine⟨i+1,by rw[T.len];omega,g2 hE,fun j y hy hyE=>?_⟩
     rw[J6 (by omega)];exact g6 hE j y hy hyE
    ·refine⟨e,he1,by rw[g3 hE,he2],fun j y hy hyE=>?_⟩
     rw[J6 (by omega)];rw[← he3 j y hy hyE];constructor
     ·rintro(h | rfl)
      ·exact h
      ·rw[hx]at hy;cases hy;rw[hE]at hyE;cases hyE
     ·exact fun h=>.inl h
   ·rw[J6 (by omega)]at hjS
    rw[J6 (by omega)];rcases hjS with h | rfl
    ·exact .inl (hD.down j o' hj h q hq)
    ·rw[h2]at hj;cases hj
     exact .inl (hp q hq)
theorem WE(mixed:Bool)(ops:Array Oper)(t:Nat):Region.schedule mixed ops t=
  Region.linearise.go (if(mixed || !Region.departs ops)=true then .any else if(t % 2 == 0)=true then .text else .gc) ops ops.size (if(mixed || !Region.departs ops)=true then t else t / 2) (Array.replicate ops.size false) []:=by
 unfold Region.schedule Region.linearise;split <;> rfl
theorem YA(hN:N<=65535)(hsim:qQ P G call){r:Option Nat}{n id:Nat}{Q:Exit->Act->World->Prop}(hb:B b)(hB:∀b',B b'->b'<=b){pol:Nat->Option Pol}(hq:∀i f,pol i=some (.quiet f)->r=none∧Quiet P f){as:List AOper}
  (hc:lC P pol ops 0 ops.toList=some as) (hp:Mv ops as=some l) (hf:L6 N l=true) (hrs:RS P G N B ds β0 Φ0 H0 w0 (fun _=>none) β Φ env H a w) {env':Env} {H':aA} {fut:List (Nat×aA)} (hrun:cV G b call 0 l [] env H=some (env',H',fut))
  (hQ:∀β' Φ' κ' a' w',RS P G N B ds β0 Φ0 H0 w0 κ' β' Φ' env' H' a' w'->Q .normal a' w'):(Code.region id ops true).wpIn (gN r) n P Q a w:=by
 unfold Mv at hp;simp only at hp;split at hp
 ·rename_i hchk
  simp only[Option.some.injEq]at hp;rw[hp]at hchk;simp only[Bool.and_eq_true]at hchk;obtain⟨hpend,⟨⟨hra,hrt⟩,hrg⟩,hdraw⟩:=hchk;obtain⟨E,Hs,dd,T⟩:=XQ l 0 [] env H env' H' fut hrun;obtain⟨p,hp0,hpp⟩:=GQ as [] hpend;obtain⟨L,hL1,hL2,_⟩:=Ol ops.toList [];have hlen:as.length=ops.toList.length:=LK hq hc;have hmap:l.map (·.1)=as:=by
   rw[← hp];exact CG (by rw[hL1];simp[hL2,hlen])
  have hll:l.length=ops.size:=by
   have:=congrArg List.length hmap;simp at this;rw[this,hlen];simp
  have hget:∀(i:Nat) (x:AOper),as[i]? =some x->∃y:AOper×Nat×Nat,l[i]? =some y∧y.1=x:=fun i x hx=>by
   rw[← hmap,List.getElem?_map]at hx;simpa only[Option.map_eq_some_iff]using hx
  have PL:Plan P r G b N call ops l E Hs dd p:=by
   refine⟨hll,fun i o hi=>?_,fun i x hx=>KB hf i x hx,fun i x hx=>?_,fun i x j y hx h1 h2 hy h3 h4 h5=>?_,fun i x j y hx h1 h2 hy h3 h4 h5=>?_,hp0,fun i x hx=>?_,fun md=>?_,fun i x j y hx hy=>?_⟩
   ·obtain⟨x,hx,hcx⟩:=LL hq hc i o (by simpa using hi)
    obtain⟨y,hy,rfl⟩:=hget i x hx;exact⟨y,hy,hcx⟩
   ·have:=T.run i x hx;simpa using this
   ·have:=T.slipL i x j y hx h1 h2 hy h3 h4 (by simpa using h5);simpa using this
   ·have:=T.futL i x j y hx h1 h2 hy h3 h4 (by simpa using h5);simpa using this
   ·refine hpp i x.1 ?_
    rw[← hmap];simp[hx]
   ·have hrk:Y5 md ops=true:=by cases md <;> assumption
    refine⟨fun j=>(GH md ops).getD j ops.size,fun i o hi e he hbe=>?_⟩;have:=GG hrk i o (by simpa using hi) e he hbe;simpa using this
   ·have:=KV hdraw i x hx j y hy
    simpa using this
  refine wpIn_region_draw fun t=>?_
  rw[WE];refine wpAnyIn_sound _ _ _ _ _ ?_;have hE0:E 0=env:=T.e0;have hEn:E l.length=env':=by have:=T.eF;simpa using this
  have hHn:Hs l.length=H':=by have:=T.hF;simpa using this
  have hrs':RS P G N B ds β0 Φ0 H0 w0 (fun _=>none) β Φ env H a { w with drawn:=w.drawn+1 } :=
   ⟨⟨hrs.ws.wr.same rfl,hrs.ws.ids⟩,hrs.er,hrs.eu,hrs.size,hrs.dfr,hrs.ext.trans (Ext.zEB _ _ _ _ _),fun t s k hk=>(by cases hk),fun t t' s s' k hk=>(by cases hk)⟩
  refine zJf hN hsim hb hB PL (by rw[hEn,hHn];exact hQ) ops.size _ (fun _=>none) β Φ env H a _ (by simp) ?_ hrs' ⟨?_,⟨0,Nat.zero_le _,T.h0.symm,fun j x hx hE=>?_⟩,fun i o hi hS=>?_⟩
  ·have:∀m,oU (List.replicate m false)=m:=fun m=>by
    induction m with
    | zero=>rfl
    | succ m ih=>rw[List.replicate_succ,oU,ih];simp;omega
   rw[Array.toList_replicate,this];exact Nat.le_refl _
  ·rw[hE0]
   refine At.nil fun j hj=>?_
   unfold iW at hj;rw[Array.getD_eq_getD_getElem?,Array.getElem?_replicate]at hj;split at hj <;> simp at hj
  ·refine⟨fun hj=>?_,fun hj=>by omega⟩
   unfold iW at hj;rw[Array.getD_eq_getD_getElem?,Array.getElem?_replicate]at hj;split at hj <;> simp at hj
  ·unfold iW at hS
   rw[Array.getD_eq_getD_getElem?,Array.getElem?_replicate]at hS;split at hS <;> simp at hS
 ·cases hp
end
end Go.AM
