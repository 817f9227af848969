/- Walks. -/
import Derived.Test.YtbgdifdbgcgjnaaGreatDoorWalkA
set_option linter.unusedVariables false
set_option linter.unusedSimpArgs false
set_option linter.unnecessarySimpa false
set_option maxRecDepth 100000
namespace Go.AM.T
section
variable {X:Ctx}
def Zr(X:Ctx)(s:PS):Prop:=∃(e:Expr) (n:Int) (s':PS),aL s.end_ e∧s.to s'∧∀(G:aA) (p:Nat),G[p]? =some s.box->cF X I0 [.ptr p 0] G=some (.tup [.agg e.cells,.int .i64 n],G.set p s'.box)
theorem oV {m:Int}{a b:Expr}(ha:aL m a)(hb:aL m b):∀x∈ [a,b],aL m x:=by
 intro x hx;simp at hx;rcases hx with rfl | rfl <;> assumption
theorem sW {m:Int}{a:Expr}(ha:aL m a):∀x∈ [a],aL m x:=by
 intro x hx;rw[List.mem_singleton.1 hx];exact ha
set_option maxHeartbeats 1000000 in
theorem zFU(hX:CX X){D:Nat}(hkey:∀s:PS,s.good->s.depth=D->Zr X s)(ha:∀s:PS,s.good->s.depth=D->bB X tB [] s):∀s:PS,s.good->s.depth=D->bB X I1 [] s:=by
 intro s hg hd;have hh:∀(H:aA) (p:Nat),H[p]? =some s.box->cF X fR [.ptr p 0] H=some (.int .i64 s.here,H):=fun H p h=>lJ hX h hg.ok
 have hk:∀(G:aA) (p:Nat),G[p]? =some s.box->cF X eI [.ptr p 0] G=some (.int .i64 s.kind,G):=fun G p h=>kV hX h hg.ok
 have hho:=PS.pN hg;have h1e:aL s.end_ (eK 1 [] [] .nil [] s.here):=cK (by decide) (by decide) (by decide) (by simp) hho.1 hho.2;by_cases h5:s.kind=5
 ·have htx:∀(G:aA) (p:Nat),G[p]? =some s.box->cF X fL [.ptr p 0,.int .i64 5] G=some (.str (s.text 5),G.set p (s.past 5).box):=fun G p h=>mV hX h hg.ok 5 (by decide)
  have htl:=PS.jU hg 5;have ea:aL s.end_ (eK 9 [] (s.text 5) .nil [] s.here):=cK (by decide) (by omega) (by decide) (by simp) hho.1 hho.2;have eb:aL s.end_ (eK 16 (s.text 5) [] .nil [] s.here):=cK htl (by decide) (by decide) (by simp) hho.1 hho.2;refine⟨eK 14 [] [] .full [eK 9 [] (s.text 5) .nil [] s.here,eK 16 (s.text 5) [] .nil [] s.here] s.here,s.past 5,cK (by decide) (by decide) (by simp) (oV ea eb) hho.1 hho.2,PS.jH hg (by decide),fun G p hp=>?_⟩;refine Bj hX ?_;have hi:=In.of hp;generalize s.text 5=tx at *;generalize s.past 5=sx at *;generalize s.here=hr at *;simp[tX,aB,hp,hi,hh,hk,h5,htx,z0,z2,aW,aH,bW,dH,gQ,cA]
 ·obtain⟨e1,n,s1,he1,ht1,hc1⟩:=hkey s hg hd
  have hi1:∀(G:aA) (p:Nat),G[p]? =some s1.box->cF X pI [.ptr p 0,.int .i64 4,.str [58]] G=some (.bool (s1.is 4 [58]),G):=fun G p h=>X8 hX h ht1.good.ok 4 [58]
  have he1l:=(mJ.1 he1).2.1;by_cases hq:s1.bad=0∧n≠0∧s1.is 4 [58]=false
  ·obtain⟨q1,q2,q3⟩:=hq
   rw[q3]at hi1;by_cases hn:n=1
   ·have e3:aL s.end_ (eK 3 [] e1.text .full [eK 1 [] [] .nil [] s.here] s.here):=cK (by decide) he1l (by simp) (sW h1e) hho.1 hho.2
    refine⟨eK 14 [] [] .full [e1,eK 3 [] e1.text .full [eK 1 [] [] .nil [] s.here] s.here] s.here,s1,cK (by decide) (by decide) (by simp) (oV he1 e3) hho.1 hho.2,ht1,fun G p hp=>?_⟩;refine Bj hX ?_;have hi:=In.of hp;generalize s.here=hr at *;simp[tX,aB,hp,hi,hh,hk,h5,hc1,q1,hi1,hn,z0,z2,aW,aH,bW,dH,fH,gQ,cA,Expr.bI,gB,Go.AM.D.cS,Go.AM.D.cW]
   ·have e4:aL s.end_ (eK 4 [] [] .full [eK 1 [] [] .nil [] s.here,e1] s.here):=cK (by decide) (by decide) (by simp) (oV h1e he1) hho.1 hho.2
    refine⟨eK 14 [] [] .full [e1,eK 4 [] [] .full [eK 1 [] [] .nil [] s.here,e1] s.here] s.here,s1,cK (by decide) (by decide) (by simp) (oV he1 e4) hho.1 hho.2,ht1,fun G p hp=>?_⟩;refine Bj hX ?_;have hi:=In.of hp;generalize s.here=hr at *;simp[tX,aB,hp,hi,hh,hk,h5,hc1,q1,q2,hi1,hn,z0,z2,aW,aH,bW,dH,fH,gQ,cA,Expr.bI,gB,Go.AM.D.cS,Go.AM.D.cW]
  ·have hw:∀(H:aA) (p:Nat),H[p]? =some s1.box->cF X cN [.ptr p 0,.int .i64 4,.str [58]] H=some (.tup [],H.set p (s1.want 4 [58]).box):=fun H p h=>iY hX h ht1.good.ok 4 [58]
   have k2:=PS.dO ht1.good 4 [58];obtain⟨e2,s2,he2,ht2,hc2⟩:=ha (s1.want 4 [58]) k2.good (by rw[k2.dep,ht1.dep,hd]);have he2':aL s.end_ e2:=by rw[← ht1.e, ← k2.e];exact he2
   have hat:=aL.at_ he1;refine⟨eK 14 [] [] .full [e1,e2] e1.at_,s2,cK (by decide) (by decide) (by simp) (oV he1 he2') hat.1 hat.2,(ht1.trans k2).trans ht2,fun G p hp=>?_⟩;refine Bj hX ?_;have hi:=In.of hp;generalize s1.want 4 [58]=sw at *;generalize s.here=hr at *;by_cases q1:s1.bad=0
   ·by_cases q2:n=0
    ·simp[tX,aB,hp,hi,hh,hk,h5,hc1,q1,q2,hi1,hw,hc2,z0,z2,aW,aH,bW,dH,gQ,cA,Expr.bI,gB,Go.AM.D.cS,Go.AM.D.cW,aQ,aR,aS,aT,aO,aP,Fb, -aN]
    ·have q3:s1.is 4 [58]=true:=by
      cases q:s1.is 4 [58]with
      | true=>rfl
      | false=>exact absurd ⟨q1,q2,q⟩ hq
     rw[q3]at hi1;simp[tX,aB,hp,hi,hh,hk,h5,hc1,q1,q2,hi1,hw,hc2,z0,z2,aW,aH,bW,dH,gQ,cA,Expr.bI,gB,Go.AM.D.cS,Go.AM.D.cW,aQ,aR,aS,aT,aO,aP,Fb, -aN]
   ·simp[tX,aB,hp,hi,hh,hk,h5,hc1,q1,hi1,hw,hc2,z0,z2,aW,aH,bW,dH,gQ,cA,Expr.bI,gB,Go.AM.D.cS,Go.AM.D.cW,aQ,aR,aS,aT,aO,aP,Fb, -aN]
end
section
variable {X:Ctx}
abbrev pD(k a:Int)(n1:Bs)(id n:Nat):Chunk:=.box [.int .i64 k,.str n1,.str [],.bool false,.nilsl,.int .i64 0,.osl id (n*10) 0 n,.nilsl,.nilsl,.int .i64 a]
theorem zEF(hX:CX X){D:Nat}(hs:∀s:PS,s.good->s.depth=D->bB X I1 [] s):∀(n:Nat) (t:PS) (l:List Expr) (nl:Bool),(nl=true->l=[])->t.good->t.depth=D->(∀x∈l,aL t.end_ x)->l.length<=t.at_->t.l.length-t.at_<=n->∃l' nl' t',(nl'=true->l'=[])∧(∀x∈l',aL t.end_ x)∧l'.length<=1000001∧t.to t'∧∀(G:aA) (p:Nat) (env:Env) (K:List Fr) (Q:Ex->St->Prop) (c1:Chunk) (a:Int),In G p->env.get 0=.ptr p 0->env.get 5=.ptr (G.length+2) 0->(∀env':Env,(∀k,k<6->env'.get k=env.get k)->YX X G.length none (.exit 0) K ⟨env',G.set p t'.box++[c1,.row 10 (Expr.aC l') nl',pD 13 a [] (G.length+1) l'.length],[]⟩ Q)->YS X G.length none (.loop S1) K ⟨env,G.set p t.box++[c1,.row 10 (Expr.aC l) nl,pD 13 a [] (G.length+1) l.length],[]⟩ Q:=by
 intro n
 induction n using Nat.strongRecOn with
 | ind n ih=>
  intro t l nl hnl ht hd he hll hn;have hlt0:=ht.ok.at_;have hlt1:=ht.ok.len;by_cases hb:t.bad=0
  ·obtain⟨e2,t2,he2,ht2,hc2⟩:=hs t ht hd
   have tk:∀(H:aA) (p:Nat),H[p]? =some t2.box->cF X bE [.ptr p 0,.int .i64 4,.str [44]] H=some (.bool (t2.is 4 [44]),H.set p (if t2.is 4 [44]then t2.next else t2).box):=fun H p h=>eQ hX h ht2.good.ok 4 [44]
   have q2:=ht2.at_;have hlen:(l++[e2]).length=l.length+1:=by simp
   have hall:∀x∈l++[e2],aL t.end_ x:=by
    intro x hx;rcases List.mem_append.1 hx with h | h
    ·exact he x h
    ·rw[List.mem_singleton.1 h];exact he2
   have hap:∀(G:aA) (p:Nat) (c1 c3:Chunk) b,cR b (G.set p t2.box++[c1,.row 10 (Expr.aC l) nl,c3]) 10 160 (.osl (G.length+1) (l.length*10) 0 l.length) e2.cells 1=some (.osl (G.length+1) ((l.length+1)*10) 0 (l.length+1),G.set p t2.box++[c1,.row 10 (Expr.aC (l++[e2])) false,c3]):=fun G p c1 c3 b=>by
    rw[Bp (nl:=nl) e2 (by rw[List.getElem?_append_right (by simp)];simp) hnl (by omega)];congr 2;rw[List.set_append_right _ _ (by simp)];simp
   have hel:∀H:aA,elems H 10 (.fsl e2.cells 1)=some (e2.cells,1):=fun H=>by simp[elems,Expr.aK]
   have hst:∀(G H':aA) (n:Nat),H'.length=G.length+3->storable G.length H' (G.length+2) [.osl (G.length+1) (n*10) 0 n]=true:=fun G H' n hl=>by
    unfold storable;rw[if_neg (by omega),hl];simp[Go.AM.D.aD,Go.AM.D.aF,Go.AM.D.one,Go.AM.D.under]
   by_cases hop:t2.is 4 [44]=true
   ·simp only[hop,if_true]at tk
    have k1:=PS.cC ht2.good (PS.is_lt hop);have hlt:t2.next.l.length-t2.next.at_<n:=by
     have q1:t2.next.l.length=t.l.length:=by show t2.l.length=_;rw[ht2.l]
     have q3:t2.next.at_=t2.at_+1:=rfl;have:=PS.is_lt hop;have:t2.l.length=t.l.length:=by rw[ht2.l]
     omega
    obtain⟨l',nl',t',hnl',he',hl',ht',hgo⟩:=ih _ hlt t2.next (l++[e2]) false (by simp) k1.good (by rw[k1.dep,ht2.dep,hd]) (by rw[k1.e,ht2.e];exact hall) (by rw[hlen];show _<=t2.at_+1;omega) (Nat.le_refl _);refine⟨l',nl',t',hnl',by rw[← ht2.e, ← k1.e];exact he',hl',(ht2.trans k1).trans ht',fun G p env K Q c1 a hi g0 g5 hk=>?_⟩;have hap':=hap G p c1;have hst':=hst G;refine bA fun L hL=>?_
    rw[hlen]at hgo;generalize hA:Expr.aC l=A at *;generalize hB:Expr.aC (l++[e2])=B at *;simp[S1,g0,g5,hi,hb,hc2,tk,z0,hel,hap',hst',aH,Expr.bI,aQ,aR,aS,aT,aO,aP, -aN];rw[hL];refine hgo G p _ K Q c1 a hi ?_ ?_ fun env' j=>hk env' (fun k hk'=>?_)
    ·simp[g0]
    ·simp[g5]
    ·rw[j k hk']
     have:k=0∨k=1∨k=2∨k=3∨k=4∨k=5:=by omega
     rcases this with rfl | rfl | rfl | rfl | rfl | rfl <;> simp
   ·simp only[hop,if_false,Bool.false_eq_true]at tk
    refine⟨l++[e2],false,t2,by simp,hall,by rw[hlen];omega,ht2,fun G p env K Q c1 a hi g0 g5 hk=>?_⟩;have hap':=hap G p c1;have hst':=hst G;rw[hlen]at hk;refine bA fun L hL=>?_
    generalize hA:Expr.aC l=A at *;generalize hB:Expr.aC (l++[e2])=B at *;simp[S1,g0,g5,hi,hb,hc2,tk,z0,hel,hap',hst',aH,Expr.bI,aQ,aR,aS,aT,aO,aP, -aN];refine hk _ fun k hk'=>?_
    have:k=0∨k=1∨k=2∨k=3∨k=4∨k=5:=by omega
    rcases this with rfl | rfl | rfl | rfl | rfl | rfl <;> simp
  ·refine⟨l,nl,t,hnl,he,by omega,PS.to.refl ht,fun G p env K Q c1 a hi g0 g5 hk=>?_⟩
   refine bA fun L hL=>?_
   simp[S1,g0,g5,hi,hb];refine hk _ fun k hk'=>?_
   have:k=0∨k=1∨k=2∨k=3∨k=4∨k=5:=by omega
   rcases this with rfl | rfl | rfl | rfl | rfl | rfl <;> simp
set_option maxHeartbeats 1000000 in
theorem zFQ(hX:CX X){D:Nat}(hs:∀s:PS,s.good->s.depth=D->bB X I1 [] s):∀(s:PS) (a:Int),s.good->s.depth=D->0<=a->a<=s.end_->bB X o8 [.int .i64 a] s:=by
 intro s a hg hd ha0 ha1;have tk:∀(t:Bs) (H:aA) (p:Nat),H[p]? =some s.box->cF X bE [.ptr p 0,.int .i64 4,.str t] H=some (.bool (s.is 4 t),H.set p (if s.is 4 t then s.next else s).box):=fun t H p h=>eQ hX h hg.ok 4 t
 have t1:=tk [125];by_cases h1:s.is 4 [125]=true
 ·simp only[h1,if_true]at t1
  refine⟨eK 13 [] [] .nil [] a,s.next,cK (by decide) (by decide) (by decide) (by simp) ha0 ha1,PS.cC hg (PS.is_lt h1),fun G p hp=>?_⟩;refine MY hX ?_;have hi:=In.of hp;generalize s.next=sx at *;simp[Dy,aB,hp,hi,t1,z0,aW,bU,storable,Go.AM.D.aD,Go.AM.D.under,Go.AM.D.aF,Go.AM.D.one,bW,dH]
 ·simp only[h1,if_false,Bool.false_eq_true]at t1
  obtain⟨l,nl,t,hnl,he,hl,ht,hgo⟩:=zEF hX hs _ s [] true (by simp) hg hd (by simp) (by simp) (Nat.le_refl _);have hw:∀(H:aA) (p:Nat),H[p]? =some t.box->cF X cN [.ptr p 0,.int .i64 4,.str [125]] H=some (.tup [],H.set p (t.want 4 [125]).box):=fun H p h=>iY hX h ht.good.ok 4 [125]
  refine⟨eK 13 [] [] (if nl then .nil else .full) l a,t.want 4 [125],cK (by decide) (by decide) (by omega) he ha0 ha1,ht.trans (PS.dO ht.good 4 [125]),fun G p hp=>?_⟩;refine MY hX ?_;have hi:=In.of hp;simp[Dy,hp,hi,t1,dE hp,z0,aW,bU,storable,Go.AM.D.aD,Go.AM.D.under,Go.AM.D.aF,Go.AM.D.one];have hg2:=hgo G p;simp only[dE hp]at hg2;refine hg2 _ _ _ _ a hi ?_ ?_ fun env' j=>?_
  ·simp
  ·simp
  have j0:=j 0 (by decide);have j4:=j 4 (by decide);have j5:=j 5 (by decide);simp at j0 j4 j5;generalize t.want 4 [125]=sx at *;have hst:∀(H':aA) (x:Int),H'.length=G.length+3->storable G.length H' G.length [.int .i64 13,.str [],.str [],.bool false,.nilsl,.int .i64 0,.osl (G.length+1) (l.length*10) 0 l.length,.nilsl,.nilsl,.int .i64 x]=true:=fun H' x hl=>by
   unfold storable;rw[if_neg (by omega),hl];simp[Go.AM.D.aD,Go.AM.D.aF,Go.AM.D.one,Go.AM.D.under]
  have htake:List.take (l.length*10) (Expr.aC l)=Expr.aC l:=List.take_of_length_le (by rw[Expr.bC];exact Nat.le_refl _)
  cases nl with
  | true=>
   obtain rfl:=hnl rfl;simp[aB,j0,j4,j5,hi,hw,hst,aW,bW,SL,Expr.aC,storable,Go.AM.D.aD,Go.AM.D.under,Go.AM.D.aF,Go.AM.D.one]
  | false=>
   simp[aB,j0,j4,j5,hi,hw,hst,aW,bW,cA,Expr.bC,htake,Expr.eY,Expr.dQ,Expr.dT]
end
section
variable {X:Ctx}
def PE(X:Ctx)(s:PS):Prop:=∃(e:Def) (s':PS),uE s.end_ e∧s.to s'∧∀(G:aA) (p:Nat),G[p]? =some s.box->cF X Ke [.ptr p 0] G=some (.agg e.cells,G.set p s'.box)
def eX(k:Int)(n t:Bs)(f:Nl)(ks:List Expr)(pf:Nl)(ps:List Pat)(df:Nl)(ds:List Def)(a:Int):Expr:=.mk k n t dN f ks pf ps df ds a
theorem N0 {m k a:Int}{n t:Bs}{f pf df:Nl}{ks:List Expr}{ps:List Pat}{ds:List Def}(hn:n.length<=1000000)(ht:t.length<=1000000000000)(hk:ks.length<=2000000)(h:∀x∈ks,aL m x)(hp:bV ps<=4000000)(h':∀x∈ps,fC m x)(hd:ds.length<=2000000)(h'':∀x∈ds,uE m x)(h0:0<=a)(h1:a<=m):aL m (eX k n t f ks pf ps df ds a):=
 mJ.2 ⟨hn,ht,rW,hk,h,hp,h',hd,h'',h0,h1⟩
theorem N1(k a:Int)(n t:Bs)(f pf df:Nl)(ks:List Expr)(ps:List Pat)(ds:List Def):(eX k n t f ks pf ps df ds a).cells=[.int .i64 k,.str n,.str t,.bool false,.nilsl,.int .i64 0,SL f (Expr.aC ks) ks.length,SL pf (Pat.aC ps) ps.length,SL df (Def.aC ds) ds.length,.int .i64 a]:=by simp[eX,dN,Expr.cells,Dec.cells,SL]
theorem zKe(a:Def):Def.aC [a]=a.cells:=by simp[Def.aC]
theorem zS(a:Pat):Pat.aC [a]=a.cells:=by simp[Pat.aC]
theorem Zo:SL .nil (Pat.aC []) 0=.nilsl:=by simp[SL,Pat.aC]
theorem T7:SL .nil (Def.aC []) 0=.nilsl:=by simp[SL,Def.aC]
theorem zJQ(hX:CX X){D:Nat}(hs:∀s:PS,s.good->s.depth=D->bB X tB [] s):∀(n:Nat) (t:PS) (l:List Expr),t.good->t.depth=D->(∀x∈l,aL t.end_ x)->l≠ []->l.length<=t.at_+1->t.l.length-t.at_<=n->∃l' t',(∀x∈l',aL t.end_ x)∧l'≠ []∧l'.length<=1000001∧t.to t'∧∀(G:aA) (p:Nat) (env:Env) (K:List Fr) (Q:Ex->St->Prop) (c1:Chunk),In G p->env.get 0=.ptr p 0->env.get 6=.osl (G.length+1) (l.length*10) 0 l.length->(∀env':Env,(∀k,k<6->env'.get k=env.get k)->env'.get 6=.osl (G.length+1) (l'.length*10) 0 l'.length->YX X G.length none (.exit 1) K ⟨env',G.set p t'.box++[c1,.row 10 (Expr.aC l') false],[]⟩ Q)->YS X G.length none (.loop Dr) K ⟨env,G.set p t.box++[c1,.row 10 (Expr.aC l) false],[]⟩ Q:=by
 intro n
 induction n using Nat.strongRecOn with
 | ind n ih=>
  intro t l ht hd he hne hll hn;have hsg:∀(H:aA) (p:Nat),H[p]? =some t.box->cF X bE [.ptr p 0,.int .i64 4,.str [44]] H=some (.bool (t.is 4 [44]),H.set p (if t.is 4 [44]then t.next else t).box):=fun H p hp=>eQ hX hp ht.ok 4 [44]
  have hlt0:=ht.ok.at_;have hlt1:=ht.ok.len;by_cases hop:t.is 4 [44]=true
  ·have hl:=PS.is_lt hop
   simp only[hop,if_true]at hsg;have h1:=PS.cC ht hl;obtain⟨e2,t2,he2,ht2,hc2⟩:=hs t.next h1.good (h1.dep.trans hd);have q2:t.at_+1<=t2.at_:=ht2.at_;have hlt:t2.l.length-t2.at_<n:=by
    have q1:t2.l.length=t.l.length:=by rw[ht2.l];rfl
    omega
   have hall:∀x∈l++[e2],aL t2.end_ x:=by
    intro x hx;rw[ht2.e,h1.e];rcases List.mem_append.1 hx with h | h
    ·exact he x h
    ·rw[List.mem_singleton.1 h, ← h1.e];exact he2
   obtain⟨l',t',he',hn',hl',ht',hgo⟩:=ih (t2.l.length-t2.at_) hlt t2 (l++[e2]) ht2.good (by rw[ht2.dep,h1.dep,hd]) hall (by simp) (by simp;omega) (Nat.le_refl _);refine⟨l',t',by rw[← h1.e, ← ht2.e];exact he',hn',hl',(h1.trans ht2).trans ht',fun G p env K Q c1 hi g0 g6 hk=>?_⟩;have hap:∀b,cR b (G.set p t2.box++[c1,.row 10 (Expr.aC l) false]) 10 160 (.osl (G.length+1) (l.length*10) 0 l.length) e2.cells 1=some (.osl (G.length+1) ((l.length+1)*10) 0 (l.length+1),G.set p t2.box++[c1,.row 10 (Expr.aC (l++[e2])) false]):=fun b=>by
    rw[Bp (nl:=false) e2 (by rw[List.getElem?_append_right (by simp)];simp) (by simp) (by omega)];congr 2;rw[List.set_append_right _ _ (by simp)];simp
   have hel:∀H:aA,elems H 10 (.fsl e2.cells 1)=some (e2.cells,1):=fun H=>by simp[elems,Expr.aK]
   refine bA fun L hL=>?_
   generalize hA:Expr.aC l=A at *;generalize hB:Expr.aC (l++[e2])=B at *;simp[Dr,g0,g6,hi,hsg,hc2,aH,z0,hel,hap,Expr.bI];rw[hL];refine hgo G p _ K Q c1 hi ?_ ?_ fun env' j j6=>hk env' (fun k hk'=>?_) j6
   ·simp[g0]
   ·simp
   ·rw[j k hk']
    have:k=0∨k=1∨k=2∨k=3∨k=4∨k=5:=by omega
    rcases this with rfl | rfl | rfl | rfl | rfl | rfl <;> simp
  ·simp only[hop,if_false,Bool.false_eq_true]at hsg
   refine⟨l,t,he,hne,by omega,PS.to.refl ht,fun G p env K Q c1 hi g0 g6 hk=>?_⟩;refine bA fun L hL=>?_
   simp[Dr,g0,g6,hi,hsg];refine hk _ (fun k hk'=>?_) (by simp[g6]);have:k=0∨k=1∨k=2∨k=3∨k=4∨k=5:=by omega
   rcases this with rfl | rfl | rfl | rfl | rfl | rfl <;> simp
set_option maxHeartbeats 1000000 in
theorem zFL(hX:CX X){D:Nat}(hdf:∀s:PS,s.good->s.depth=D->PE X s)(hr:∀s:PS,s.good->s.depth=D->bB X o7 [] s)(hpp:∀s:PS,s.good->s.depth=D->bB X dF [] s)(ha:∀s:PS,s.good->s.depth=D->bB X tB [] s):∀s:PS,s.good->s.depth=D->bB X yM [] s:=by
 intro s hg hd;have tk:∀(t:Bs) (H:aA) (p:Nat),H[p]? =some s.box->cF X bE [.ptr p 0,.int .i64 1,.str t] H=some (.bool (s.is 1 t),H.set p (if s.is 1 t then s.next else s).box):=fun t H p h=>eQ hX h hg.ok 1 t
 have hh:∀(H:aA) (p:Nat),H[p]? =some s.box->cF X fR [.ptr p 0] H=some (.int .i64 s.here,H):=fun H p h=>lJ hX h hg.ok
 have hho:=PS.pN hg;have hz:z0=e0.cells:=by rw[bP];rfl
 have t1:=tk [100,101,102];have t2:=tk [108,97,98,101,108];by_cases h1:s.is 1 [100,101,102]=true
 ·simp only[h1,if_true]at t1
  have k1:=PS.cC hg (PS.is_lt h1);obtain⟨d,s1,hd1,ht1,hc1⟩:=hdf s.next k1.good (k1.dep.trans hd);obtain⟨e2,s2,he2,ht2,hc2⟩:=hr s1 ht1.good (by rw[ht1.dep,k1.dep,hd]);have hd1':uE s.end_ d:=by rw[← k1.e];exact hd1
  have he2':aL s.end_ e2:=by rw[← k1.e, ← ht1.e];exact he2
  refine⟨eX 25 [] [] .full [e2] .nil [] .full [d] s.here,s2,N0 (by decide) (by decide) (by simp) (sW he2') (by simp[bV]) (by simp) (by simp) (by intro x hx;rw[List.mem_singleton.1 hx];exact hd1') hho.1 hho.2,(k1.trans ht1).trans ht2,fun G p hp=>?_⟩;refine Nr hX ?_;have hi:=In.of hp;simp[R5,aB,hp,hi,hh,t1,hc1,hc2,z0,z1,aW,aH,Expr.bI,N1,fH,zKe,cA,Zo,aQ,aR,aS,aT,aO,aP, -aN]
 ·simp only[h1,if_false,Bool.false_eq_true]at t1
  by_cases h2:s.is 1 [108,97,98,101,108]=true
  ·simp only[h2,if_true]at t2
   have k1:=PS.cC hg (PS.is_lt h2);have htx:∀(G:aA) (p:Nat),G[p]? =some s.next.box->cF X fL [.ptr p 0,.int .i64 5] G=some (.str (s.next.text 5),G.set p (s.next.past 5).box):=fun G p h=>mV hX h k1.good.ok 5 (by decide)
   have k2:=PS.jH k1.good (k:=5) (by decide);have htl:=PS.jU k1.good 5;have hwt:∀(H:aA) (p:Nat),H[p]? =some (s.next.past 5).box->cF X cN [.ptr p 0,.int .i64 4,.str [124]] H=some (.tup [],H.set p ((s.next.past 5).want 4 [124]).box):=fun H p h=>iY hX h k2.good.ok 4 [124]
   have k3:=PS.dO k2.good 4 [124];obtain⟨e2,s2,he2,ht2,hc2⟩:=hpp _ k3.good (by rw[k3.dep,k2.dep,k1.dep,hd]);have he2':aL s.end_ e2:=by rw[← k1.e, ← k2.e, ← k3.e];exact he2
   refine⟨eK 23 (s.next.text 5) [] .full [e2] s.here,s2,cK htl (by decide) (by simp) (sW he2') hho.1 hho.2,((k1.trans k2).trans k3).trans ht2,fun G p hp=>?_⟩;refine Nr hX ?_;have hi:=In.of hp;generalize(s.next.past 5).want 4 [124]=sw at *;generalize s.next.past 5=sx at *;generalize s.next.text 5=tx at *;generalize s.next=sn at *;simp[R5,aB,hp,hi,hh,t1,dE hp,t2,htx,hwt,hc2,z0,aW,aH,Expr.bI,bW,fH,cA]
  ·simp only[h2,if_false,Bool.false_eq_true]at t2
   obtain⟨e1,s1,he1,ht1,hc1⟩:=ha s hg hd;obtain⟨l,t,he,hne,hl,ht,hgo⟩:=zJQ hX ha _ s1 [e1] ht1.good (by rw[ht1.dep,hd]) (by intro x hx;rw[List.mem_singleton.1 hx,ht1.e];exact he1) (by simp) (by simp) (Nat.le_refl _);have hpos:0<l.length:=List.length_pos_iff.2 hne;have he0:aL s.end_ l[0]:=by rw[← ht1.e];exact he _ (by simp)
   have hat:=aL.at_ he0;refine⟨if l.length=1 then l[0]else eK 28 [] [] .full l l[0].at_,t,by
    split
    ·exact he0
    ·exact cK (by decide) (by decide) (by omega) (fun x hx=>by rw[← ht1.e];exact he x hx) hat.1 hat.2,ht1.trans ht,fun G p hp=>?_⟩
   refine Nr hX ?_;have hi:=In.of hp;have hla:∀x:Expr,Expr.aC [x]=x.cells:=fun x=>by simp[Expr.aC]
   simp[R5,hp,hi,hh,t1,dE hp,t2,hc1,aH,hz,Expr.bI,aW];rw[← hla e1];refine hgo G p _ _ _ _ hi ?_ ?_ fun env' j j6=>?_
   ·simp
   ·simp
   have j0:=j 0 (by decide);have j2:=j 2 (by decide);have j3:=j 3 (by decide);simp at j0 j2 j3;have hsv:∀(H:aA) (a:Int),H[G.length+1]? =some (.row 10 (Expr.aC l) false)->cF X yL [.int .i64 28,.osl (G.length+1) (l.length*10) 0 l.length,.int .i64 a] H=some (.agg (if l.length=1 then l[0].cells else xS 28 (G.length+1) l.length l[0].at_),H):=fun H a h=>FU hX h hpos 28 a
   by_cases q1:l.length=1
   ·simp only[q1,if_true]at hsv ⊢
    rw[q1]at j6;simp[aB,j0,j2,j3,j6,hi,hsv,aH]
   ·simp only[q1,if_false]at hsv ⊢
    have hst:∀(H':aA) (i:Nat) (x:Int),G.length<=i->H'.length=G.length+2->storable G.length H' i [.int .i64 28,.str [],.str [],.bool false,.nilsl,.int .i64 0,.osl (G.length+1) (l.length*10) 0 l.length,.nilsl,.nilsl,.int .i64 x]=true:=fun H' i x hx hl=>by
     unfold storable;rw[if_neg (by omega),hl];simp[Go.AM.D.aD,Go.AM.D.aF,Go.AM.D.one,Go.AM.D.under]
    have htake:List.take (l.length*10) (Expr.aC l)=Expr.aC l:=List.take_of_length_le (by rw[Expr.bC];exact Nat.le_refl _);simp[aB,j0,j2,j3,j6,hi,hsv,hst,xS,htake,Expr.eY,Expr.dQ,Expr.dT,aW,bW,cA,Expr.bC,bP]
end
section
variable {X:Ctx}
theorem zM3 {b:Nat}{H:aA}{id:Nat}{l:List Pat}{nl:Bool}(e:Pat)(h:H[id]? =some (.row 4 (Pat.aC l) nl))(hn:nl=true->l=[])(hl:l.length<=2000000):cR b H 4 72 (.osl id (l.length*4) 0 l.length) e.cells 1=some (.osl id ((l.length+1)*4) 0 (l.length+1),H.set id (.row 4 (Pat.aC (l++[e])) false)):=by
 have:=kB (b:=b) (H:=H) (id:=id) (hw:=l.length*4) (es:=4) (bytes:=72) (m:=1) (ys:=e.cells) (cs:=Pat.aC l) (nil:=nl) (n:=l.length) h (by rw[Pat.bC]) (by omega) (fun q=>by rw[hn q];rfl) (by unfold aX;omega) (by unfold aX;omega) (aH (fun n=>Pat.aD e n) (Pat.aF e)) (by omega);rw[this,Pat.iU];simp[Pat.aC,Nat.add_mul]
def p0:Pat:=.mk 0 [] .nil [] .nil []
theorem HA:p0.cells=[.int .i64 0,.str [],.nilsl,.nilsl]:=by simp[p0,Pat.cells,SL]
theorem Pat.qA(x:Pat)(l:List D):(x.cells++l).drop 4=l:=List.drop_left' (by simp[Pat.aK])
theorem bG {b i:Nat}{H:aA}{cs:List D}(h:b<=i)(hu:D.aD H.length cs=true)(ho:D.aF cs=true):storable b H i cs=true:=by
 unfold storable;rw[if_neg (by omega)];simp[hu,ho]
theorem zMp(hX:CX X){D:Nat}(hs:∀s:PS,s.good->s.depth=D->uB X s):∀(n:Nat) (t:PS) (l:List Pat),t.good->t.depth=D->(∀x∈l,fC t.end_ x)->l≠ []->(l.length<=t.at_+1∧bV l<=3*t.at_+1)->t.l.length-t.at_<=n->∃l' t',(∀x∈l',fC t.end_ x)∧l'≠ []∧(l'.length<=1000001∧bV l'<=3000001)∧t.to t'∧∀(G:aA) (p:Nat) (env:Env) (K:List Fr) (Q:Ex->St->Prop) (c1 c2:Chunk),In G p->env.get 0=.ptr p 0->env.get 5=.osl (G.length+2) (l.length*4) 0 l.length->(∀env':Env,(∀k,k<5->env'.get k=env.get k)->env'.get 5=.osl (G.length+2) (l'.length*4) 0 l'.length->YX X G.length none (.exit 0) K ⟨env',G.set p t'.box++[c1,c2,.row 4 (Pat.aC l') false],[]⟩ Q)->YS X G.length none (.loop Ed) K ⟨env,G.set p t.box++[c1,c2,.row 4 (Pat.aC l) false],[]⟩ Q:=by
 intro n
 induction n using Nat.strongRecOn with
 | ind n ih=>
  intro t l ht hd he hne ⟨hll,hwl⟩ hn;have hsg:∀(H:aA) (p:Nat),H[p]? =some t.box->cF X bE [.ptr p 0,.int .i64 4,.str [63,47,47]] H=some (.bool (t.is 4 [63,47,47]),H.set p (if t.is 4 [63,47,47]then t.next else t).box):=fun H p hp=>eQ hX hp ht.ok 4 [63,47,47]
  have hlt0:=ht.ok.at_;have hlt1:=ht.ok.len;by_cases hop:t.is 4 [63,47,47]=true
  ·have hl:=PS.is_lt hop
   simp only[hop,if_true]at hsg;have h1:=PS.cC ht hl;obtain⟨e2,t2,⟨he2,hw2⟩,ht2,hc2⟩:=hs t.next h1.good (h1.dep.trans hd);have hpl:=oZ l;have hnx:t.next.at_=t.at_+1:=rfl;have q2:t.at_+1<=t2.at_:=ht2.at_;have hlt:t2.l.length-t2.at_<n:=by
    have q1:t2.l.length=t.l.length:=by rw[ht2.l];rfl
    omega
   have hall:∀x∈l++[e2],fC t2.end_ x:=by
    intro x hx;rw[ht2.e,h1.e];rcases List.mem_append.1 hx with h | h
    ·exact he x h
    ·rw[List.mem_singleton.1 h, ← h1.e];exact he2
   obtain⟨l',t',he',hn',hl',ht',hgo⟩:=ih (t2.l.length-t2.at_) hlt t2 (l++[e2]) ht2.good (by rw[ht2.dep,h1.dep,hd]) hall (by simp) ⟨by simp;omega,by rw[uZ,F3];omega⟩ (Nat.le_refl _);refine⟨l',t',by rw[← h1.e, ← ht2.e];exact he',hn',hl',(h1.trans ht2).trans ht',fun G p env K Q c1 c2 hi g0 g6 hk=>?_⟩;have hap:∀b,cR b (G.set p t2.box++[c1,c2,.row 4 (Pat.aC l) false]) 4 72 (.osl (G.length+2) (l.length*4) 0 l.length) e2.cells 1=some (.osl (G.length+2) ((l.length+1)*4) 0 (l.length+1),G.set p t2.box++[c1,c2,.row 4 (Pat.aC (l++[e2])) false]):=fun b=>by
    rw[zM3 (nl:=false) e2 (by rw[List.getElem?_append_right (by simp)];simp) (by simp) (by omega)];congr 2;rw[List.set_append_right _ _ (by simp)];simp
   have hel:∀H:aA,elems H 4 (.fsl e2.cells 1)=some (e2.cells,1):=fun H=>by simp[elems,Pat.aK]
   refine bA fun L hL=>?_
   generalize hA:Pat.aC l=A at *;generalize hB:Pat.aC (l++[e2])=B at *;simp[Ed,g0,g6,hi,hsg,hc2,aH,z3,hel,hap,Pat.qA];rw[hL];refine hgo G p _ K Q c1 c2 hi ?_ ?_ fun env' j j6=>hk env' (fun k hk'=>?_) j6
   ·simp[g0]
   ·simp
   ·rw[j k hk']
    have:k=0∨k=1∨k=2∨k=3∨k=4:=by omega
    rcases this with rfl | rfl | rfl | rfl | rfl <;> simp
  ·simp only[hop,if_false,Bool.false_eq_true]at hsg
   refine⟨l,t,he,hne,⟨by omega,by omega⟩,PS.to.refl ht,fun G p env K Q c1 c2 hi g0 g6 hk=>?_⟩;refine bA fun L hL=>?_
   simp[Ed,g0,g6,hi,hsg];refine hk _ (fun k hk'=>?_) (by simp[g6]);have:k=0∨k=1∨k=2∨k=3∨k=4:=by omega
   rcases this with rfl | rfl | rfl | rfl | rfl <;> simp
set_option maxHeartbeats 1000000 in
theorem zF0(hX:CX X){D:Nat}(hpt:∀s:PS,s.good->s.depth=D->uB X s)(hpp:∀s:PS,s.good->s.depth=D->bB X dF [] s):∀(s:PS) (e:Expr),s.good->s.depth=D->aL s.end_ e->bB X I2 [.agg e.cells] s:=by
 intro s e hg hd he;have hat:=aL.at_ he;have t1:∀(H:aA) (p:Nat),H[p]? =some s.box->cF X bE [.ptr p 0,.int .i64 1,.str [97,115]] H=some (.bool (s.is 1 [97,115]),H.set p (if s.is 1 [97,115]then s.next else s).box):=fun H p h=>eQ hX h hg.ok 1 [97,115]
 have hz:z0=e0.cells:=by rw[bP];rfl
 by_cases h1:s.is 1 [97,115]=true
 ·simp only[h1,if_true]at t1
  have k1:=PS.cC hg (PS.is_lt h1);obtain⟨e1,s1,⟨he1,hw1⟩,ht1,hc1⟩:=hpt s.next k1.good (k1.dep.trans hd);obtain⟨l,t,hel,hne,hl,ht,hgo⟩:=zMp hX hpt _ s1 [e1] ht1.good (by rw[ht1.dep,k1.dep,hd]) (by intro x hx;rw[List.mem_singleton.1 hx,ht1.e];exact he1) (by simp) ⟨by simp,by rw[F3];omega⟩ (Nat.le_refl _);have hwt:∀(H:aA) (p:Nat),H[p]? =some t.box->cF X cN [.ptr p 0,.int .i64 4,.str [124]] H=some (.tup [],H.set p (t.want 4 [124]).box):=fun H p h=>iY hX h ht.good.ok 4 [124]
  have k3:=PS.dO ht.good 4 [124];obtain⟨e2,s2,he2,ht2,hc2⟩:=hpp _ k3.good (by rw[k3.dep,ht.dep,ht1.dep,k1.dep,hd]);have he2':aL s.end_ e2:=by rw[← k1.e, ← ht1.e, ← ht.e, ← k3.e];exact he2
  refine⟨eX 26 [] [] .full [e,e2] .full l .nil [] e.at_,s2,N0 (by decide) (by decide) (by simp) (oV he he2') (by omega) (by rw[← k1.e, ← ht1.e];exact hel) (by decide) (by simp) hat.1 hat.2,(((k1.trans ht1).trans ht).trans k3).trans ht2,fun G p hp=>?_⟩;refine NB hX ?_;have hi:=In.of hp;simp[Ee,hp,hi,t1,hc1,z0,z3,aW,aH,Expr.bI,Pat.qA,bU,storable,Go.AM.D.aD,Go.AM.D.under,Go.AM.D.aF,Go.AM.D.one];rw[← zS e1];refine hgo G p _ _ _ _ _ hi ?_ ?_ fun env' j j5=>?_
  ·simp
  ·simp
  have j0:=j 0 (by decide);have j3:=j 3 (by decide);have j4:=j 4 (by decide);simp at j0 j3 j4;have htake:List.take (l.length*4) (Pat.aC l)=Pat.aC l:=List.take_of_length_le (by rw[Pat.bC];exact Nat.le_refl _);generalize t.want 4 [124]=sx at *;simp[aB,j0,j3,j4,j5,hi,hwt,hc2,bG,Go.AM.D.aD,Go.AM.D.aF,Go.AM.D.one,Go.AM.D.under,z0,z2,htake,Pat.eY,Pat.dQ,Pat.dT,aW,N1,gQ,cA,T7,Pat.bC,Expr.bI,gB,Go.AM.D.cS,Go.AM.D.cW,aQ,aR,aS,aT,aO,aP, -aN]
 ·simp only[h1,if_false,Bool.false_eq_true]at t1
  refine⟨e,s,he,PS.to.refl hg,fun G p hp=>?_⟩;refine NB hX ?_;have hi:=In.of hp;simp[Ee,aB,hp,hi,t1,dE hp,z0,aW,aH,Expr.bI,bU,storable,Go.AM.D.aD,Go.AM.D.under,Go.AM.D.aF,Go.AM.D.one]
end
section
variable {X:Ctx}
theorem jQ {G:aA}{p b:Nat}{bx c0:Chunk}{l:aA}{A:List D}{n:Nat}{nk:Bool}(e:Expr)(hA:A.length=n*10)(hnk:nk=true->n=0)(hn:n<=2000000):cR b (G.set p bx++(c0:: .row 10 A nk::l)) 10 160 (.osl (G.length+1) (n*10) 0 n) e.cells 1=some (.osl (G.length+1) ((n+1)*10) 0 (n+1),G.set p bx++(c0:: .row 10 (A++e.cells) false::l)):=by
 rw[kB (hw:=n*10) (es:=10) (bytes:=160) (m:=1) (ys:=e.cells) (cs:=A) (nil:=nk) (n:=n) (by rw[List.getElem?_append_right (by simp)];simp) hA rfl hnk (by unfold aX;omega) (by unfold aX;omega) (aH (fun n=>Expr.aD e n) (Expr.aF e)) (by omega)];congr 2
 ·congr 1;omega
 ·rw[List.set_append_right _ _ (by simp)];simp
theorem P1 {G:aA}{p b:Nat}{bx c0 c1:Chunk}{l:aA}{A:List D}{n:Nat}{nk:Bool}(e:List D)(he:e.length=4)(hu:∀n,D.aD n e=true)(ho:D.aF e=true)(hA:A.length=n*4)(hnk:nk=true->n=0)(hn:n<=2000000):cR b (G.set p bx++(c0::c1:: .row 4 A nk::l)) 4 72 (.osl (G.length+2) (n*4) 0 n) e 1=some (.osl (G.length+2) ((n+1)*4) 0 (n+1),G.set p bx++(c0::c1:: .row 4 (A++e) false::l)):=by
 rw[kB (hw:=n*4) (es:=4) (bytes:=72) (m:=1) (ys:=e) (cs:=A) (nil:=nk) (n:=n) (by rw[List.getElem?_append_right (by simp)];simp) hA rfl hnk (by unfold aX;omega) (by unfold aX;omega) (aH hu ho) (by omega)];congr 2
 ·congr 1;omega
 ·rw[List.set_append_right _ _ (by simp)];simp
theorem Gp {H l:aA}{p k:Nat}{a:Chunk}:(H.set p a++l).take (H.length+k)=H.set p a++l.take k:=by
 have h:(H.set p a).length=H.length:=List.length_set;rw[← h,List.take_length_add_append]
abbrev yC(k:Int)(b n m:Nat):List D:=[.int .i64 k,.str [],.osl (b+1) (n*10) 0 n,.osl (b+2) (m*4) 0 m]
def Fl(X:Ctx)(s:PS):Prop:=∃(ks:List Expr) (ps:List Pat) (s':PS),(∀x∈ks,aL s.end_ x)∧(∀x∈ps,fC s.end_ x)∧ks.length=ps.length∧ks≠ []∧ks.length+s.at_<=s'.at_+1∧ks.length+bV ps+3*s.at_<=3*s'.at_+2∧s.to s'∧
 ∀(G:aA) (p:Nat) (c0 c3:Chunk) (keys:List Expr) (pats:List Pat) (nk np:Bool),In G p->(nk=true->keys=[])->(np=true->pats=[])->keys.length<=1900000->pats.length<=1900000->
  cF X Kd [.ptr p 0,.agg (yC 3 G.length keys.length pats.length)] (G.set p s.box++[c0,.row 10 (Expr.aC keys) nk,.row 4 (Pat.aC pats) np,c3])=some (.agg (yC 3 G.length (keys++ks).length (pats++ps).length),G.set p s'.box++[c0,.row 10 (Expr.aC (keys++ks)) false,.row 4 (Pat.aC (pats++ps)) false,c3])
set_option maxHeartbeats 1000000 in
theorem zFT(hX:CX X){dp:Nat}(hkey:∀s:PS,s.good->s.depth=dp->Zr X s)(hpt:∀s:PS,s.good->s.depth=dp->uB X s):∀s:PS,s.good->s.depth=dp->Fl X s:=by
 intro s hg hd;have hh:∀(H:aA) (p:Nat),H[p]? =some s.box->cF X fR [.ptr p 0] H=some (.int .i64 s.here,H):=fun H p h=>lJ hX h hg.ok
 have hk:∀(G:aA) (p:Nat),G[p]? =some s.box->cF X eI [.ptr p 0] G=some (.int .i64 s.kind,G):=fun G p h=>kV hX h hg.ok
 have hho:=PS.pN hg;by_cases h5:s.kind=5
 ·have htx:∀(G:aA) (p:Nat),G[p]? =some s.box->cF X fL [.ptr p 0,.int .i64 5] G=some (.str (s.text 5),G.set p (s.past 5).box):=fun G p h=>mV hX h hg.ok 5 (by decide)
  have htl:=PS.jU hg 5;have k1:=PS.jH hg (k:=5) (by decide);have ek:aL s.end_ (eK 9 [] (s.text 5) .nil [] s.here):=cK (by decide) (by omega) (by decide) (by simp) hho.1 hho.2;have ep:fC s.end_ (.mk 1 (s.text 5) .nil [] .nil []):=by simp[fC,uD,mG];omega
  have tk:∀(H:aA) (p:Nat),H[p]? =some (s.past 5).box->cF X bE [.ptr p 0,.int .i64 4,.str [58]] H=some (.bool ((s.past 5).is 4 [58]),H.set p (if(s.past 5).is 4 [58]then(s.past 5).next else(s.past 5)).box):=fun H p h=>eQ hX h k1.good.ok 4 [58]
  have hpc:(Pat.mk 1 (s.text 5) .nil [] .nil []).cells=[.int .i64 1,.str (s.text 5),.nilsl,.nilsl]:=by simp[Pat.cells,SL]
  by_cases hop:(s.past 5).is 4 [58]=true
  ·simp only[hop,if_true]at tk
   have k2:=PS.cC k1.good (PS.is_lt hop);obtain⟨e2,s2,⟨he2,hw2⟩,ht2,hc2⟩:=hpt (s.past 5).next k2.good (by rw[k2.dep,k1.dep,hd]);have he2':fC s.end_ e2:=by rw[← k1.e, ← k2.e];exact he2
   have hq2: [eK 9 [] (s.text 5) .nil [] s.here,eK 9 [] (s.text 5) .nil [] s.here].length+s.at_<=s2.at_+1:=by
    have q1:(s.past 5).at_=s.at_+1:=by
     unfold PS.past;rw[if_pos h5];rfl
    have q2:(s.past 5).next.at_=(s.past 5).at_+1:=rfl;have:=ht2.at_;simp;omega
   have hq3: [eK 9 [] (s.text 5) .nil [] s.here,eK 9 [] (s.text 5) .nil [] s.here].length+bV [.mk 1 (s.text 5) .nil [] .nil [],e2]+3*s.at_<=3*s2.at_+2:=by
    have q1:(s.past 5).at_=s.at_+1:=by
     unfold PS.past;rw[if_pos h5];rfl
    have q2:(s.past 5).next.at_=(s.past 5).at_+1:=rfl;simp[bV,pw];omega
   refine⟨[eK 9 [] (s.text 5) .nil [] s.here,eK 9 [] (s.text 5) .nil [] s.here],[.mk 1 (s.text 5) .nil [] .nil [],e2],s2,oV ek ek,by intro x hx;simp at hx;rcases hx with rfl | rfl <;> assumption,rfl,by simp,hq2,hq3,(k1.trans k2).trans ht2,fun G p c0 c3 keys pats nk np hi hnk hnp hlk hlp=>?_⟩;refine Nu hX ?_;have hz:z0=e0.cells:=by rw[bP];rfl
   have hA:=Expr.bC keys;have hB:=Pat.bC pats;have hp2:Pat.aC [.mk 1 (s.text 5) .nil [] .nil [],e2]=[.int .i64 1,.str (s.text 5),.nilsl,.nilsl]++e2.cells:=by rw[← hpc];simp[Pat.aC]
   have hk2:Expr.aC [eK 9 [] (s.text 5) .nil [] s.here,eK 9 [] (s.text 5) .nil [] s.here]=(eK 9 [] (s.text 5) .nil [] s.here).cells++(eK 9 [] (s.text 5) .nil [] s.here).cells:=gQ _ _;have hkc:(eK 9 [] (s.text 5) .nil [] s.here).cells=[.int .i64 9,.str [],.str (s.text 5),.bool false,.nilsl,.int .i64 0,.nilsl,.nilsl,.nilsl,.int .i64 s.here]:=by simp[bW,dH]
   simp only[Expr.iU,Pat.iU,hk2,hp2,List.length_append,List.length_cons,List.length_nil,Nat.zero_add];generalize Expr.aC keys=A at *;generalize Pat.aC pats=B at *;have hnk':nk=true->keys.length=0:=fun h=>by rw[hnk h];rfl
   have hnp':np=true->pats.length=0:=fun h=>by rw[hnp h];rfl
   generalize keys.length=n1 at *;generalize pats.length=n2 at *;generalize s.here=hr at *;generalize hkk:eK 9 [] (s.text 5) .nil [] hr=kk at *;have a1:=fun(b:Nat) (bx c0:Chunk) (l:aA)=>jQ (G:=G) (p:=p) (b:=b) (bx:=bx) (c0:=c0) (l:=l) kk hA hnk' (by omega)
   have a1':=fun(b:Nat) (bx c0:Chunk) (l:aA)=>jQ (G:=G) (p:=p) (b:=b) (bx:=bx) (c0:=c0) (l:=l) (n:=n1+1) (nk:=false) (A:=A++kk.cells) kk (by rw[List.length_append,hA,Expr.aK];omega) (by simp) (by omega)
   generalize s.text 5=tx at *;have hp4:([.int .i64 1,.str tx,.nilsl,.nilsl]:List D).length=4:=rfl;have a2:=fun(b:Nat) (bx c0 c1:Chunk) (l:aA)=>P1 (G:=G) (p:=p) (b:=b) (bx:=bx) (c0:=c0) (c1:=c1) (l:=l) [.int .i64 1,.str tx,.nilsl,.nilsl] rfl (fun n=>by simp) (by simp) hB hnp' (by omega)
   have a2':=fun(b:Nat) (bx c0 c1:Chunk) (l:aA)=>P1 (G:=G) (p:=p) (b:=b) (bx:=bx) (c0:=c0) (c1:=c1) (l:=l) (n:=n2+1) (nk:=false) (A:=B++[.int .i64 1,.str tx,.nilsl,.nilsl]) e2.cells (Pat.aK e2) (fun n=>Pat.aD e2 n) (Pat.aF e2) (by rw[List.length_append,hB,hp4];omega) (by simp) (by omega)
   have hel:∀H:aA,elems H 10 (.fsl kk.cells 1)=some (kk.cells,1):=fun H=>by simp[elems,Expr.aK]
   have hel1:∀H:aA,elems H 4 (.fsl [.int .i64 1,.str tx,.nilsl,.nilsl] 1)=some ([.int .i64 1,.str tx,.nilsl,.nilsl],1):=fun H=>by simp[elems]
   have hel2:∀H:aA,elems H 4 (.fsl e2.cells 1)=some (e2.cells,1):=fun H=>by simp[elems,Pat.aK]
   generalize(s.past 5).next=sw at *;generalize s.past 5=sv at *;simp[S5,aB,jO,hi,hh,hk,h5,htx,tk,hc2,z0,z3, ← hkc,bG,Go.AM.D.aD,Go.AM.D.aF,Go.AM.D.one,Go.AM.D.under,hel,hel1,hel2,a1,a1',a2,a2',Gp,Expr.bI,Pat.qA,aQ,aR,aS,aT,aO,aP, -aN]
  ·simp only[hop,if_false,Bool.false_eq_true]at tk
   refine⟨[eK 9 [] (s.text 5) .nil [] s.here],[.mk 1 (s.text 5) .nil [] .nil []],s.past 5,sW ek,by intro x hx;rw[List.mem_singleton.1 hx];exact ep,rfl,by simp,(by have:=k1.at_;simp;omega),(by have q1:(s.past 5).at_=s.at_+1:=(by unfold PS.past;rw[if_pos h5];rfl);simp[bV,pw];omega),k1,fun G p c0 c3 keys pats nk np hi hnk hnp hlk hlp=>?_⟩;refine Nu hX ?_;have hz:z0=e0.cells:=by rw[bP];rfl
   have hA:=Expr.bC keys;have hB:=Pat.bC pats;have hkc:(eK 9 [] (s.text 5) .nil [] s.here).cells=[.int .i64 9,.str [],.str (s.text 5),.bool false,.nilsl,.int .i64 0,.nilsl,.nilsl,.nilsl,.int .i64 s.here]:=by simp[bW,dH]
   simp only[Expr.iU,Pat.iU,fH,zS,hpc,List.length_append,List.length_cons,List.length_nil,Nat.zero_add];generalize Expr.aC keys=A at *;generalize Pat.aC pats=B at *;have hnk':nk=true->keys.length=0:=fun h=>by rw[hnk h];rfl
   have hnp':np=true->pats.length=0:=fun h=>by rw[hnp h];rfl
   generalize keys.length=n1 at *;generalize pats.length=n2 at *;generalize s.here=hr at *;generalize hkk:eK 9 [] (s.text 5) .nil [] hr=kk at *;have a1:=fun(b:Nat) (bx c0:Chunk) (l:aA)=>jQ (G:=G) (p:=p) (b:=b) (bx:=bx) (c0:=c0) (l:=l) kk hA hnk' (by omega)
   generalize s.text 5=tx at *;have a2:=fun(b:Nat) (bx c0 c1:Chunk) (l:aA)=>P1 (G:=G) (p:=p) (b:=b) (bx:=bx) (c0:=c0) (c1:=c1) (l:=l) [.int .i64 1,.str tx,.nilsl,.nilsl] rfl (fun n=>by simp) (by simp) hB hnp' (by omega)
   have hel:∀H:aA,elems H 10 (.fsl kk.cells 1)=some (kk.cells,1):=fun H=>by simp[elems,Expr.aK]
   have hel1:∀H:aA,elems H 4 (.fsl [.int .i64 1,.str tx,.nilsl,.nilsl] 1)=some ([.int .i64 1,.str tx,.nilsl,.nilsl],1):=fun H=>by simp[elems]
   generalize s.past 5=sv at *;simp[S5,aB,jO,hi,hh,hk,h5,htx,tk,z0,z3, ← hkc,bG,Go.AM.D.aD,Go.AM.D.aF,Go.AM.D.one,Go.AM.D.under,hel,hel1,a1,a2,Gp,Expr.bI,Pat.qA,aQ,aR,aS,aT,aO,aP, -aN]
 ·obtain⟨e1,n,s1,he1,ht1,hc1⟩:=hkey s hg hd
  have hw:∀(H:aA) (p:Nat),H[p]? =some s1.box->cF X cN [.ptr p 0,.int .i64 4,.str [58]] H=some (.tup [],H.set p (s1.want 4 [58]).box):=fun H p h=>iY hX h ht1.good.ok 4 [58]
  have k2:=PS.dO ht1.good 4 [58];obtain⟨e2,s2,⟨he2,hw2⟩,ht2,hc2⟩:=hpt (s1.want 4 [58]) k2.good (by rw[k2.dep,ht1.dep,hd]);have he2':fC s.end_ e2:=by rw[← ht1.e, ← k2.e];exact he2
  refine⟨[e1],[e2],s2,by intro x hx;rw[List.mem_singleton.1 hx];exact he1,by intro x hx;rw[List.mem_singleton.1 hx];exact he2',rfl,by simp,(by have:=((ht1.trans k2).trans ht2).at_;simp;omega),(by have:=(ht1.trans k2).at_;simp[bV];omega),(ht1.trans k2).trans ht2,fun G p c0 c3 keys pats nk np hi hnk hnp hlk hlp=>?_⟩;refine Nu hX ?_;have hz:z0=e0.cells:=by rw[bP];rfl
  have hA:=Expr.bC keys;have hB:=Pat.bC pats;simp only[Expr.iU,Pat.iU,fH,zS,List.length_append,List.length_singleton];generalize Expr.aC keys=A at *;generalize Pat.aC pats=B at *;have hnk':nk=true->keys.length=0:=fun h=>by rw[hnk h];rfl
  have hnp':np=true->pats.length=0:=fun h=>by rw[hnp h];rfl
  generalize keys.length=n1 at *;generalize pats.length=n2 at *;have a1:=fun(b:Nat) (bx c0:Chunk) (l:aA)=>jQ (G:=G) (p:=p) (b:=b) (bx:=bx) (c0:=c0) (l:=l) e1 hA hnk' (by omega)
  have a2:=fun(b:Nat) (bx c0 c1:Chunk) (l:aA)=>P1 (G:=G) (p:=p) (b:=b) (bx:=bx) (c0:=c0) (c1:=c1) (l:=l) e2.cells (Pat.aK e2) (fun n=>Pat.aD e2 n) (Pat.aF e2) hB hnp' (by omega)
  have hel:∀H:aA,elems H 10 (.fsl e1.cells 1)=some (e1.cells,1):=fun H=>by simp[elems,Expr.aK]
  have hel2:∀H:aA,elems H 4 (.fsl e2.cells 1)=some (e2.cells,1):=fun H=>by simp[elems,Pat.aK]
  generalize s1.want 4 [58]=sw at *;generalize s.here=hr at *;simp[S5,aB,jO,hi,hh,hk,h5,hc1,hw,hc2,z0,z3,aW,bG,Go.AM.D.aD,Go.AM.D.aF,Go.AM.D.one,Go.AM.D.under,hel,hel2,a1,a2,Gp,bW,dH,gQ,cA,Expr.bI,Pat.qA,aQ,aR,aS,aT,aO,aP, -aN]
end
section
variable {X:Ctx}
theorem zAf(hX:CX X){dp:Nat}(hs:∀s:PS,s.good->s.depth=dp->uB X s):∀(n:Nat) (t:PS) (l:List Pat) (nl:Bool) (a0:Nat),bV l+3*a0<=3*t.at_->(nl=true->l=[])->t.good->t.depth=dp->(∀x∈l,fC t.end_ x)->l.length<=t.at_->t.l.length-t.at_<=n->∃l' nl' t',(nl'=true->l'=[])∧(∀x∈l',fC t.end_ x)∧l'.length<=1000001∧bV l'+3*a0<=3*t'.at_+1∧t.to t'∧∀(G:aA) (p:Nat) (env:Env) (K:List Fr) (Q:Ex->St->Prop) (c0 c1:Chunk),In G p->env.get 0=.ptr p 0->env.get 3=.ptr (G.length+3) 0->(∀env':Env,(∀k,k<4->env'.get k=env.get k)->YX X G.length none (.exit 1) K ⟨env',G.set p t'.box++[c0,c1,.row 4 (Pat.aC l') nl',.box (yC 2 G.length 0 l'.length)],[]⟩ Q)->YS X G.length none (.loop R9) K ⟨env,G.set p t.box++[c0,c1,.row 4 (Pat.aC l) nl,.box (yC 2 G.length 0 l.length)],[]⟩ Q:=by
 intro n
 induction n using Nat.strongRecOn with
 | ind n ih=>
  intro t l nl a0 hw0 hnl ht hd he hll hn;have hlt0:=ht.ok.at_;have hlt1:=ht.ok.len;by_cases hb:t.bad=0
  ·obtain⟨e2,t2,⟨he2,hw2⟩,ht2,hc2⟩:=hs t ht hd
   have tk:∀(H:aA) (p:Nat),H[p]? =some t2.box->cF X bE [.ptr p 0,.int .i64 4,.str [44]] H=some (.bool (t2.is 4 [44]),H.set p (if t2.is 4 [44]then t2.next else t2).box):=fun H p h=>eQ hX h ht2.good.ok 4 [44]
   have q2:=ht2.at_;have hlen:(l++[e2]).length=l.length+1:=by simp
   have hall:∀x∈l++[e2],fC t.end_ x:=by
    intro x hx;rcases List.mem_append.1 hx with h | h
    ·exact he x h
    ·rw[List.mem_singleton.1 h];exact he2
   have hB:=Pat.bC l;have hBe:Pat.aC (l++[e2])=Pat.aC l++e2.cells:=by simp[Pat.iU,Pat.aC]
   have hnl':nl=true->l.length=0:=fun h=>by rw[hnl h];rfl
   have hap:∀(G:aA) (p b:Nat) (bx c0 c1:Chunk) (r:aA),_:=fun G p b bx c0 c1 r=>P1 (G:=G) (p:=p) (b:=b) (bx:=bx) (c0:=c0) (c1:=c1) (l:=r) e2.cells (Pat.aK e2) (fun n=>Pat.aD e2 n) (Pat.aF e2) hB hnl' (by omega)
   have hel:∀H:aA,elems H 4 (.fsl e2.cells 1)=some (e2.cells,1):=fun H=>by simp[elems,Pat.aK]
   by_cases hop:t2.is 4 [44]=true
   ·simp only[hop,if_true]at tk
    have k1:=PS.cC ht2.good (PS.is_lt hop);have hlt:t2.next.l.length-t2.next.at_<n:=by
     have q1:t2.next.l.length=t.l.length:=by show t2.l.length=_;rw[ht2.l]
     have q3:t2.next.at_=t2.at_+1:=rfl;have:=PS.is_lt hop;have:t2.l.length=t.l.length:=by rw[ht2.l]
     omega
    have hnx:t2.next.at_=t2.at_+1:=rfl;obtain⟨l',nl',t',hnl',he',hl',hw',ht',hgo⟩:=ih _ hlt t2.next (l++[e2]) false a0 (by rw[uZ,F3];omega) (by simp) k1.good (by rw[k1.dep,ht2.dep,hd]) (by rw[k1.e,ht2.e];exact hall) (by rw[hlen];show _<=t2.at_+1;omega) (Nat.le_refl _);refine⟨l',nl',t',hnl',by rw[← ht2.e, ← k1.e];exact he',hl',hw',(ht2.trans k1).trans ht',fun G p env K Q c0 c1 hi g0 g3 hk=>?_⟩;refine bA fun L hL=>?_
    rw[hlen,hBe]at hgo;generalize hA:Pat.aC l=A at *;simp[R9,g0,g3,hi,hb,hc2,tk,z3,hel,hap,bG,Go.AM.D.aD,Go.AM.D.aF,Go.AM.D.one,Go.AM.D.under,Pat.qA,aQ,aR,aS,aT,aO,aP, -aN];rw[hL];refine hgo G p _ K Q c0 c1 hi ?_ ?_ fun env' j=>hk env' (fun k hk'=>?_)
    ·simp[g0]
    ·simp[g3]
    ·rw[j k hk']
     have:k=0∨k=1∨k=2∨k=3:=by omega
     rcases this with rfl | rfl | rfl | rfl <;> simp
   ·simp only[hop,if_false,Bool.false_eq_true]at tk
    refine⟨l++[e2],false,t2,by simp,hall,by rw[hlen];omega,by rw[uZ,F3];omega,ht2,fun G p env K Q c0 c1 hi g0 g3 hk=>?_⟩;rw[hlen,hBe]at hk;refine bA fun L hL=>?_
    generalize hA:Pat.aC l=A at *;simp[R9,g0,g3,hi,hb,hc2,tk,z3,hel,hap,bG,Go.AM.D.aD,Go.AM.D.aF,Go.AM.D.one,Go.AM.D.under,Pat.qA,aQ,aR,aS,aT,aO,aP, -aN];refine hk _ fun k hk'=>?_
    have:k=0∨k=1∨k=2∨k=3:=by omega
    rcases this with rfl | rfl | rfl | rfl <;> simp
  ·refine⟨l,nl,t,hnl,he,by omega,by omega,PS.to.refl ht,fun G p env K Q c0 c1 hi g0 g3 hk=>?_⟩
   refine bA fun L hL=>?_
   simp[R9,g0,g3,hi,hb];refine hk _ fun k hk'=>?_
   have:k=0∨k=1∨k=2∨k=3:=by omega
   rcases this with rfl | rfl | rfl | rfl <;> simp
theorem zAe(hX:CX X){dp:Nat}(hs:∀s:PS,s.good->s.depth=dp->Fl X s):∀(n:Nat) (t:PS) (l:List Expr) (q:List Pat) (nk np:Bool) (a0:Nat),l.length+bV q+3*a0<=3*t.at_->(nk=true->l=[])->(np=true->q=[])->l.length=q.length->t.good->t.depth=dp->(∀x∈l,aL t.end_ x)->(∀x∈q,fC t.end_ x)->l.length<=t.at_->t.l.length-t.at_<=n->∃l' q' nk' np' t',(nk'=true->l'=[])∧(np'=true->q'=[])∧l'.length=q'.length∧(∀x∈l',aL t.end_ x)∧(∀x∈q',fC t.end_ x)∧l'.length<=1000001∧l'.length+bV q'+3*a0<=3*t'.at_+2∧t.to t'∧∀(G:aA) (p:Nat) (env:Env) (K:List Fr) (Q:Ex->St->Prop) (c0:Chunk),In G p->env.get 0=.ptr p 0->env.get 3=.ptr (G.length+3) 0->(∀env':Env,(∀k,k<4->env'.get k=env.get k)->YX X G.length none (.exit 3) K ⟨env',G.set p t'.box++[c0,.row 10 (Expr.aC l') nk',.row 4 (Pat.aC q') np',.box (yC 3 G.length l'.length q'.length)],[]⟩ Q)->YS X G.length none (.loop R8) K ⟨env,G.set p t.box++[c0,.row 10 (Expr.aC l) nk,.row 4 (Pat.aC q) np,.box (yC 3 G.length l.length q.length)],[]⟩ Q:=by
 intro n
 induction n using Nat.strongRecOn with
 | ind n ih=>
  intro t l q nk np a0 hw0 hnk hnp hlq ht hd he hq hll hn;have hlt0:=ht.ok.at_;have hlt1:=ht.ok.len;by_cases hb:t.bad=0
  ·obtain⟨ks,ps,t2,he2,hq2,hkp,hks,hat,hw2,ht2,hc2⟩:=hs t ht hd
   have tk:∀(H:aA) (p:Nat),H[p]? =some t2.box->cF X bE [.ptr p 0,.int .i64 4,.str [44]] H=some (.bool (t2.is 4 [44]),H.set p (if t2.is 4 [44]then t2.next else t2).box):=fun H p h=>eQ hX h ht2.good.ok 4 [44]
   have q2:=ht2.at_;have hall:∀x∈l++ks,aL t.end_ x:=by
    intro x hx;rcases List.mem_append.1 hx with h | h
    ·exact he x h
    ·exact he2 x h
   have hallq:∀x∈q++ps,fC t.end_ x:=by
    intro x hx;rcases List.mem_append.1 hx with h | h
    ·exact hq x h
    ·exact hq2 x h
   have hlq2:(l++ks).length=(q++ps).length:=by simp[hlq,hkp]
   have hl3:(l++ks).length<=t2.at_+1:=by simp;omega
   have hlt2:=ht2.good.ok.at_;have hlt3:=ht2.good.ok.len;have hc3:=fun(G:aA) (p:Nat) (c0 c3:Chunk) (hi:In G p)=>hc2 G p c0 c3 l q nk np hi hnk hnp (by omega) (by omega)
   by_cases hop:t2.is 4 [44]=true
   ·simp only[hop,if_true]at tk
    have k1:=PS.cC ht2.good (PS.is_lt hop);have hlt:t2.next.l.length-t2.next.at_<n:=by
     have q1:t2.next.l.length=t.l.length:=by show t2.l.length=_;rw[ht2.l]
     have q3:t2.next.at_=t2.at_+1:=rfl;have:=PS.is_lt hop;have:t2.l.length=t.l.length:=by rw[ht2.l]
     omega
    have hnx:t2.next.at_=t2.at_+1:=rfl;obtain⟨l',q',nk',np',t',hnk',hnp',hlq',he',hq',hl',hw',ht',hgo⟩:=ih _ hlt t2.next (l++ks) (q++ps) false false a0 (by rw[uZ,List.length_append];omega) (by simp) (by simp) hlq2 k1.good (by rw[k1.dep,ht2.dep,hd]) (by rw[k1.e,ht2.e];exact hall) (by rw[k1.e,ht2.e];exact hallq) (by show _<=t2.at_+1;omega) (Nat.le_refl _);refine⟨l',q',nk',np',t',hnk',hnp',hlq',by rw[← ht2.e, ← k1.e];exact he',by rw[← ht2.e, ← k1.e];exact hq',hl',hw',(ht2.trans k1).trans ht',fun G p env K Q c0 hi g0 g3 hk=>?_⟩;refine bA fun L hL=>?_
    have hc4:=fun c3=>hc3 G p c0 c3 hi
    generalize Expr.aC (l++ks)=A at *;generalize Expr.aC l=A' at *;generalize Pat.aC (q++ps)=B at *;generalize Pat.aC q=B' at *;generalize(l++ks).length=n1 at *;generalize(q++ps).length=n2 at *;simp[R8,g0,g3,hi,hb,hc4,jO,tk,z3,bG,Go.AM.D.aD,Go.AM.D.aF,Go.AM.D.one,Go.AM.D.under];rw[hL];refine hgo G p _ K Q c0 hi ?_ ?_ fun env' j=>hk env' (fun k hk'=>?_)
    ·simp[g0]
    ·simp[g3]
    ·rw[j k hk']
     have:k=0∨k=1∨k=2∨k=3:=by omega
     rcases this with rfl | rfl | rfl | rfl <;> simp
   ·simp only[hop,if_false,Bool.false_eq_true]at tk
    refine⟨l++ks,q++ps,false,false,t2,by simp,by simp,hlq2,hall,hallq,by omega,by rw[uZ,List.length_append];omega,ht2,fun G p env K Q c0 hi g0 g3 hk=>?_⟩;refine bA fun L hL=>?_
    have hc4:=fun c3=>hc3 G p c0 c3 hi
    generalize Expr.aC (l++ks)=A at *;generalize Expr.aC l=A' at *;generalize Pat.aC (q++ps)=B at *;generalize Pat.aC q=B' at *;generalize(l++ks).length=n1 at *;generalize(q++ps).length=n2 at *;simp[R8,g0,g3,hi,hb,hc4,jO,tk,z3,bG,Go.AM.D.aD,Go.AM.D.aF,Go.AM.D.one,Go.AM.D.under];refine hk _ fun k hk'=>?_
    have:k=0∨k=1∨k=2∨k=3:=by omega
    rcases this with rfl | rfl | rfl | rfl <;> simp
  ·refine⟨l,q,nk,np,t,hnk,hnp,hlq,he,hq,by omega,by omega,PS.to.refl ht,fun G p env K Q c0 hi g0 g3 hk=>?_⟩
   refine bA fun L hL=>?_
   simp[R8,g0,g3,hi,hb];refine hk _ fun k hk'=>?_
   have:k=0∨k=1∨k=2∨k=3:=by omega
   rcases this with rfl | rfl | rfl | rfl <;> simp
end
section
variable {X:Ctx}
theorem Pat.nM(k:Int)(n:Bs)(f g:Nl)(ks:List Expr)(ps:List Pat):(Pat.mk k n f ks g ps).cells=[.int .i64 k,.str n,SL f (Expr.aC ks) ks.length,SL g (Pat.aC ps) ps.length]:=by simp[Pat.cells]
theorem T8 {m k:Int}{n:Bs}{f g:Nl}{ks:List Expr}{ps:List Pat}(hn:n.length<=1000000)(h1:ks.length<=2000000)(h2:∀x∈ks,aL m x)(h3:ps.length<=2000000)(h4:∀x∈ps,fC m x):fC m (.mk k n f ks g ps):=by
 rw[fC,Fi,B9];exact⟨hn,h1,h2,h3,h4⟩
set_option maxHeartbeats 2000000 in
theorem IP(hX:CX X){dp:Nat}(hD:dp<=200)(hpt:dp<200->∀s:PS,s.good->s.depth=dp+1->uB X s)(hen:dp<200->∀s:PS,s.good->s.depth=dp+1->Fl X s):∀s:PS,s.good->s.depth=dp->uB X s:=by
 intro s hg hd;obtain⟨g1,q1,q2,q3,q4⟩:=PS.N6 hg (by omega);have hdp:∀(H:aA) (p:Nat),H[p]? =some s.box->cF X pJ [.ptr p 0] H=some (.bool (decide (s.deep.bad=0)),H.set p s.deep.box):=fun H p h=>X9 hX h hg.ok
 by_cases hbad:s.deep.bad=0
 ·have hlt:dp<200:=by
   rcases Nat.lt_or_ge dp 200 with q | q
   ·exact q
   ·exact absurd hbad (PS.Av (by omega))
  have hk:∀(G:aA) (p:Nat),G[p]? =some s.deep.box->cF X eI [.ptr p 0] G=some (.int .i64 s.deep.kind,G):=fun G p h=>kV hX h g1.ok
  have htk:∀(t:Bs) (H:aA) (p:Nat),H[p]? =some s.deep.box->cF X bE [.ptr p 0,.int .i64 4,.str t] H=some (.bool (s.deep.is 4 t),H.set p (if s.deep.is 4 t then s.deep.next else s.deep).box):=fun t H p h=>eQ hX h g1.ok 4 t
  have hwr:∀(G:aA) (p:Nat),G[p]? =some s.deep.box->cF X iF [.ptr p 0] G=some (.tup [],G.set p s.deep.dD.box):=fun G p h=>rF hX h g1.ok
  have htx:∀(G:aA) (p:Nat),G[p]? =some s.deep.box->cF X fL [.ptr p 0,.int .i64 5] G=some (.str (s.deep.text 5),G.set p (s.deep.past 5).box):=fun G p h=>mV hX h g1.ok 5 (by decide)
  simp only[hbad,decide_true]at hdp;generalize hs1:s.deep=s1 at *;have up:∀t:PS,s1.to t->s.to t.up∧IntKind.i64.wrap ((t.depth:Int)-1)=((t.depth-1:Nat):Int):=fun t h=>⟨PS.rA (s:=s) (t:=t) (by rw[hs1];exact h) hg (by omega),by have:=h.dep;rw[wrap_i64 (by omega) (by omega)];omega⟩
  have hup_at:∀t:PS,t.up.at_=t.at_:=fun t=>rfl
  by_cases h5:s1.kind=5
  ·have hpw5:pw (.mk 1 (s1.text 5) .nil [] .nil [])+3*s.at_<=3*(s1.past 5).up.at_+1:=by
    have:=(PS.jH g1 (k:=5) (by decide)).at_;rw[hup_at];simp[pw,bV];omega
   have htl:=PS.jU g1 5;obtain⟨hup,hw⟩:=up (s1.past 5) (PS.jH g1 (by decide));refine⟨.mk 1 (s1.text 5) .nil [] .nil [],(s1.past 5).up,⟨T8 htl (by decide) (by simp) (by decide) (by simp),hpw5⟩,hup,fun G p hp=>?_⟩;refine O3 hX ?_;have hi:=In.of hp;generalize s1.text 5=tx at *;generalize s1.past 5=sx at *;simp[xB,aB,hp,hi,hdp,hk,h5,htx,z3,jO,bG,Go.AM.D.aD,Go.AM.D.aF,Go.AM.D.one,Go.AM.D.under,bU,hw,PS.up,Pat.nM,SL,Expr.aC,Pat.aC]
  ·have t1:=htk [91]
   by_cases h1:s1.is 4 [91]=true
   ·simp only[h1,if_true]at t1
    have k1:=PS.cC g1 (PS.is_lt h1);obtain⟨l,nl,t,hnl,he,hl,hw0,ht,hgo⟩:=zAf hX (hpt hlt) _ s1.next [] true s1.next.at_ (by simp[bV]) (by simp) k1.good (by rw[k1.dep,q4,hd]) (by simp) (by simp) (Nat.le_refl _);have hwt:∀(H:aA) (p:Nat),H[p]? =some t.box->cF X cN [.ptr p 0,.int .i64 4,.str [93]] H=some (.tup [],H.set p (t.want 4 [93]).box):=fun H p h=>iY hX h ht.good.ok 4 [93]
    obtain⟨hup,hw⟩:=up (t.want 4 [93]) ((k1.trans ht).trans (PS.dO ht.good 4 [93]));refine⟨.mk 2 [] .nil [] (if nl then .nil else .full) l,(t.want 4 [93]).up,⟨T8 (by decide) (by decide) (by simp) (by omega) (by rw[← q2, ← k1.e];exact he),by have:=(PS.dO ht.good 4 [93]).at_;have:s1.next.at_=s1.at_+1:=rfl;rw[hup_at];simp[pw];omega⟩,hup,fun G p hp=>?_⟩;refine O3 hX ?_;have hi:=In.of hp;simp[xB,hp,hi,hdp,hk,h5,t1,z3,jO,bG,Go.AM.D.aD,Go.AM.D.aF,Go.AM.D.one,Go.AM.D.under,bU];refine hgo G p _ _ _ _ _ hi ?_ ?_ fun env' j=>?_
    ·simp
    ·simp
    have j0:=j 0 (by decide);have j2:=j 2 (by decide);have j3:=j 3 (by decide);simp at j0 j2 j3;generalize t.want 4 [93]=sx at *;have htake:List.take (l.length*4) (Pat.aC l)=Pat.aC l:=List.take_of_length_le (by rw[Pat.bC];exact Nat.le_refl _)
    cases nl with
    | true=>
     obtain rfl:=hnl rfl;simp[aB,j0,j2,j3,hi,hwt,z3,jO,bG,Go.AM.D.aD,Go.AM.D.aF,Go.AM.D.one,Go.AM.D.under,hw,PS.up,Pat.nM,SL,Expr.aC,Pat.aC]
    | false=>
     simp[aB,j0,j2,j3,hi,hwt,z3,jO,bG,Go.AM.D.aD,Go.AM.D.aF,Go.AM.D.one,Go.AM.D.under,hw,PS.up,Pat.nM,dH,cA,Pat.bC,htake,Pat.eY,Pat.dQ,Pat.dT]
   ·simp only[h1,if_false,Bool.false_eq_true]at t1
    have t2:=htk [123];by_cases h2:s1.is 4 [123]=true
    ·simp only[h2,if_true]at t2
     have k1:=PS.cC g1 (PS.is_lt h2);obtain⟨l,q,nl,nq,t,hnl,hnq,hlq,he,heq,hl,hw0,ht,hgo⟩:=zAe hX (hen hlt) _ s1.next [] [] true true s1.next.at_ (by simp[bV]) (by simp) (by simp) rfl k1.good (by rw[k1.dep,q4,hd]) (by simp) (by simp) (by simp) (Nat.le_refl _);have hwt:∀(H:aA) (p:Nat),H[p]? =some t.box->cF X cN [.ptr p 0,.int .i64 4,.str [125]] H=some (.tup [],H.set p (t.want 4 [125]).box):=fun H p h=>iY hX h ht.good.ok 4 [125]
     obtain⟨hup,hw⟩:=up (t.want 4 [125]) ((k1.trans ht).trans (PS.dO ht.good 4 [125]));refine⟨.mk 3 [] (if nl then .nil else .full) l (if nq then .nil else .full) q,(t.want 4 [125]).up,⟨T8 (by decide) (by omega) (by rw[← q2, ← k1.e];exact he) (by omega) (by rw[← q2, ← k1.e];exact heq),by have:=(PS.dO ht.good 4 [125]).at_;have:s1.next.at_=s1.at_+1:=rfl;rw[hup_at];simp[pw];omega⟩,hup,fun G p hp=>?_⟩;refine O3 hX ?_;have hi:=In.of hp;simp[xB,hp,hi,hdp,hk,h5,t1,t2,z3,jO,bG,Go.AM.D.aD,Go.AM.D.aF,Go.AM.D.one,Go.AM.D.under,bU];refine hgo G p _ _ _ _ hi ?_ ?_ fun env' j=>?_
     ·simp
     ·simp
     have j0:=j 0 (by decide);have j2:=j 2 (by decide);have j3:=j 3 (by decide);simp at j0 j2 j3;generalize t.want 4 [125]=sx at *;have htake:List.take (q.length*4) (Pat.aC q)=Pat.aC q:=List.take_of_length_le (by rw[Pat.bC];exact Nat.le_refl _);have htake2:List.take (l.length*10) (Expr.aC l)=Expr.aC l:=List.take_of_length_le (by rw[Expr.bC];exact Nat.le_refl _);clear hlq
     cases nl with
     | true=>
      obtain rfl:=hnl rfl
      cases nq with
      | true=>
       obtain rfl:=hnq rfl;simp[aB,j0,j2,j3,hi,hwt,z3,jO,bG,Go.AM.D.aD,Go.AM.D.aF,Go.AM.D.one,Go.AM.D.under,hw,PS.up,Pat.nM,SL,Expr.aC,Pat.aC]
      | false=>
       simp[aB,j0,j2,j3,hi,hwt,z3,jO,bG,Go.AM.D.aD,Go.AM.D.aF,Go.AM.D.one,Go.AM.D.under,hw,PS.up,Pat.nM,dH,cA,Pat.bC,htake,Pat.eY,Pat.dQ,Pat.dT]
     | false=>
      cases nq with
      | true=>
       obtain rfl:=hnq rfl;simp[aB,j0,j2,j3,hi,hwt,z3,jO,bG,Go.AM.D.aD,Go.AM.D.aF,Go.AM.D.one,Go.AM.D.under,hw,PS.up,Pat.nM,Zo,cA,Expr.bC,htake2,Expr.eY,Expr.dQ,Expr.dT]
      | false=>
       simp[aB,j0,j2,j3,hi,hwt,z3,jO,bG,Go.AM.D.aD,Go.AM.D.aF,Go.AM.D.one,Go.AM.D.under,hw,PS.up,Pat.nM,cA,Expr.bC,htake2,Expr.eY,Expr.dQ,Expr.dT,Pat.bC,htake,Pat.eY,Pat.dQ,Pat.dT]
    ·simp only[h2,if_false,Bool.false_eq_true]at t2
     obtain⟨hup,hw⟩:=up s1.dD (PS.mT g1);refine⟨p0,s1.dD.up,⟨T8 (by decide) (by decide) (by simp) (by decide) (by simp),by have:=(PS.mT g1).at_;rw[hup_at];simp[p0,pw,bV];omega⟩,hup,fun G p hp=>?_⟩;refine O3 hX ?_;have hi:=In.of hp;generalize s1.dD=sx at *;simp[xB,aB,hp,hi,hdp,hk,h5,t1,t2,hwr,z3,jO,bG,Go.AM.D.aD,Go.AM.D.aF,Go.AM.D.one,Go.AM.D.under,bU,hw,PS.up,HA]
 ·have hup:=PS.rA (s:=s) (t:=s.deep) (PS.to.refl g1) hg (by omega)
  have hw:IntKind.i64.wrap ((s.deep.depth:Int)-1)=((s.deep.depth-1:Nat):Int):=by
   rw[q4,wrap_i64 (by omega) (by omega)];omega
  simp only[hbad,decide_false]at hdp;refine⟨p0,s.deep.up,⟨T8 (by decide) (by decide) (by simp) (by decide) (by simp),by have:s.deep.up.at_=s.deep.at_:=rfl;simp[p0,pw,bV];omega⟩,hup,fun G p hp=>?_⟩;refine O3 hX ?_;have hi:=In.of hp;generalize s.deep=s1 at *;simp[xB,aB,hp,hi,hdp,z3,jO,bG,Go.AM.D.aD,Go.AM.D.aF,Go.AM.D.one,Go.AM.D.under,bU,hw,PS.up,HA]
end
section
variable {X:Ctx}
theorem apS {G:aA}{p b:Nat}{bx c0:Chunk}{l:aA}{A:List D}{n:Nat}{nk:Bool}(e:Bs)(hA:A.length=n)(hnk:nk=true->n=0)(hn:n<=2000000):cR b (G.set p bx++(c0:: .row 1 A nk::l)) 1 16 (.osl (G.length+1) n 0 n) [.str e] 1=some (.osl (G.length+1) (n+1) 0 (n+1),G.set p bx++(c0:: .row 1 (A++[.str e]) false::l)):=by
 rw[kB (hw:=n) (es:=1) (bytes:=16) (m:=1) (ys:=[.str e]) (cs:=A) (nil:=nk) (n:=n) (by rw[List.getElem?_append_right (by simp)];simp) hA (by omega) hnk (by unfold aX;omega) (by unfold aX;omega) (aH (fun n=>by simp) (by simp)) (by omega)];congr 2;rw[List.set_append_right _ _ (by simp)];simp
theorem Ky(a b:D)(e:Expr):aJ true 12 (a::b::e.cells)=some (.agg (a::b::e.cells)):=by simp[aJ,Expr.aK,List.take_of_length_le (Nat.le_of_eq (Expr.aK e))]
theorem zJm(hX:CX X):∀(n:Nat) (t:PS) (l:List (Bs)) (nl:Bool),(nl=true->l=[])->t.good->(∀x∈l,x.length<=2000000)->l.length<=t.at_->t.l.length-t.at_<=n->∃l' nl' t',(nl'=true->l'=[])∧(∀x∈l',x.length<=2000000)∧l'.length<=1000001∧t.to t'∧∀(G:aA) (p:Nat) (env:Env) (K:List Fr) (Q:Ex->St->Prop) (c0:Chunk) (nm:Bs) (r:List D),In G p->env.get 0=.ptr p 0->env.get 3=.ptr (G.length+2) 0->(∀env':Env,(∀k,k<4->env'.get k=env.get k)->YX X G.length none (.exit 0) K ⟨env',G.set p t'.box++[c0,.row 1 (l'.map D.str) nl',.box (.str nm:: .osl (G.length+1) l'.length 0 l'.length::r)],[]⟩ Q)->YS X G.length none (.loop oD) K ⟨env,G.set p t.box++[c0,.row 1 (l.map D.str) nl,.box (.str nm:: .osl (G.length+1) l.length 0 l.length::r)],[]⟩ Q:=by
 intro n
 induction n using Nat.strongRecOn with
 | ind n ih=>
  intro t l nl hnl ht he hll hn;have hlt0:=ht.ok.at_;have hlt1:=ht.ok.len;by_cases hb:t.bad=0
  ·have hfl:∀(H:aA) (p:Nat),H[p]? =some t.box->cF X kZ [.ptr p 0,.int .i64 3] H=some (.tup [],H.set p (t.fail 3).box):=fun H p h=>E7 hX h ht.ok 3
   obtain⟨t0,ht0,hq0⟩:∃t0:PS,t.to t0∧(t0=if l.length=8 then t.fail 3 else t):=⟨_,by split;exact PS.iI ht 3;exact PS.to.refl ht,rfl⟩;have hkd:∀(H:aA) (p:Nat),H[p]? =some t0.box->cF X eI [.ptr p 0] H=some (.int .i64 t0.kind,H):=fun H p h=>kV hX h ht0.good.ok
   obtain⟨e2,t2,he2,ht2,hc2⟩:∃(e2:Bs) (t2:PS),e2.length<=2000000∧t.to t2∧((t0.kind=5∧∃u,e2=36::u∧∀(H:aA) (p:Nat),H[p]? =some t0.box->cF X fL [.ptr p 0,.int .i64 5] H=some (.str u,H.set p t2.box))∨(t0.kind≠5∧∀(H:aA) (p:Nat),H[p]? =some t0.box->cF X yO [.ptr p 0] H=some (.str e2,H.set p t2.box))):=by
    by_cases h5:t0.kind=5
    ·exact⟨36::t0.text 5,t0.past 5,by have:=PS.jU ht0.good 5;simp;omega,ht0.trans (PS.jH ht0.good (by decide)),.inl ⟨h5,_,rfl,fun H p h=>mV hX h ht0.good.ok 5 (by decide)⟩⟩
    ·obtain⟨nm,s',h1,h2,h3⟩:=Hg hX ht0.good
     exact⟨nm,s',by omega,ht0.trans h2,.inr ⟨h5,h3⟩⟩
   have tk:∀(H:aA) (p:Nat),H[p]? =some t2.box->cF X bE [.ptr p 0,.int .i64 4,.str [59]] H=some (.bool (t2.is 4 [59]),H.set p (if t2.is 4 [59]then t2.next else t2).box):=fun H p h=>eQ hX h ht2.good.ok 4 [59]
   have q2:=ht2.at_;have hlen:(l++[e2]).length=l.length+1:=by simp
   have hall:∀x∈l++[e2],x.length<=2000000:=by
    intro x hx;rcases List.mem_append.1 hx with h | h
    ·exact he x h
    ·rw[List.mem_singleton.1 h];exact he2
   have hB:(l.map D.str).length=l.length:=List.length_map ..;have hBe:(l++[e2]).map D.str=l.map D.str++[.str e2]:=by simp
   have hnl':nl=true->l.length=0:=fun h=>by rw[hnl h];rfl
   have hap:∀(G:aA) (p b:Nat) (bx c0:Chunk) (r:aA),_:=fun G p b bx c0 r=>apS (G:=G) (p:=p) (b:=b) (bx:=bx) (c0:=c0) (l:=r) e2 hB hnl' (by omega)
   have hel:∀H:aA,elems H 1 (.fsl [.str e2] 1)=some ([.str e2],1):=fun H=>by simp[elems]
   by_cases hop:t2.is 4 [59]=true
   ·simp only[hop,if_true]at tk
    have k1:=PS.cC ht2.good (PS.is_lt hop);have hlt:t2.next.l.length-t2.next.at_<n:=by
     have q1:t2.next.l.length=t.l.length:=by show t2.l.length=_;rw[ht2.l]
     have q3:t2.next.at_=t2.at_+1:=rfl;have:=PS.is_lt hop;have:t2.l.length=t.l.length:=by rw[ht2.l]
     omega
    obtain⟨l',nl',t',hnl',he',hl',ht',hgo⟩:=ih _ hlt t2.next (l++[e2]) false (by simp) k1.good hall (by rw[hlen];show _<=t2.at_+1;omega) (Nat.le_refl _);refine⟨l',nl',t',hnl',he',hl',(ht2.trans k1).trans ht',fun G p env K Q c0 nm r hi g0 g3 hk=>?_⟩;refine bA fun L hL=>?_
    rw[hlen,hBe]at hgo;have fin:∀env':Env,(∀k,k<4->env'.get k=env.get k)->YS X G.length none (.loop L) K ⟨env',G.set p t2.next.box++[c0,.row 1 (l.map D.str++[.str e2]) false,.box (.str nm:: .osl (G.length+1) (l.length+1) 0 (l.length+1)::r)],[]⟩ Q:=fun env' j=>by
     rw[hL];exact hgo G p _ K Q c0 nm r hi (by rw[j 0 (by decide),g0]) (by rw[j 3 (by decide),g3]) fun env'' j'=>hk env'' fun k hk'=>by rw[j' k hk',j k hk']
    generalize l.map D.str=A at *;by_cases h8:l.length=8
    ·have h8':(l.length:Int)=8:=by omega
     rw[if_pos h8]at hq0;subst hq0;generalize t.fail 3=t0 at *;simp only[h8,Nat.reduceAdd]at hap;rcases hc2 with⟨h5,u,rfl,hc2⟩ | ⟨h5,hc2⟩
     ·have hu:1+u.length<=9223372036854775807:=by rw[Nat.add_comm];exact Nat.le_trans he2 (by decide)
      simp[hu,oD,g0,g3,hi,hb,h8,h8',hfl,hkd,h5,hc2,tk,hel,hap,bG,Go.AM.D.aD,Go.AM.D.aF,Go.AM.D.one,Go.AM.D.under,aQ,aR,aS,aT,aO,aP, -aN];simp only[h8,Nat.reduceAdd]at fin;refine fin _ fun k hk'=>?_
      have:k=0∨k=1∨k=2∨k=3:=by omega
      rcases this with rfl | rfl | rfl | rfl <;> simp
     ·simp[oD,g0,g3,hi,hb,h8,h8',hfl,hkd,h5,hc2,tk,hel,hap,bG,Go.AM.D.aD,Go.AM.D.aF,Go.AM.D.one,Go.AM.D.under,aQ,aR,aS,aT,aO,aP, -aN]
      simp only[h8,Nat.reduceAdd]at fin;refine fin _ fun k hk'=>?_
      have:k=0∨k=1∨k=2∨k=3:=by omega
      rcases this with rfl | rfl | rfl | rfl <;> simp
    ·have h8':¬(l.length:Int)=8:=by omega
     rw[if_neg h8]at hq0;subst hq0;rcases hc2 with⟨h5,u,rfl,hc2⟩ | ⟨h5,hc2⟩
     ·have hu:1+u.length<=9223372036854775807:=by rw[Nat.add_comm];exact Nat.le_trans he2 (by decide)
      simp[hu,oD,g0,g3,hi,hb,h8,h8',hkd,h5,hc2,tk,hel,hap,bG,Go.AM.D.aD,Go.AM.D.aF,Go.AM.D.one,Go.AM.D.under,aQ,aR,aS,aT,aO,aP, -aN];refine fin _ fun k hk'=>?_
      have:k=0∨k=1∨k=2∨k=3:=by omega
      rcases this with rfl | rfl | rfl | rfl <;> simp
     ·simp[oD,g0,g3,hi,hb,h8,h8',hkd,h5,hc2,tk,hel,hap,bG,Go.AM.D.aD,Go.AM.D.aF,Go.AM.D.one,Go.AM.D.under,aQ,aR,aS,aT,aO,aP, -aN]
      refine fin _ fun k hk'=>?_
      have:k=0∨k=1∨k=2∨k=3:=by omega
      rcases this with rfl | rfl | rfl | rfl <;> simp
   ·simp only[hop,if_false,Bool.false_eq_true]at tk
    refine⟨l++[e2],false,t2,by simp,hall,by rw[hlen];omega,ht2,fun G p env K Q c0 nm r hi g0 g3 hk=>?_⟩;refine bA fun L hL=>?_
    rw[hlen,hBe]at hk;generalize l.map D.str=A at *;by_cases h8:l.length=8
    ·have h8':(l.length:Int)=8:=by omega
     rw[if_pos h8]at hq0;subst hq0;generalize t.fail 3=t0 at *;simp only[h8,Nat.reduceAdd]at hap;rcases hc2 with⟨h5,u,rfl,hc2⟩ | ⟨h5,hc2⟩
     ·have hu:1+u.length<=9223372036854775807:=by rw[Nat.add_comm];exact Nat.le_trans he2 (by decide)
      simp[hu,oD,g0,g3,hi,hb,h8,h8',hfl,hkd,h5,hc2,tk,hel,hap,bG,Go.AM.D.aD,Go.AM.D.aF,Go.AM.D.one,Go.AM.D.under,aQ,aR,aS,aT,aO,aP, -aN];simp only[h8,Nat.reduceAdd]at hk;refine hk _ fun k hk'=>?_
      have:k=0∨k=1∨k=2∨k=3:=by omega
      rcases this with rfl | rfl | rfl | rfl <;> simp
     ·simp[oD,g0,g3,hi,hb,h8,h8',hfl,hkd,h5,hc2,tk,hel,hap,bG,Go.AM.D.aD,Go.AM.D.aF,Go.AM.D.one,Go.AM.D.under,aQ,aR,aS,aT,aO,aP, -aN]
      simp only[h8,Nat.reduceAdd]at hk;refine hk _ fun k hk'=>?_
      have:k=0∨k=1∨k=2∨k=3:=by omega
      rcases this with rfl | rfl | rfl | rfl <;> simp
    ·have h8':¬(l.length:Int)=8:=by omega
     rw[if_neg h8]at hq0;subst hq0;rcases hc2 with⟨h5,u,rfl,hc2⟩ | ⟨h5,hc2⟩
     ·have hu:1+u.length<=9223372036854775807:=by rw[Nat.add_comm];exact Nat.le_trans he2 (by decide)
      simp[hu,oD,g0,g3,hi,hb,h8,h8',hkd,h5,hc2,tk,hel,hap,bG,Go.AM.D.aD,Go.AM.D.aF,Go.AM.D.one,Go.AM.D.under,aQ,aR,aS,aT,aO,aP, -aN];refine hk _ fun k hk'=>?_
      have:k=0∨k=1∨k=2∨k=3:=by omega
      rcases this with rfl | rfl | rfl | rfl <;> simp
     ·simp[oD,g0,g3,hi,hb,h8,h8',hkd,h5,hc2,tk,hel,hap,bG,Go.AM.D.aD,Go.AM.D.aF,Go.AM.D.one,Go.AM.D.under,aQ,aR,aS,aT,aO,aP, -aN]
      refine hk _ fun k hk'=>?_
      have:k=0∨k=1∨k=2∨k=3:=by omega
      rcases this with rfl | rfl | rfl | rfl <;> simp
  ·refine⟨l,nl,t,hnl,he,by omega,PS.to.refl ht,fun G p env K Q c0 nm r hi g0 g3 hk=>?_⟩
   refine bA fun L hL=>?_
   simp[oD,g0,g3,hi,hb];refine hk _ fun k hk'=>?_
   have:k=0∨k=1∨k=2∨k=3:=by omega
   rcases this with rfl | rfl | rfl | rfl <;> simp
end
section
variable {X:Ctx}
theorem Def.nM(n:Bs)(f:Nl)(l:List (Bs))(b:Expr):(Def.mk n f l b).cells=.str n::SL f (l.map D.str) l.length::b.cells:=by simp[Def.cells]
theorem Lf {H:aA}{n f:Nat}(a b:D)(e:Expr):bN (Go.AM.fz H n (f+1)) (a::b::e.cells)=(bN (Go.AM.fz H n (f+1)) [a,b]).map (· ++e.cells):=by
 have:a::b::e.cells=[a,b]++e.cells:=rfl;rw[this,jB,Expr.fz]
 cases bN (Go.AM.fz H n (f+1)) [a,b] <;> rfl
set_option maxHeartbeats 1000000 in
theorem zFW(hX:CX X){dp:Nat}(hpp:∀s:PS,s.good->s.depth=dp->bB X dF [] s):∀s:PS,s.good->s.depth=dp->PE X s:=by
 intro s hg hd;obtain⟨nm,s1,hnm,ht1,hc1⟩:=Hg hX hg;have tk:∀(H:aA) (p:Nat),H[p]? =some s1.box->cF X bE [.ptr p 0,.int .i64 4,.str [40]] H=some (.bool (s1.is 4 [40]),H.set p (if s1.is 4 [40]then s1.next else s1).box):=fun H p h=>eQ hX h ht1.good.ok 4 [40]
 have wt:∀(u:PS) (t:Bs),u.good->∀(H:aA) (p:Nat),H[p]? =some u.box->cF X cN [.ptr p 0,.int .i64 4,.str t] H=some (.tup [],H.set p (u.want 4 t).box):=fun u t hu H p h=>iY hX h hu.ok 4 t
 have hz:z0=e0.cells:=by rw[bP];rfl
 by_cases hop:s1.is 4 [40]=true
 ·simp only[hop,if_true]at tk
  have k1:=PS.cC ht1.good (PS.is_lt hop);obtain⟨l,nl,t,hnl,he,hl,ht,hgo⟩:=zJm hX _ s1.next [] true (by simp) k1.good (by simp) (by simp) (Nat.le_refl _);have w1:=wt t [41] ht.good;have k2:=PS.dO ht.good 4 [41];have w2:=wt _ [58] k2.good;have k3:=PS.dO k2.good 4 [58];obtain⟨e2,s2,he2,ht2,hc2⟩:=hpp _ k3.good (by rw[k3.dep,k2.dep,ht.dep,k1.dep,ht1.dep,hd]);have w3:=wt s2 [59] ht2.good;have k4:=PS.dO ht2.good 4 [59];have he2':aL s.end_ e2:=by rw[← ht1.e, ← k1.e, ← ht.e, ← k2.e, ← k3.e];exact he2
  refine⟨.mk nm (if nl then .nil else .full) l e2,s2.want 4 [59],⟨hnm,by omega,he,he2'⟩,(((((ht1.trans k1).trans ht).trans k2).trans k3).trans ht2).trans k4,fun G p hp=>?_⟩;refine MZ hX ?_;have hi:=In.of hp;simp[Eb,hp,hi,hc1,tk,z1,bG,Go.AM.D.aD,Go.AM.D.aF,Go.AM.D.one,Go.AM.D.under,bU];refine hgo G p _ _ _ _ _ _ hi ?_ ?_ fun env' j=>?_
  ·simp
  ·simp
  have j0:=j 0 (by decide);have j2:=j 2 (by decide);have j3:=j 3 (by decide);simp at j0 j2 j3;generalize s2.want 4 [59]=sx at *;generalize(t.want 4 [41]).want 4 [58]=sy at *;generalize t.want 4 [41]=sz at *;have htake:List.take l.length (l.map D.str)=l.map D.str:=List.take_of_length_le (by simp)
  cases nl with
  | true=>
   obtain rfl:=hnl rfl;simp[aB,j0,j2,j3,hi,w1,w2,hc2,w3,z1,Ky,Lf,bG,Go.AM.D.aD,Go.AM.D.aF,Go.AM.D.one,Go.AM.D.under,Def.nM,SL]
  | false=>
   simp[aB,j0,j2,j3,hi,w1,w2,hc2,w3,z1,Ky,Lf,bG,Go.AM.D.aD,Go.AM.D.aF,Go.AM.D.one,Go.AM.D.under,Def.nM,cA,htake]
 ·simp only[hop,if_false,Bool.false_eq_true]at tk
  have w2:=wt _ [58] ht1.good;have k3:=PS.dO ht1.good 4 [58];obtain⟨e2,s2,he2,ht2,hc2⟩:=hpp _ k3.good (by rw[k3.dep,ht1.dep,hd]);have w3:=wt s2 [59] ht2.good;have k4:=PS.dO ht2.good 4 [59];have he2':aL s.end_ e2:=by rw[← ht1.e, ← k3.e];exact he2
  refine⟨.mk nm .nil [] e2,s2.want 4 [59],⟨hnm,by decide,by simp,he2'⟩,((ht1.trans k3).trans ht2).trans k4,fun G p hp=>?_⟩;refine MZ hX ?_;have hi:=In.of hp;generalize s2.want 4 [59]=sx at *;generalize s1.want 4 [58]=sy at *;simp[Eb,aB,hp,hi,hc1,tk,w2,hc2,w3,z1,Ky,Lf,bG,Go.AM.D.aD,Go.AM.D.aF,Go.AM.D.one,Go.AM.D.under,bU,Def.nM,SL]
end
end Go.AM.T
