/- Walks. -/
import Derived.Test.YtbgdifdbgcgjnaaGreatDoorWalkB
set_option linter.unusedVariables false
set_option linter.unusedSimpArgs false
set_option linter.unnecessarySimpa false
set_option maxRecDepth 100000
namespace Go.AM.T
section
variable {X:Ctx}
theorem PS.Fu {s:PS}(h:s.bad=0):s.dD.bad≠0:=by
 unfold PS.dD PS.fail;split <;> simp[h]
def PS.left(t:PS):Nat:=if t.bad=0 then t.l.length-t.at_+1 else 0
theorem PS.zGc {t:PS}(h:t.bad=0):t.dD.left<t.left:=by
 unfold PS.left;rw[if_neg (PS.Fu h),if_pos h];omega
theorem PS.zA {t u:PS}(h:t.bad=0)(hl:u.l=t.l)(ha:t.at_<u.at_)(hu:u.at_<=u.l.length):u.left<t.left:=by
 unfold PS.left;rw[if_pos h,hl];rw[hl]at hu;split <;> omega
theorem ZI(hX:CX X){dp:Nat}(hpp:∀s:PS,s.good->s.depth=dp->bB X dF [] s):∀(n:Nat) (t:PS) (l:List Expr) (nl b:Bool),(nl=true->l=[])->t.good->t.depth=dp->(∀x∈l,aL t.end_ x)->(∀x∈l,x.text.length<=1000000)->l.length<=t.at_->(t.bad=0->1<=t.at_)->t.left<=n->∃l' nl' b' t',(nl'=true->l'=[])∧(∀x∈l',aL t.end_ x)∧(∀x∈l',x.text.length<=1000000)∧l'.length<=t'.at_∧t.to t'∧∀(G:aA) (p:Nat) (env:Env) (K:List Fr) (Q:Ex->St->Prop) (c0:Chunk) (a:Int) (n1:Bs),In G p->env.get 0=.ptr p 0->env.get 7=.ptr (G.length+2) 0->env.get 8=.bool b->(∀env':Env,(∀k,k<8->env'.get k=env.get k)->env'.get 8=.bool b'->YX X G.length none (.exit 0) K ⟨env',G.set p t'.box++[c0,.row 10 (Expr.aC l') nl',pD 10 a n1 (G.length+1) l'.length],[]⟩ Q)->YS X G.length none (.loop sG) K ⟨env,G.set p t.box++[c0,.row 10 (Expr.aC l) nl,pD 10 a n1 (G.length+1) l.length],[]⟩ Q:=by
 intro n
 induction n using Nat.strongRecOn with
 | ind n ih=>
  intro t l nl b hnl ht hd he htl hll h1 hn;have hlt0:=ht.ok.at_;have hlt1:=ht.ok.len;have hkd:∀(H:aA) (p:Nat),H[p]? =some t.box->cF X eI [.ptr p 0] H=some (.int .i64 t.kind,H):=fun H p h=>kV hX h ht.ok
  have hh:∀(H:aA) (p:Nat),H[p]? =some t.box->cF X fR [.ptr p 0] H=some (.int .i64 t.here,H):=fun H p h=>lJ hX h ht.ok
  have hho:=PS.pN ht;have key8:∀env:Env,∀k,k<8->k=0∨k=1∨k=2∨k=3∨k=4∨k=5∨k=6∨k=7:=fun env k h=>by omega
  by_cases hb:t.bad=0
  ·by_cases h11:t.kind=11
   ·refine⟨l,nl,b,t,hnl,he,htl,hll,PS.to.refl ht,fun G p env K Q c0 a n1 hi g0 g7 g8 hk=>?_⟩
    refine bA fun L hL=>?_
    simp[sG,g0,g7,g8,hi,hb,hkd,h11];refine hk _ (fun k hk'=>?_) ?_
    ·rcases key8 env k hk' with rfl | rfl | rfl | rfl | rfl | rfl | rfl | rfl <;> simp
    ·simp[g8]
   ·have hwr:∀(G:aA) (p:Nat),G[p]? =some t.box->cF X iF [.ptr p 0] G=some (.tup [],G.set p t.dD.box):=fun G p h=>rF hX h ht.ok
    have kw:=PS.mT ht;have hp1:=h1 hb;have hidx:t.at_-1<t.l.length∨t.l.length<=t.at_-1:=by omega
    have wr:∃l' nl' b' t',(nl'=true->l'=[])∧(∀x∈l',aL t.end_ x)∧(∀x∈l',x.text.length<=1000000)∧l'.length<=t'.at_∧t.to t'∧∀(G:aA) (p:Nat) (env:Env) (K:List Fr) (Q:Ex->St->Prop) (c0:Chunk) (a:Int) (n1:Bs),In G p->env.get 0=.ptr p 0->env.get 7=.ptr (G.length+2) 0->env.get 8=.bool b->(∀env':Env,(∀k,k<8->env'.get k=env.get k)->env'.get 8=.bool b'->YX X G.length none (.exit 0) K ⟨env',G.set p t'.box++[c0,.row 10 (Expr.aC l') nl',pD 10 a n1 (G.length+1) l'.length],[]⟩ Q)->YS X G.length none (.loop sG) K ⟨env,G.set p t.dD.box++[c0,.row 10 (Expr.aC l) nl,pD 10 a n1 (G.length+1) l.length],[]⟩ Q:=by
     obtain⟨l',nl',b',t',r1,r2,r3,r4,r5,r6⟩:=ih _ (Nat.lt_of_lt_of_le (PS.zGc hb) hn) t.dD l nl b hnl kw.good (kw.dep.trans hd) (by rw[kw.e];exact he) htl (Nat.le_trans hll kw.at_) (fun h=>absurd h (PS.Fu hb)) (Nat.le_refl _);exact⟨l',nl',b',t',r1,by rw[← kw.e];exact r2,r3,r4,kw.trans r5,r6⟩
    have hlst:t.kind=8->∃h:t.at_-1<t.l.length,True:=fun h=>⟨by have:=PS.K3 (s:=t) (by omega);omega,trivial⟩
    have hi1:((t.at_:Int)-1)=((t.at_-1:Nat):Int):=by omega
    have hw1:IntKind.i64.wrap ((t.at_:Int)-1)=((t.at_-1:Nat):Int):=by rw[wrap_i64 (by omega) (by omega)];omega
    by_cases h8:t.kind=8
    ·obtain⟨hix, -⟩:=hlst h8
     have hix':((t.at_-1:Nat):Int)<t.l.length:=by omega
     have hdr:=Token.dG hix;by_cases hq:t.l[t.at_-1].kind=8
     ·obtain⟨l',nl',b',t',r1,r2,r3,r4,r5,hgo⟩:=wr
      refine⟨l',nl',b',t',r1,r2,r3,r4,r5,fun G p env K Q c0 a n1 hi g0 g7 g8 hk=>?_⟩;refine bA fun L hL=>?_
      generalize t.dD=tw at *;simp[sG,g0,g7,g8,hi,hb,hkd,hh,h8,hw1,hix,hix',hdr,hq,hwr,aQ,aR,aS,aT,aO,aP, -aN];rw[hL];refine hgo G p _ K Q c0 a n1 hi ?_ ?_ ?_ fun env' j j8=>hk env' (fun k hk'=>?_) j8
      ·simp[g0]
      ·simp[g7]
      ·simp[g8]
      ·rw[j k hk']
       rcases key8 env k hk' with rfl | rfl | rfl | rfl | rfl | rfl | rfl | rfl <;> simp
     ·have htx:∀(G:aA) (p:Nat),G[p]? =some t.box->cF X fL [.ptr p 0,.int .i64 8] G=some (.str (t.text 8),G.set p (t.past 8).box):=fun G p h=>mV hX h ht.ok 8 (by decide)
      have htxl:=PS.jU ht 8;have k1:=PS.jH ht (k:=8) (by decide);have hpa:(t.past 8).at_=t.at_+1:=by
       unfold PS.past;rw[if_pos h8];rfl
      have ek:aL t.end_ (eK 9 [] (t.text 8) .nil [] t.here):=cK (by decide) (by omega) (by decide) (by simp) hho.1 hho.2;have hkc:(eK 9 [] (t.text 8) .nil [] t.here).cells=[.int .i64 9,.str [],.str (t.text 8),.bool false,.nilsl,.int .i64 0,.nilsl,.nilsl,.nilsl,.int .i64 t.here]:=by simp[bW,dH]
      have hktx:(eK 9 [] (t.text 8) .nil [] t.here).text=t.text 8:=rfl;have hA:=Expr.bC l;have hnl':nl=true->l.length=0:=fun h=>by rw[hnl h];rfl
      generalize eK 9 [] (t.text 8) .nil [] t.here=kk at *;obtain⟨l',nl',b',t',r1,r2,r3,r4,r5,hgo⟩:=ih _ (Nat.lt_of_lt_of_le (PS.zA hb k1.l (by omega) k1.good.ok.at_) hn) (t.past 8) (l++[kk]) false b (by simp) k1.good (k1.dep.trans hd) (by rw[k1.e];intro x hx;rcases List.mem_append.1 hx with h | h;exact he x h;rw[List.mem_singleton.1 h];exact ek) (by intro x hx;rcases List.mem_append.1 hx with h | h;exact htl x h;rw[List.mem_singleton.1 h,hktx];exact htxl) (by simp;omega) (fun _=>by omega) (Nat.le_refl _);refine⟨l',nl',b',t',r1,by rw[← k1.e];exact r2,r3,r4,k1.trans r5,fun G p env K Q c0 a n1 hi g0 g7 g8 hk=>?_⟩;refine bA fun L hL=>?_
      simp only[Expr.iU,fH,List.length_append,List.length_singleton]at hgo;have a1:=fun(b:Nat) (bx c0:Chunk) (l:aA)=>jQ (G:=G) (p:=p) (b:=b) (bx:=bx) (c0:=c0) (l:=l) kk hA hnl' (by omega)
      have hel:∀H:aA,elems H 10 (.fsl kk.cells 1)=some (kk.cells,1):=fun H=>by simp[elems,Expr.aK]
      generalize t.text 8=tx at *;generalize t.past 8=tw at *;generalize t.here=hr at *;generalize Expr.aC l=A at *;simp[sG,g0,g7,g8,hi,hb,hkd,hh,h8,hw1,hix,hix',hdr,hq,htx,z0, ← hkc,hel,a1,bG,Go.AM.D.aD,Go.AM.D.aF,Go.AM.D.one,Go.AM.D.under,Expr.bI,aQ,aR,aS,aT,aO,aP, -aN];rw[hL];refine hgo G p _ K Q c0 a n1 hi ?_ ?_ ?_ fun env' j j8=>hk env' (fun k hk'=>?_) j8
      ·simp[g0]
      ·simp[g7]
      ·simp[g8]
      ·rw[j k hk']
       rcases key8 env k hk' with rfl | rfl | rfl | rfl | rfl | rfl | rfl | rfl <;> simp
    ·have tk:∀(H:aA) (p:Nat),H[p]? =some t.box->cF X bE [.ptr p 0,.int .i64 9,.str []] H=some (.bool (t.is 9 []),H.set p (if t.is 9 []then t.next else t).box):=fun H p h=>eQ hX h ht.ok 9 []
     by_cases hop:t.is 9 []=true
     ·simp only[hop,if_true]at tk
      have k0:=PS.cC ht (PS.is_lt hop);obtain⟨e2,t2,he2,ht2,hc2⟩:=hpp t.next k0.good (k0.dep.trans hd);have hwt:∀(H:aA) (p:Nat),H[p]? =some t2.box->cF X cN [.ptr p 0,.int .i64 10,.str []] H=some (.tup [],H.set p (t2.want 10 []).box):=fun H p h=>iY hX h ht2.good.ok 10 []
      have k2:=PS.dO ht2.good 10 [];have k1:=(k0.trans ht2).trans k2;have hpa:t.at_+1<=(t2.want 10 []).at_:=Nat.le_trans ht2.at_ k2.at_;have he2':aL t.end_ e2:=by rw[← k0.e];exact he2
      have ek:aL t.end_ (eK 11 [] [] .full [e2] t.here):=cK (by decide) (by decide) (by simp) (sW he2') hho.1 hho.2;have hkc:(eK 11 [] [] .full [e2] t.here).cells=[.int .i64 11,.str [],.str [],.bool false,.nilsl,.int .i64 0,.fsl e2.cells 1,.nilsl,.nilsl,.int .i64 t.here]:=by simp[bW,cA,fH]
      have hktx:(eK 11 [] [] .full [e2] t.here).text=[]:=rfl;have hA:=Expr.bC l;have hnl':nl=true->l.length=0:=fun h=>by rw[hnl h];rfl
      generalize eK 11 [] [] .full [e2] t.here=kk at *;obtain⟨l',nl',b',t',r1,r2,r3,r4,r5,hgo⟩:=ih _ (Nat.lt_of_lt_of_le (PS.zA hb k1.l (by omega) k1.good.ok.at_) hn) (t2.want 10 []) (l++[kk]) false false (by simp) k1.good (k1.dep.trans hd) (by rw[k1.e];intro x hx;rcases List.mem_append.1 hx with h | h;exact he x h;rw[List.mem_singleton.1 h];exact ek) (by intro x hx;rcases List.mem_append.1 hx with h | h;exact htl x h;rw[List.mem_singleton.1 h,hktx];decide) (by simp;omega) (fun _=>by omega) (Nat.le_refl _);refine⟨l',nl',b',t',r1,by rw[← k1.e];exact r2,r3,r4,k1.trans r5,fun G p env K Q c0 a n1 hi g0 g7 g8 hk=>?_⟩;refine bA fun L hL=>?_
      simp only[Expr.iU,fH,List.length_append,List.length_singleton]at hgo;have a1:=fun(b:Nat) (bx c0:Chunk) (l:aA)=>jQ (G:=G) (p:=p) (b:=b) (bx:=bx) (c0:=c0) (l:=l) kk hA hnl' (by omega)
      have hel:∀H:aA,elems H 10 (.fsl kk.cells 1)=some (kk.cells,1):=fun H=>by simp[elems,Expr.aK]
      generalize t2.want 10 []=tw at *;generalize t.next=tn at *;generalize t.here=hr at *;generalize Expr.aC l=A at *;simp[sG,g0,g7,g8,hi,hb,hkd,hh,h8,h11,tk,hc2,hwt,z0, ← hkc,hel,a1,bG,Go.AM.D.aD,Go.AM.D.aF,Go.AM.D.one,Go.AM.D.under,Expr.bI,aQ,aR,aS,aT,aO,aP, -aN];rw[hL];refine hgo G p _ K Q c0 a n1 hi ?_ ?_ ?_ fun env' j j8=>hk env' (fun k hk'=>?_) j8
      ·simp[g0]
      ·simp[g7]
      ·simp
      ·rw[j k hk']
       rcases key8 env k hk' with rfl | rfl | rfl | rfl | rfl | rfl | rfl | rfl <;> simp
     ·simp only[hop,if_false,Bool.false_eq_true]at tk
      obtain⟨l',nl',b',t',r1,r2,r3,r4,r5,hgo⟩:=wr;refine⟨l',nl',b',t',r1,r2,r3,r4,r5,fun G p env K Q c0 a n1 hi g0 g7 g8 hk=>?_⟩;refine bA fun L hL=>?_
      generalize t.dD=tw at *;simp[sG,g0,g7,g8,hi,hb,hkd,hh,h8,h11,tk,hwr,aQ,aR,aS,aT,aO,aP, -aN];rw[hL];refine hgo G p _ K Q c0 a n1 hi ?_ ?_ ?_ fun env' j j8=>hk env' (fun k hk'=>?_) j8
      ·simp[g0]
      ·simp[g7]
      ·simp[g8]
      ·rw[j k hk']
       rcases key8 env k hk' with rfl | rfl | rfl | rfl | rfl | rfl | rfl | rfl <;> simp
  ·refine⟨l,nl,b,t,hnl,he,htl,hll,PS.to.refl ht,fun G p env K Q c0 a n1 hi g0 g7 g8 hk=>?_⟩
   refine bA fun L hL=>?_
   simp[sG,g0,g7,g8,hi,hb];refine hk _ (fun k hk'=>?_) ?_
   ·rcases key8 env k hk' with rfl | rfl | rfl | rfl | rfl | rfl | rfl | rfl <;> simp
   ·simp[g8]
end
section
variable {X:Ctx}
def cat:List Expr->Bs
 | []=>[]
 | x::r=>x.text++cat r
theorem LZ:∀(a b:List Expr),cat (a++b)=cat a++cat b
 | [],_=>rfl
 | x::r,b=>by simp[cat,LZ r b]
theorem LY {l:List Expr}{k:Nat}(h:k<l.length):cat (l.take (k+1))=cat (l.take k)++l[k].text:=by
 rw[List.take_succ_eq_append_getElem h,LZ];simp[cat]
theorem Nb:∀ {l:List Expr},(∀x∈l,x.text.length<=1000000)->(cat l).length<=l.length*1000000
 | [],_=>by simp[cat]
 | x::r,h=>by
  have h1:=h x (List.mem_cons_self ..);have h2:=Nb (l:=r) fun y hy=>h y (List.mem_cons_of_mem _ hy)
  simp[cat,Nat.add_mul];omega
set_option maxHeartbeats 1000000 in
theorem zFN(hX:CX X){dp:Nat}(hpp:∀s:PS,s.good->s.depth=dp->bB X dF [] s):∀(s:PS) (fm:Bs) (a:Int),s.good->s.depth=dp->fm.length<=1000000->0<=a->a<=s.end_->bB X nL [.str fm,.int .i64 a] s:=by
 intro s fm a hg hd hfm ha0 ha1;have w1:∀(H:aA) (p:Nat),H[p]? =some s.box->cF X cN [.ptr p 0,.int .i64 7,.str []] H=some (.tup [],H.set p (s.want 7 []).box):=fun H p h=>iY hX h hg.ok 7 []
 have k1:=PS.dO hg 7 [];have hone:(s.want 7 []).bad=0->1<=(s.want 7 []).at_:=by
  unfold PS.want;split
  ·intro _;show 1<=s.at_+1;omega
  ·intro h
   by_cases hb:s.bad=0
   ·exact absurd h (PS.Fu hb)
   ·have:s.dD=s:=by unfold PS.dD PS.fail;simp[hb]
    rw[this]at h;exact absurd h hb
 obtain⟨l,nl,b,t,hnl,he,htx,hl,ht,hgo⟩:=ZI hX hpp _ (s.want 7 []) [] true true (by simp) k1.good (k1.dep.trans hd) (by simp) (by simp) (by simp) hone (Nat.le_refl _);have hlt0:=ht.good.ok.at_;have hlt1:=ht.good.ok.len;have w2:∀(H:aA) (p:Nat),H[p]? =some t.box->cF X cN [.ptr p 0,.int .i64 11,.str []] H=some (.tup [],H.set p (t.want 11 []).box):=fun H p h=>iY hX h ht.good.ok 11 []
 have k2:=(k1.trans ht).trans (PS.dO ht.good 11 []);have htake:List.take (l.length*10) (Expr.aC l)=Expr.aC l:=List.take_of_length_le (by rw[Expr.bC];exact Nat.le_refl _);have hcl:=Nb htx;have hcl2:(cat l).length<=1000000000000:=Nat.le_trans hcl (Nat.mul_le_mul_right 1000000 (by omega:l.length<=1000000));by_cases hq:b=false∨fm≠ []
 ·refine⟨eK 10 fm [] (if nl then .nil else .full) l a,t.want 11 [],cK hfm (by decide) (by omega) (by rw[← k1.e];exact he) ha0 ha1,k2,fun G p hp=>?_⟩
  refine MV hX ?_;have hi:=In.of hp;simp[Dt,hp,hi,w1,z0,aW,bG,Go.AM.D.aD,Go.AM.D.aF,Go.AM.D.one,Go.AM.D.under,bU];refine hgo G p _ _ _ _ a fm hi ?_ ?_ ?_ fun env' j j8=>?_
  ·simp
  ·simp
  ·simp
  have j0:=j 0 (by decide);have j1:=j 1 (by decide);have j6:=j 6 (by decide);have j7:=j 7 (by decide);simp at j0 j1 j6 j7;generalize t.want 11 []=sx at *
  cases nl with
  | true=>
   obtain rfl:=hnl rfl;rcases hq with rfl | h
   ·simp[aB,j0,j1,j6,j7,j8,hi,w2,bG,Go.AM.D.aD,Go.AM.D.aF,Go.AM.D.one,Go.AM.D.under,aW,bW,SL,Expr.aC]
   ·cases b <;> simp[aB,j0,j1,j6,j7,j8,h,hi,w2,bG,Go.AM.D.aD,Go.AM.D.aF,Go.AM.D.one,Go.AM.D.under,aW,bW,SL,Expr.aC]
  | false=>
   rcases hq with rfl | h
   ·simp[aB,j0,j1,j6,j7,j8,hi,w2,bG,Go.AM.D.aD,Go.AM.D.aF,Go.AM.D.one,Go.AM.D.under,aW,bW,cA,Expr.bC,htake,Expr.eY,Expr.dQ,Expr.dT]
   ·cases b <;> simp[aB,j0,j1,j6,j7,j8,h,hi,w2,bG,Go.AM.D.aD,Go.AM.D.aF,Go.AM.D.one,Go.AM.D.under,aW,bW,cA,Expr.bC,htake,Expr.eY,Expr.dQ,Expr.dT]
 ·obtain⟨rfl,rfl⟩:b=true∧fm=[]:=by
   refine⟨?_,?_⟩
   ·cases b with
    | true=>rfl
    | false=>exact absurd (Or.inl rfl) hq
   ·exact Classical.byContradiction fun h=>hq (Or.inr h)
  refine⟨eK 9 [] (cat l) .nil [] a,t.want 11 [],cK (by decide) hcl2 (by decide) (by simp) ha0 ha1,k2,fun G p hp=>?_⟩;refine MV hX ?_;have hi:=In.of hp;simp[Dt,hp,hi,w1,z0,aW,bG,Go.AM.D.aD,Go.AM.D.aF,Go.AM.D.one,Go.AM.D.under,bU];refine hgo G p _ _ _ _ a [] hi ?_ ?_ ?_ fun env' j j8=>?_
  ·simp
  ·simp
  ·simp
  have j0:=j 0 (by decide);have j1:=j 1 (by decide);have j2:=j 2 (by decide);have j6:=j 6 (by decide);have j7:=j 7 (by decide);simp at j0 j1 j2 j6 j7;generalize t.want 11 []=sx at *;have hld:∀k (h:k<l.length),(Expr.aC l).drop (k*10)=l[k].cells++Expr.rest l k:=fun k h=>Expr.dG h
  have hlA:(Expr.aC l).length=l.length*10:=Expr.bC l;simp[j0,j1,j2,j6,j7,j8,hi,w2];generalize hA:Expr.aC l=A at *;refine cH (fun(k:Nat) e H'=>H'=G.set p sx.box++[.box [.int .i64 0,.str [],.str [],.bool false,.nilsl,.int .i64 0,.nilsl,.nilsl,.nilsl,.int .i64 0],.row 10 A nl,pD 10 a [] (G.length+1) l.length]∧k<=l.length∧e.get 2=.int .i64 a∧e.get 6=.ptr G.length 0∧e.get 7=.ptr (G.length+2) 0∧e.get 11=.str (cat (l.take k))∧e.get 12=.int .i64 k) (fun k=>l.length-k) ?_ 0 (by simp[j2,j6,j7,cat]);rintro k e H' ⟨rfl,hk,g2,g6,g7,g11,g12⟩ L ih2;have w1':IntKind.i64.wrap ((k:Int)+1)=(k:Int)+1:=wI;by_cases h:k<l.length
  ·have h':(k:Int)<l.length:=by omega
   have hlen:(cat (l.take k)).length+l[k].text.length<=9223372036854775807:=by
    have:(cat (l.take (k+1))).length<=1000000000000:=Nat.le_trans (Nb fun x hx=>htx x (List.mem_of_mem_take hx)) (Nat.mul_le_mul_right 1000000 (by rw[List.length_take];omega:(l.take (k+1)).length<=1000000));rw[LY h,List.length_append]at this;exact Nat.le_trans this (by decide)
   have hldk:A.drop (k*10+2)=(l[k].cells++Expr.rest l k).drop 2:=by rw[← hld k h,List.drop_drop]
   obtain rfl:nl=false:=by
    cases nl with
    | false=>rfl
    | true=>rw[hnl rfl]at h;exact absurd h (by simp)
   simp[Vi,g2,g6,g7,g11,g12,hi,h,h',hldk,hlen,hlA,w1'];refine ih2 (k+1) _ _ (by omega) ?_;simp[g2,g6,g7,LY h];omega
  ·obtain rfl:k=l.length:=by omega
   rw[List.take_length]at g11;simp[Vi,aB,g2,g6,g7,g11,g12,hi,z0,bG,Go.AM.D.aD,Go.AM.D.aF,Go.AM.D.one,Go.AM.D.under,aW,bW,dH]
end
section
variable {X:Ctx}
set_option maxHeartbeats 2000000 in
theorem zF1(hX:CX X){dp:Nat}(hpp:∀s:PS,s.good->s.depth=dp->bB X dF [] s)(hqd:∀(s:PS) (fm:Bs) (a:Int),s.good->s.depth=dp->fm.length<=1000000->0<=a->a<=s.end_->bB X nL [.str fm,.int .i64 a] s)(hwd:∀(s:PS) (a:Int),s.good->s.depth=dp->0<=a->a<=s.end_->bB X o5 [.int .i64 a] s)(hob:∀(s:PS) (a:Int),s.good->s.depth=dp->0<=a->a<=s.end_->bB X o8 [.int .i64 a] s):∀s:PS,s.good->s.depth=dp->bB X I3 [] s:=by
 intro s hg hd;have hh:∀(H:aA) (p:Nat),H[p]? =some s.box->cF X fR [.ptr p 0] H=some (.int .i64 s.here,H):=fun H p h=>lJ hX h hg.ok
 have hk:∀(G:aA) (p:Nat),G[p]? =some s.box->cF X eI [.ptr p 0] G=some (.int .i64 s.kind,G):=fun G p h=>kV hX h hg.ok
 have hho:=PS.pN hg;have tx:∀k:Int,k≠0->∀(G:aA) (p:Nat),G[p]? =some s.box->cF X fL [.ptr p 0,.int .i64 k] G=some (.str (s.text k),G.set p (s.past k).box):=fun k hk0 G p h=>mV hX h hg.ok k hk0
 have tk:∀(u:PS),u.good->∀(t:Bs) (H:aA) (p:Nat),H[p]? =some u.box->cF X bE [.ptr p 0,.int .i64 4,.str t] H=some (.bool (u.is 4 t),H.set p (if u.is 4 t then u.next else u).box):=fun u hu t H p h=>eQ hX h hu.ok 4 t
 have wt:∀(u:PS),u.good->∀(t:Bs) (H:aA) (p:Nat),H[p]? =some u.box->cF X cN [.ptr p 0,.int .i64 4,.str t] H=some (.tup [],H.set p (u.want 4 t).box):=fun u hu t H p h=>iY hX h hu.ok 4 t
 have e1:aL s.end_ (eK 1 [] [] .nil [] s.here):=cK (by decide) (by decide) (by decide) (by simp) hho.1 hho.2;have hz:z0=e0.cells:=by rw[bP];rfl
 by_cases h2:s.kind=2
 ·have t2:=tx 2 (by decide)
  have htl:=PS.jU hg 2;refine⟨eK 3 [] (s.text 2) .full [eK 1 [] [] .nil [] s.here] s.here,s.past 2,cK (by decide) (by omega) (by simp) (sW e1) hho.1 hho.2,PS.jH hg (by decide),fun G p hp=>?_⟩;refine kA hX ?_;have hi:=In.of hp;generalize s.text 2=tt at *;generalize s.past 2=sx at *;generalize s.here=hr at *;simp[jE,aB,hp,hi,hh,hk,h2,t2,z0,aW,aH,bW,fH,dH,cA,aQ,aR,aS,aT,aO,aP, -aN]
 by_cases h3:s.kind=3
 ·have hl:=PS.K3 (s:=s) (by omega)
  have hl':(s.at_:Int)<s.l.length:=by omega
  have ho1:=hg.ok.at_;have ho2:=hg.ok.len;have hw1:IntKind.i64.wrap ((s.at_:Int)+1)=((s.at_+1:Nat):Int):=by rw[wrap_i64 (by omega) (by omega)];omega
  have hw2:IntKind.i64.wrap (s.at_:Int)=(s.at_:Int):=wI;have hnw:=(hg.toks _ (List.getElem_mem hl)).num;refine⟨.mk 8 [] [] (s.l[s.at_]).num .nil [] .nil [] .nil [] s.here,s.next,mJ.2 ⟨by simp[Expr.name],by simp[Expr.text],hnw,by simp[Expr.kids],by simp[Expr.kids],by simp[Expr.pats,bV],by simp[Expr.pats],by simp[Expr.defs],by simp[Expr.defs],hho.1,hho.2⟩,PS.cC hg hl,fun G p hp=>?_⟩;refine kA hX ?_;have hi:=In.of hp;have hdr:=Token.dG hl;generalize s.here=hr at *;have hdc:∀d:Dec,d.cells=[.bool d.neg,SL d.coefF (d.coef.map (D.int .u32)) d.coef.length,.int .i64 d.exp]:=fun d=>by rw[Dec.bF];rfl
  simp[jE,aB,hp,hi,hh,hk,h2,h3,hdc,Expr.cells,dH,Zo,T7,PS.next,z0,hw1,hw2,hl,hl',hdr,aW,aH,aQ,aR,aS,aT,aO,aP, -aN]
 by_cases h5:s.kind=5
 ·have t5:=tx 5 (by decide)
  refine⟨eK 16 (s.text 5) [] .nil [] s.here,s.past 5,cK (PS.jU hg 5) (by decide) (by decide) (by simp) hho.1 hho.2,PS.jH hg (by decide),fun G p hp=>?_⟩;refine kA hX ?_;have hi:=In.of hp;generalize s.text 5=tt at *;generalize s.past 5=sx at *;generalize s.here=hr at *;simp[jE,aB,hp,hi,hh,hk,h2,h3,h5,t5,z0,aW,aH,bW,dH,cA,fH]
 by_cases h6:s.kind=6
 ·have t6:=tx 6 (by decide)
  have htl:=PS.jU hg 6;have k1:=PS.jH hg (k:=6) (by decide);have hk6:∀(G:aA) (p:Nat),G[p]? =some (s.past 6).box->cF X eI [.ptr p 0] G=some (.int .i64 (s.past 6).kind,G):=fun G p h=>kV hX h k1.good.ok
  by_cases h67:(s.past 6).kind=7
  ·obtain⟨e2,s2,he2,ht2,hc2⟩:=hqd (s.past 6) (s.text 6) s.here k1.good (k1.dep.trans hd) htl hho.1 (by rw[k1.e];exact hho.2)
   refine⟨e2,s2,by rw[← k1.e];exact he2,k1.trans ht2,fun G p hp=>?_⟩;refine kA hX ?_;have hi:=In.of hp;generalize s.text 6=tt at *;generalize s.past 6=sx at *;generalize s.here=hr at *;simp[jE,aB,hp,hi,hh,hk,h2,h3,h5,h6,t6,hk6,h67,hc2,z0,aW,aH,bW,dH,cA,fH]
  ·refine⟨eK 17 (s.text 6) [] .nil [] s.here,s.past 6,cK htl (by decide) (by decide) (by simp) hho.1 hho.2,k1,fun G p hp=>?_⟩
   refine kA hX ?_;have hi:=In.of hp;generalize s.text 6=tt at *;generalize s.past 6=sx at *;generalize s.here=hr at *;simp[jE,aB,hp,hi,hh,hk,h2,h3,h5,h6,t6,hk6,h67,z0,aW,aH,bW,dH,cA,fH]
 by_cases h7:s.kind=7
 ·obtain⟨e2,s2,he2,ht2,hc2⟩:=hqd s [] s.here hg hd (by decide) hho.1 hho.2
  refine⟨e2,s2,he2,ht2,fun G p hp=>?_⟩;refine kA hX ?_;have hi:=In.of hp;generalize s.here=hr at *;simp[jE,aB,hp,hi,hh,hk,h2,h3,h5,h6,h7,hc2,z0,aW,aH,bW,dH,cA,fH]
 by_cases h1:s.kind=1
 ·obtain⟨e2,s2,he2,ht2,hc2⟩:=hwd s s.here hg hd hho.1 hho.2
  refine⟨e2,s2,he2,ht2,fun G p hp=>?_⟩;refine kA hX ?_;have hi:=In.of hp;generalize s.here=hr at *;simp[jE,aB,hp,hi,hh,hk,h2,h3,h5,h6,h7,h1,hc2,z0,aW,aH,bW,dH,cA,fH]
 have s1:=tk s hg [46];by_cases q1:s.is 4 [46]=true
 ·simp only[q1,if_true]at s1
  have k1:=PS.cC hg (PS.is_lt q1);have hk6:∀(G:aA) (p:Nat),G[p]? =some s.next.box->cF X eI [.ptr p 0] G=some (.int .i64 s.next.kind,G):=fun G p h=>kV hX h k1.good.ok
  have hh6:∀(H:aA) (p:Nat),H[p]? =some s.next.box->cF X fR [.ptr p 0] H=some (.int .i64 s.next.here,H):=fun H p h=>lJ hX h k1.good.ok
  have hho6:=PS.pN k1.good;by_cases h67:s.next.kind=7
  ·obtain⟨e2,s2,he2,ht2,hc2⟩:=hqd s.next [] s.next.here k1.good (k1.dep.trans hd) (by decide) hho6.1 hho6.2
   have he2':aL s.end_ e2:=by rw[← k1.e];exact he2
   refine⟨eK 4 [] [] .full [eK 1 [] [] .nil [] s.here,e2] s.here,s2,cK (by decide) (by decide) (by simp) (oV e1 he2') hho.1 hho.2,k1.trans ht2,fun G p hp=>?_⟩;refine kA hX ?_;have hi:=In.of hp;generalize s.next.here=hr2 at *;generalize s.next=sx at *;generalize s.here=hr at *;simp[jE,aB,hp,hi,hh,hk,dE hp,h2,h3,h5,h6,h7,h1,s1,hk6,hh6,h67,hc2,z0,z2,aW,aH,bW,dH,cA,fH,gQ,Expr.bI,gB,Go.AM.D.cS,Go.AM.D.cW,aQ,aR,aS,aT,aO,aP, -aN]
  ·refine⟨eK 1 [] [] .nil [] s.here,s.next,e1,k1,fun G p hp=>?_⟩
   refine kA hX ?_;have hi:=In.of hp;generalize s.next=sx at *;generalize s.here=hr at *;simp[jE,aB,hp,hi,hh,hk,dE hp,h2,h3,h5,h6,h7,h1,s1,hk6,h67,z0,z2,aW,aH,bW,dH,cA,fH,gQ,Expr.bI,gB,Go.AM.D.cS,Go.AM.D.cW]
 simp only[q1,if_false,Bool.false_eq_true]at s1;have s2:=tk s hg [46,46];by_cases q2:s.is 4 [46,46]=true
 ·simp only[q2,if_true]at s2
  have k1:=PS.cC hg (PS.is_lt q2);refine⟨eK 2 [] [] .nil [] s.here,s.next,cK (by decide) (by decide) (by decide) (by simp) hho.1 hho.2,k1,fun G p hp=>?_⟩;refine kA hX ?_;have hi:=In.of hp;generalize s.next=sx at *;generalize s.here=hr at *;simp[jE,aB,hp,hi,hh,hk,dE hp,h2,h3,h5,h6,h7,h1,s1,s2,z0,z2,aW,aH,bW,dH,cA,fH,gQ,Expr.bI,gB,Go.AM.D.cS,Go.AM.D.cW]
 simp only[q2,if_false,Bool.false_eq_true]at s2;have s3:=tk s hg [40];by_cases q3:s.is 4 [40]=true
 ·simp only[q3,if_true]at s3
  have k1:=PS.cC hg (PS.is_lt q3);obtain⟨e2,s2',he2,ht2,hc2⟩:=hpp s.next k1.good (k1.dep.trans hd);have he2':aL s.end_ e2:=by rw[← k1.e];exact he2
  have w2:=wt s2' ht2.good [41];refine⟨e2,s2'.want 4 [41],he2',(k1.trans ht2).trans (PS.dO ht2.good 4 [41]),fun G p hp=>?_⟩;refine kA hX ?_;have hi:=In.of hp;generalize s2'.want 4 [41]=sy at *;generalize s.next=sx at *;generalize s.here=hr at *;simp[jE,aB,hp,hi,hh,hk,dE hp,h2,h3,h5,h6,h7,h1,s1,s2,s3,hc2,w2,z0,z2,aW,aH,bW,dH,cA,fH,gQ,Expr.bI,gB,Go.AM.D.cS,Go.AM.D.cW]
 simp only[q3,if_false,Bool.false_eq_true]at s3;have s4:=tk s hg [91];by_cases q4:s.is 4 [91]=true
 ·simp only[q4,if_true]at s4
  have k1:=PS.cC hg (PS.is_lt q4);have s4':=tk s.next k1.good [93];by_cases q4':s.next.is 4 [93]=true
  ·simp only[q4',if_true]at s4'
   have k2:=PS.cC k1.good (PS.is_lt q4');refine⟨eK 12 [] [] .full [e0] s.here,s.next.next,cK (by decide) (by decide) (by simp) (sW (hU hg.e0)) hho.1 hho.2,k1.trans k2,fun G p hp=>?_⟩;refine kA hX ?_;have hi:=In.of hp;generalize s.next.next=sy at *;generalize s.next=sx at *;generalize s.here=hr at *;simp[jE,aB,hp,hi,hh,hk,dE hp,h2,h3,h5,h6,h7,h1,s1,s2,s3,s4,s4',bP,z0,z2,aW,aH,bW,dH,cA,fH,gQ,Expr.bI,gB,Go.AM.D.cS,Go.AM.D.cW]
  ·simp only[q4',if_false,Bool.false_eq_true]at s4'
   obtain⟨e2,s2',he2,ht2,hc2⟩:=hpp s.next k1.good (k1.dep.trans hd);have he2':aL s.end_ e2:=by rw[← k1.e];exact he2
   have w2:=wt s2' ht2.good [93];refine⟨eK 12 [] [] .full [e2] s.here,s2'.want 4 [93],cK (by decide) (by decide) (by simp) (sW he2') hho.1 hho.2,(k1.trans ht2).trans (PS.dO ht2.good 4 [93]),fun G p hp=>?_⟩;refine kA hX ?_;have hi:=In.of hp;generalize s2'.want 4 [93]=sy at *;generalize s.next=sx at *;generalize s.here=hr at *;simp[jE,aB,hp,hi,hh,hk,dE hp,h2,h3,h5,h6,h7,h1,s1,s2,s3,s4,s4',hc2,w2,z0,z2,aW,aH,bW,dH,cA,fH,gQ,Expr.bI,gB,Go.AM.D.cS,Go.AM.D.cW]
 simp only[q4,if_false,Bool.false_eq_true]at s4;have s5:=tk s hg [123];by_cases q5:s.is 4 [123]=true
 ·simp only[q5,if_true]at s5
  have k1:=PS.cC hg (PS.is_lt q5);obtain⟨e2,s2',he2,ht2,hc2⟩:=hob s.next s.here k1.good (k1.dep.trans hd) hho.1 (by rw[k1.e];exact hho.2);have he2':aL s.end_ e2:=by rw[← k1.e];exact he2
  refine⟨e2,s2',he2',k1.trans ht2,fun G p hp=>?_⟩;refine kA hX ?_;have hi:=In.of hp;generalize s.next=sx at *;generalize s.here=hr at *;simp[jE,aB,hp,hi,hh,hk,dE hp,h2,h3,h5,h6,h7,h1,s1,s2,s3,s4,s5,hc2,z0,z2,aW,aH,bW,dH,cA,fH,gQ,Expr.bI,gB,Go.AM.D.cS,Go.AM.D.cW]
 simp only[q5,if_false,Bool.false_eq_true]at s5;have hw:∀(G:aA) (p:Nat),G[p]? =some s.box->cF X iF [.ptr p 0] G=some (.tup [],G.set p s.dD.box):=fun G p h=>rF hX h hg.ok
 refine⟨e0,s.dD,hU hg.e0,PS.mT hg,fun G p hp=>?_⟩;refine kA hX ?_;have hi:=In.of hp;generalize s.dD=sx at *;generalize s.here=hr at *;simp[jE,aB,hp,hi,hh,hk,dE hp,h2,h3,h5,h6,h7,h1,s1,s2,s3,s4,s5,hw,bP,z0,z2,aW,aH,bW,dH,cA,fH,gQ,Expr.bI,gB,Go.AM.D.cS,Go.AM.D.cW]
end
section
variable {X:Ctx}
set_option maxHeartbeats 2000000 in
theorem zFR(hX:CX X){dp:Nat}(hpo:∀s:PS,s.good->s.depth=dp->bB X pH [] s)(hpt:∀s:PS,s.good->s.depth=dp->uB X s)(hpp:∀s:PS,s.good->s.depth=dp->bB X dF [] s):∀(s:PS) (k a:Int),s.good->s.depth=dp->k=21∨k=22->0<=a->a<=s.end_->bB X H9 [.int .i64 k,.int .i64 a] s:=by
 intro s k a hg hd hk ha0 ha1;have wt:∀(u:PS),u.good->∀(k:Int) (t:Bs) (H:aA) (p:Nat),H[p]? =some u.box->cF X cN [.ptr p 0,.int .i64 k,.str t] H=some (.tup [],H.set p (u.want k t).box):=fun u hu k t H p h=>iY hX h hu.ok k t
 obtain⟨e1,s1,he1,ht1,hc1⟩:=hpo s hg hd;have w1:=wt s1 ht1.good 1 [97,115];have k1:=ht1.trans (PS.dO ht1.good 1 [97,115]);generalize s1.want 1 [97,115]=x1 at *;obtain⟨q,s2,⟨hq2,hqw⟩,ht2,hc2⟩:=hpt x1 k1.good (k1.dep.trans hd);have hqw2:bV [q]<=4000000:=by rw[F3];have:=ht2.good.ok.at_;have:=ht2.good.ok.len;omega
 rw[k1.e]at hq2;have w2:=wt s2 ht2.good 4 [40];have k2:=(k1.trans ht2).trans (PS.dO ht2.good 4 [40]);generalize s2.want 4 [40]=x2 at *;obtain⟨e3,s3,he3,ht3,hc3⟩:=hpp x2 k2.good (k2.dep.trans hd);rw[k2.e]at he3;have w3:=wt s3 ht3.good 4 [59];have k3:=(k2.trans ht3).trans (PS.dO ht3.good 4 [59]);generalize s3.want 4 [59]=x3 at *;obtain⟨e4,s4,he4,ht4,hc4⟩:=hpp x3 k3.good (k3.dep.trans hd);rw[k3.e]at he4;have k4:=k3.trans ht4;have a1:=fun(G:aA) (p b:Nat) (bx c0:Chunk) (l:aA)=>jQ (G:=G) (p:=p) (b:=b) (bx:=bx) (c0:=c0) (l:=l) (A:=e1.cells) (n:=1) (nk:=false) e3 (by rw[Expr.aK]) (by simp) (by omega)
 have a2:=fun(G:aA) (p b:Nat) (bx c0:Chunk) (l:aA)=>jQ (G:=G) (p:=p) (b:=b) (bx:=bx) (c0:=c0) (l:=l) (A:=e1.cells++e3.cells) (n:=2) (nk:=false) e4 (by rw[List.length_append,Expr.aK,Expr.aK]) (by simp) (by omega)
 simp only[Nat.reduceMul,Nat.reduceAdd,List.append_assoc]at a1 a2;have hel:∀(e:Expr) (H:aA),elems H 10 (.fsl e.cells 1)=some (e.cells,1):=fun e H=>by simp[elems,Expr.aK]
 rcases hk with rfl | rfl
 ·have w5:=wt s4 ht4.good 4 [41]
  have k5:=k4.trans (PS.dO ht4.good 4 [41]);generalize s4.want 4 [41]=x4 at *;refine⟨eX 21 [] [] .full [e1,e3,e4] .full [q] .nil [] a,x4,N0 (by decide) (by decide) (by simp) (by intro x hx;simp at hx;rcases hx with rfl | rfl | rfl <;> first | assumption | exact hU hg.e0) hqw2 (by intro x hx;rw[List.mem_singleton.1 hx];exact hq2) (by decide) (by simp) ha0 ha1,k5,fun G p hp=>?_⟩;refine Nt hX ?_;have hi:=In.of hp;have tk3:List.take 30 (Expr.aC [e1,e3,e4])=Expr.aC [e1,e3,e4]:=List.take_of_length_le (by rw[Expr.bC];exact Nat.le_refl _);simp[S3,aB,hp,hi,hc1,w1,hc2,w2,hc3,w3,hc4,w5,tk3,hel,a1,a2,z0,z3,aW,bU,bG,Go.AM.D.aD,Go.AM.D.aF,Go.AM.D.one,Go.AM.D.under,N1, ← lX,zS,cA,T7,Expr.bI,Pat.qA,Expr.bC,Expr.eY,Expr.dQ,Expr.dT,aQ,aR,aS,aT,aO,aP, -aN]
 have t5:∀(H:aA) (p:Nat),H[p]? =some s4.box->cF X bE [.ptr p 0,.int .i64 4,.str [59]] H=some (.bool (s4.is 4 [59]),H.set p (if s4.is 4 [59]then s4.next else s4).box):=fun H p h=>eQ hX h ht4.good.ok 4 [59]
 by_cases hop:s4.is 4 [59]=true
 ·simp only[hop,if_true]at t5
  have k6:=k4.trans (PS.cC ht4.good (PS.is_lt hop));generalize s4.next=x4 at *;obtain⟨e5,s5,he5,ht5,hc5⟩:=hpp x4 k6.good (k6.dep.trans hd);rw[k6.e]at he5;have w6:=wt s5 ht5.good 4 [41];have k7:=(k6.trans ht5).trans (PS.dO ht5.good 4 [41]);generalize s5.want 4 [41]=x5 at *;have a3:=fun(G:aA) (p b:Nat) (bx c0:Chunk) (l:aA)=>jQ (G:=G) (p:=p) (b:=b) (bx:=bx) (c0:=c0) (l:=l) (A:=Expr.aC [e1,e3,e4]) (n:=3) (nk:=false) e5 (by rw[Expr.bC];rfl) (by simp) (by omega)
  have h4:Expr.aC [e1,e3,e4]++e5.cells=Expr.aC [e1,e3,e4,e5]:=by simp[Expr.aC]
  rw[h4]at a3;simp only[Nat.reduceMul,Nat.reduceAdd]at a3;refine⟨eX 22 [] [] .full [e1,e3,e4,e5] .full [q] .nil [] a,x5,N0 (by decide) (by decide) (by simp) (by intro x hx;simp at hx;rcases hx with rfl | rfl | rfl | rfl <;> first | assumption | exact hU hg.e0) hqw2 (by intro x hx;rw[List.mem_singleton.1 hx];exact hq2) (by decide) (by simp) ha0 ha1,k7,fun G p hp=>?_⟩;refine Nt hX ?_;have hi:=In.of hp;have tk4:List.take 40 (Expr.aC [e1,e3,e4,e5])=Expr.aC [e1,e3,e4,e5]:=List.take_of_length_le (by rw[Expr.bC];exact Nat.le_refl _);simp[S3,aB,hp,hi,hc1,w1,hc2,w2,hc3,w3,hc4,t5,hc5,w6,tk4,a3,hel,a1,a2,z0,z3,aW,bU,bG,Go.AM.D.aD,Go.AM.D.aF,Go.AM.D.one,Go.AM.D.under,N1, ← lX,zS,cA,T7,Expr.bI,Pat.qA,Expr.bC,Expr.eY,Expr.dQ,Expr.dT,aQ,aR,aS,aT,aO,aP, -aN]
 ·simp only[hop,if_false,Bool.false_eq_true]at t5
  have w5:=wt s4 ht4.good 4 [41];have k5:=k4.trans (PS.dO ht4.good 4 [41]);generalize s4.want 4 [41]=x4 at *;have a3:=fun(G:aA) (p b:Nat) (bx c0:Chunk) (l:aA)=>jQ (G:=G) (p:=p) (b:=b) (bx:=bx) (c0:=c0) (l:=l) (A:=Expr.aC [e1,e3,e4]) (n:=3) (nk:=false) e0 (by rw[Expr.bC];rfl) (by simp) (by omega)
  have h4:Expr.aC [e1,e3,e4]++e0.cells=Expr.aC [e1,e3,e4,e0]:=by simp[Expr.aC]
  rw[h4]at a3;simp only[Nat.reduceMul,Nat.reduceAdd]at a3;have hel0:=hel e0;rw[bP]at a3 hel0;refine⟨eX 22 [] [] .full [e1,e3,e4,e0] .full [q] .nil [] a,x4,N0 (by decide) (by decide) (by simp) (by intro x hx;simp at hx;rcases hx with rfl | rfl | rfl | rfl <;> first | assumption | exact hU hg.e0) hqw2 (by intro x hx;rw[List.mem_singleton.1 hx];exact hq2) (by decide) (by simp) ha0 ha1,k5,fun G p hp=>?_⟩;refine Nt hX ?_;have hi:=In.of hp;have tk4:List.take 40 (Expr.aC [e1,e3,e4,e0])=Expr.aC [e1,e3,e4,e0]:=List.take_of_length_le (by rw[Expr.bC];exact Nat.le_refl _);simp[S3,aB,hp,hi,hc1,w1,hc2,w2,hc3,w3,hc4,t5,w5,tk4,a3,hel0,hel,a1,a2,z0,z3,aW,bU,bG,Go.AM.D.aD,Go.AM.D.aF,Go.AM.D.one,Go.AM.D.under,N1, ← lX,zS,cA,T7,Expr.bI,Pat.qA,Expr.bC,Expr.eY,Expr.dQ,Expr.dT,aQ,aR,aS,aT,aO,aP, -aN]
end
section
variable {X:Ctx}
set_option maxHeartbeats 2000000 in
theorem zFY(hX:CX X){dp:Nat}(hpp:∀s:PS,s.good->s.depth=dp->bB X dF [] s):∀(n:Nat) (s:PS) (a:Int),s.l.length-s.at_<=n->s.good->s.depth=dp->0<=a->a<=s.end_->bB X yQ [.int .i64 a] s:=by
 intro n
 induction n using Nat.strongRecOn with
 | ind n ih=>
 intro s a hn hg hd ha0 ha1;have wt:∀(u:PS),u.good->∀(k:Int) (t:Bs) (H:aA) (p:Nat),H[p]? =some u.box->cF X cN [.ptr p 0,.int .i64 k,.str t] H=some (.tup [],H.set p (u.want k t).box):=fun u hu k t H p h=>iY hX h hu.ok k t
 obtain⟨e1,s1,he1,ht1,hc1⟩:=hpp s hg hd;have w1:=wt s1 ht1.good 1 [116,104,101,110];have k1:=ht1.trans (PS.dO ht1.good 1 [116,104,101,110]);generalize s1.want 1 [116,104,101,110]=x1 at *;obtain⟨e2,s2,he2,ht2,hc2⟩:=hpp x1 k1.good (k1.dep.trans hd);rw[k1.e]at he2;have k2:=k1.trans ht2;have hh:∀(H:aA) (p:Nat),H[p]? =some s2.box->cF X fR [.ptr p 0] H=some (.int .i64 s2.here,H):=fun H p h=>lJ hX h k2.good.ok
 have hho:=PS.pN k2.good;have tk:∀(t:Bs) (H:aA) (p:Nat),H[p]? =some s2.box->cF X bE [.ptr p 0,.int .i64 1,.str t] H=some (.bool (s2.is 1 t),H.set p (if s2.is 1 t then s2.next else s2).box):=fun t H p h=>eQ hX h k2.good.ok 1 t
 have a1:=fun(G:aA) (p b:Nat) (bx c0:Chunk) (l:aA)=>jQ (G:=G) (p:=p) (b:=b) (bx:=bx) (c0:=c0) (l:=l) (A:=[]) (n:=0) (nk:=true) e1 rfl (by simp) (by omega)
 have a2:=fun(G:aA) (p b:Nat) (bx c0:Chunk) (l:aA)=>jQ (G:=G) (p:=p) (b:=b) (bx:=bx) (c0:=c0) (l:=l) (A:=e1.cells) (n:=1) (nk:=false) e2 (by rw[Expr.aK]) (by simp) (by omega)
 simp only[Nat.reduceMul,Nat.reduceAdd,List.nil_append]at a1 a2;have hel:∀(e:Expr) (H:aA),elems H 10 (.fsl e.cells 1)=some (e.cells,1):=fun e H=>by simp[elems,Expr.aK]
 have t1:=tk [101,108,105,102];by_cases q1:s2.is 1 [101,108,105,102]=true
 ·simp only[q1,if_true]at t1
  have k3:=k2.trans (PS.cC k2.good (PS.is_lt q1));have hlt:s2.next.l.length-s2.next.at_<n:=by
   have h1:s2.next.l.length=s.l.length:=by rw[k3.l]
   have h2:s2.next.at_=s2.at_+1:=rfl;have:=PS.is_lt q1;have:s2.l.length=s.l.length:=by rw[k2.l]
   have:=k2.at_;omega
  generalize s2.next=x2 at *;obtain⟨e3,s3,he3,ht3,hc3⟩:=ih _ hlt x2 s2.here (Nat.le_refl _) k3.good (k3.dep.trans hd) hho.1 (by rw[k3.e, ← k2.e];exact hho.2);rw[k3.e]at he3;generalize s2.here=hr at *;have a3:=fun(G:aA) (p b:Nat) (bx c0:Chunk) (l:aA)=>jQ (G:=G) (p:=p) (b:=b) (bx:=bx) (c0:=c0) (l:=l) (A:=e1.cells++e2.cells) (n:=2) (nk:=false) e3 (by rw[List.length_append,Expr.aK,Expr.aK]) (by simp) (by omega)
  simp only[Nat.reduceMul,Nat.reduceAdd,List.append_assoc, ← lX]at a3;have tk3:List.take 30 (Expr.aC [e1,e2,e3])=Expr.aC [e1,e2,e3]:=List.take_of_length_le (by rw[Expr.bC];exact Nat.le_refl _);refine⟨eK 19 [] [] .full [e1,e2,e3] a,s3,cK (by decide) (by decide) (by simp) (by intro x hx;simp at hx;rcases hx with rfl | rfl | rfl <;> first | assumption | exact hU hg.e0) ha0 ha1,k3.trans ht3,fun G p hp=>?_⟩;refine Nw hX ?_;have hi:=In.of hp;simp[S7,aB,hp,hi,hc1,w1,hc2,hh,t1,hc3,hel,a1,a2,a3,z0,aW,bU,bG,Go.AM.D.aD,Go.AM.D.aF,Go.AM.D.one,Go.AM.D.under,bW, ← lX,cA,Expr.bI,tk3,Expr.bC,Expr.eY,Expr.dQ,Expr.dT,aQ,aR,aS,aT,aO,aP, -aN]
 simp only[q1,if_false,Bool.false_eq_true]at t1;have t2:=tk [101,108,115,101];by_cases q2:s2.is 1 [101,108,115,101]=true
 ·simp only[q2,if_true]at t2
  have k3:=k2.trans (PS.cC k2.good (PS.is_lt q2));generalize s2.next=x2 at *;obtain⟨e3,s3,he3,ht3,hc3⟩:=hpp x2 k3.good (k3.dep.trans hd);rw[k3.e]at he3;generalize s2.here=hr at *;have w3:=wt s3 ht3.good 1 [101,110,100];have k4:=(k3.trans ht3).trans (PS.dO ht3.good 1 [101,110,100]);generalize s3.want 1 [101,110,100]=x3 at *;have a3:=fun(G:aA) (p b:Nat) (bx c0:Chunk) (l:aA)=>jQ (G:=G) (p:=p) (b:=b) (bx:=bx) (c0:=c0) (l:=l) (A:=e1.cells++e2.cells) (n:=2) (nk:=false) e3 (by rw[List.length_append,Expr.aK,Expr.aK]) (by simp) (by omega)
  simp only[Nat.reduceMul,Nat.reduceAdd,List.append_assoc, ← lX]at a3;have tk3:List.take 30 (Expr.aC [e1,e2,e3])=Expr.aC [e1,e2,e3]:=List.take_of_length_le (by rw[Expr.bC];exact Nat.le_refl _);refine⟨eK 19 [] [] .full [e1,e2,e3] a,x3,cK (by decide) (by decide) (by simp) (by intro x hx;simp at hx;rcases hx with rfl | rfl | rfl <;> first | assumption | exact hU hg.e0) ha0 ha1,k4,fun G p hp=>?_⟩;refine Nw hX ?_;have hi:=In.of hp;simp[S7,aB,hp,hi,hc1,w1,hc2,hh,t1,t2,hc3,w3,hel,a1,a2,a3,z0,aW,bU,bG,Go.AM.D.aD,Go.AM.D.aF,Go.AM.D.one,Go.AM.D.under,bW, ← lX,cA,Expr.bI,tk3,Expr.bC,Expr.eY,Expr.dQ,Expr.dT,aQ,aR,aS,aT,aO,aP, -aN]
 ·simp only[q2,if_false,Bool.false_eq_true]at t2
  have w3:=wt s2 k2.good 1 [101,110,100];have k4:=k2.trans (PS.dO k2.good 1 [101,110,100]);generalize s2.want 1 [101,110,100]=x3 at *;generalize s2.here=hr at *;have a3:=fun(G:aA) (p b:Nat) (bx c0:Chunk) (l:aA)=>jQ (G:=G) (p:=p) (b:=b) (bx:=bx) (c0:=c0) (l:=l) (A:=e1.cells++e2.cells) (n:=2) (nk:=false) e0 (by rw[List.length_append,Expr.aK,Expr.aK]) (by simp) (by omega)
  simp only[Nat.reduceMul,Nat.reduceAdd,List.append_assoc, ← lX]at a3;have tk3:List.take 30 (Expr.aC [e1,e2,e0])=Expr.aC [e1,e2,e0]:=List.take_of_length_le (by rw[Expr.bC];exact Nat.le_refl _);have hel0:=hel e0;rw[bP]at a3 hel0;refine⟨eK 19 [] [] .full [e1,e2,e0] a,x3,cK (by decide) (by decide) (by simp) (by intro x hx;simp at hx;rcases hx with rfl | rfl | rfl <;> first | assumption | exact hU hg.e0) ha0 ha1,k4,fun G p hp=>?_⟩;refine Nw hX ?_;have hi:=In.of hp;simp[S7,aB,hp,hi,hc1,w1,hc2,hh,t1,t2,w3,hel0,hel,a1,a2,a3,z0,aW,bU,bG,Go.AM.D.aD,Go.AM.D.aF,Go.AM.D.one,Go.AM.D.under,bW, ← lX,cA,Expr.bI,tk3,Expr.bC,Expr.eY,Expr.dQ,Expr.dT,aQ,aR,aS,aT,aO,aP, -aN]
end
section
variable {X:Ctx}
theorem zM0(hX:CX X){dp:Nat}(hpp:∀s:PS,s.good->s.depth=dp->bB X dF [] s):∀(n:Nat) (t:PS) (l:List Expr) (nl:Bool),(nl=true->l=[])->t.good->t.depth=dp->(∀x∈l,aL t.end_ x)->l.length<=t.at_->t.l.length-t.at_<=n->∃l' nl' t',(nl'=true->l'=[])∧(∀x∈l',aL t.end_ x)∧l'.length<=1000001∧t.to t'∧∀(G:aA) (p:Nat) (env:Env) (K:List Fr) (Q:Ex->St->Prop) (c0:Chunk) (nm:Bs) (a:Int),In G p->env.get 0=.ptr p 0->env.get 6=.ptr (G.length+2) 0->(∀env':Env,(∀k,k<7->env'.get k=env.get k)->YX X G.length none (.exit 1) K ⟨env',G.set p t'.box++[c0,.row 10 (Expr.aC l') nl',pD 18 a nm (G.length+1) l'.length],[]⟩ Q)->YS X G.length none (.loop wZ) K ⟨env,G.set p t.box++[c0,.row 10 (Expr.aC l) nl,pD 18 a nm (G.length+1) l.length],[]⟩ Q:=by
 intro n
 induction n using Nat.strongRecOn with
 | ind n ih=>
  intro t l nl hnl ht hd he hll hn;have hlt0:=ht.ok.at_;have hlt1:=ht.ok.len;by_cases hb:t.bad=0
  ·have hfl:∀(H:aA) (p:Nat),H[p]? =some t.box->cF X kZ [.ptr p 0,.int .i64 3] H=some (.tup [],H.set p (t.fail 3).box):=fun H p h=>E7 hX h ht.ok 3
   obtain⟨t0,ht0,hq0⟩:∃t0:PS,t.to t0∧(t0=if l.length=8 then t.fail 3 else t):=⟨_,by split;exact PS.iI ht 3;exact PS.to.refl ht,rfl⟩;obtain⟨e2,t2,he2,ht2',hc2⟩:=hpp t0 ht0.good (ht0.dep.trans hd);rw[ht0.e]at he2;have ht2:=ht0.trans ht2';have tk:∀(H:aA) (p:Nat),H[p]? =some t2.box->cF X bE [.ptr p 0,.int .i64 4,.str [59]] H=some (.bool (t2.is 4 [59]),H.set p (if t2.is 4 [59]then t2.next else t2).box):=fun H p h=>eQ hX h ht2.good.ok 4 [59]
   have q2:=ht2.at_;have hlen:(l++[e2]).length=l.length+1:=by simp
   have hall:∀x∈l++[e2],aL t.end_ x:=by
    intro x hx;rcases List.mem_append.1 hx with h | h
    ·exact he x h
    ·rw[List.mem_singleton.1 h];exact he2
   have hB:=Expr.bC l;have hBe:Expr.aC (l++[e2])=Expr.aC l++e2.cells:=by simp[Expr.iU,Expr.aC]
   have hnl':nl=true->l.length=0:=fun h=>by rw[hnl h];rfl
   have hap:∀(G:aA) (p b:Nat) (bx c0:Chunk) (r:aA),_:=fun G p b bx c0 r=>jQ (G:=G) (p:=p) (b:=b) (bx:=bx) (c0:=c0) (l:=r) e2 hB hnl' (by omega)
   have hel:∀H:aA,elems H 10 (.fsl e2.cells 1)=some (e2.cells,1):=fun H=>by simp[elems,Expr.aK]
   have key7:∀k,k<7->k=0∨k=1∨k=2∨k=3∨k=4∨k=5∨k=6:=fun k h=>by omega
   by_cases hop:t2.is 4 [59]=true
   ·simp only[hop,if_true]at tk
    have k1:=PS.cC ht2.good (PS.is_lt hop);have hlt:t2.next.l.length-t2.next.at_<n:=by
     have q1:t2.next.l.length=t.l.length:=by show t2.l.length=_;rw[ht2.l]
     have q3:t2.next.at_=t2.at_+1:=rfl;have:=PS.is_lt hop;have:t2.l.length=t.l.length:=by rw[ht2.l]
     omega
    obtain⟨l',nl',t',hnl',he',hl',ht',hgo⟩:=ih _ hlt t2.next (l++[e2]) false (by simp) k1.good (by rw[k1.dep,ht2.dep,hd]) (by rw[k1.e,ht2.e];exact hall) (by rw[hlen];show _<=t2.at_+1;omega) (Nat.le_refl _);refine⟨l',nl',t',hnl',by rw[← ht2.e, ← k1.e];exact he',hl',(ht2.trans k1).trans ht',fun G p env K Q c0 nm a hi g0 g6 hk=>?_⟩;refine bA fun L hL=>?_
    rw[hlen,hBe]at hgo;have fin:∀env':Env,(∀k,k<7->env'.get k=env.get k)->YS X G.length none (.loop L) K ⟨env',G.set p t2.next.box++[c0,.row 10 (Expr.aC l++e2.cells) false,pD 18 a nm (G.length+1) (l.length+1)],[]⟩ Q:=fun env' j=>by
     rw[hL];exact hgo G p _ K Q c0 nm a hi (by rw[j 0 (by decide),g0]) (by rw[j 6 (by decide),g6]) fun env'' j'=>hk env'' fun k hk'=>by rw[j' k hk',j k hk']
    generalize Expr.aC l=A at *;by_cases h8:l.length=8
    ·have h8':(l.length:Int)=8:=by omega
     rw[if_pos h8]at hq0;subst hq0;generalize t.fail 3=t0 at *;simp only[h8,Nat.reduceAdd,Nat.reduceMul]at hap;simp[wZ,g0,g6,hi,hb,h8,h8',hfl,hc2,tk,z0,hel,hap,bG,Go.AM.D.aD,Go.AM.D.aF,Go.AM.D.one,Go.AM.D.under,Expr.bI,aQ,aR,aS,aT,aO,aP, -aN];simp only[h8,Nat.reduceAdd,Nat.reduceMul]at fin;refine fin _ fun k hk'=>?_
     rcases key7 k hk' with rfl | rfl | rfl | rfl | rfl | rfl | rfl <;> simp
    ·have h8':¬(l.length:Int)=8:=by omega
     rw[if_neg h8]at hq0;subst hq0;simp[wZ,g0,g6,hi,hb,h8,h8',hc2,tk,z0,hel,hap,bG,Go.AM.D.aD,Go.AM.D.aF,Go.AM.D.one,Go.AM.D.under,Expr.bI,aQ,aR,aS,aT,aO,aP, -aN];refine fin _ fun k hk'=>?_
     rcases key7 k hk' with rfl | rfl | rfl | rfl | rfl | rfl | rfl <;> simp
   ·simp only[hop,if_false,Bool.false_eq_true]at tk
    refine⟨l++[e2],false,t2,by simp,hall,by rw[hlen];omega,ht2,fun G p env K Q c0 nm a hi g0 g6 hk=>?_⟩;refine bA fun L hL=>?_
    rw[hlen,hBe]at hk;generalize Expr.aC l=A at *;by_cases h8:l.length=8
    ·have h8':(l.length:Int)=8:=by omega
     rw[if_pos h8]at hq0;subst hq0;generalize t.fail 3=t0 at *;simp only[h8,Nat.reduceAdd,Nat.reduceMul]at hap;simp[wZ,g0,g6,hi,hb,h8,h8',hfl,hc2,tk,z0,hel,hap,bG,Go.AM.D.aD,Go.AM.D.aF,Go.AM.D.one,Go.AM.D.under,Expr.bI,aQ,aR,aS,aT,aO,aP, -aN];simp only[h8,Nat.reduceAdd,Nat.reduceMul]at hk;refine hk _ fun k hk'=>?_
     rcases key7 k hk' with rfl | rfl | rfl | rfl | rfl | rfl | rfl <;> simp
    ·have h8':¬(l.length:Int)=8:=by omega
     rw[if_neg h8]at hq0;subst hq0;simp[wZ,g0,g6,hi,hb,h8,h8',hc2,tk,z0,hel,hap,bG,Go.AM.D.aD,Go.AM.D.aF,Go.AM.D.one,Go.AM.D.under,Expr.bI,aQ,aR,aS,aT,aO,aP, -aN];refine hk _ fun k hk'=>?_
     rcases key7 k hk' with rfl | rfl | rfl | rfl | rfl | rfl | rfl <;> simp
  ·refine⟨l,nl,t,hnl,he,by omega,PS.to.refl ht,fun G p env K Q c0 nm a hi g0 g6 hk=>?_⟩
   refine bA fun L hL=>?_
   simp[wZ,g0,g6,hi,hb];refine hk _ fun k hk'=>?_
   have:k=0∨k=1∨k=2∨k=3∨k=4∨k=5∨k=6:=by omega
   rcases this with rfl | rfl | rfl | rfl | rfl | rfl | rfl <;> simp
end
section
variable {X:Ctx}
theorem Expr.BJ(e:Expr):List.take 10 e.cells=e.cells:=List.take_of_length_le (by simp[Expr.aK])
set_option maxHeartbeats 2000000 in
theorem zFI(hX:CX X){dp:Nat}(hpo:∀s:PS,s.good->s.depth=dp->bB X pH [] s)(hpp:∀s:PS,s.good->s.depth=dp->bB X dF [] s)(hbr:∀(s:PS) (a:Int),s.good->s.depth=dp->0<=a->a<=s.end_->bB X yQ [.int .i64 a] s)(hlo:∀(s:PS) (k a:Int),s.good->s.depth=dp->k=21∨k=22->0<=a->a<=s.end_->bB X H9 [.int .i64 k,.int .i64 a] s):∀(s:PS) (a:Int),s.good->s.depth=dp->0<=a->a<=s.end_->bB X o5 [.int .i64 a] s:=by
 intro s a hg hd ha0 ha1;have tk:∀(u:PS),u.good->∀(k:Int) (t:Bs) (H:aA) (p:Nat),H[p]? =some u.box->cF X bE [.ptr p 0,.int .i64 k,.str t] H=some (.bool (u.is k t),H.set p (if u.is k t then u.next else u).box):=fun u hu k t H p h=>eQ hX h hu.ok k t
 have hz:z0=e0.cells:=by rw[bP];rfl
 have s1:=tk s hg 1 [105,102];by_cases q1:s.is 1 [105,102]=true
 ·simp only[q1,if_true]at s1
  have k1:=PS.cC hg (PS.is_lt q1);obtain⟨e2,t2,he2,ht2,hc2⟩:=hbr s.next a k1.good (k1.dep.trans hd) ha0 (by rw[k1.e];exact ha1);rw[k1.e]at he2;refine⟨e2,t2,he2,k1.trans ht2,fun G p hp=>?_⟩;refine tQ hX ?_;have hi:=In.of hp;generalize s.next=sx at *;simp[qL,aB,hp,hi,dE hp,s1,hc2,z0,z2,aW,bU,aH,bG,Go.AM.D.aD,Go.AM.D.aF,Go.AM.D.one,Go.AM.D.under,bW,dH,cA,Expr.bI,gB,Expr.bC,Expr.eY,Expr.dQ,Expr.dT]
 simp only[q1,if_false,Bool.false_eq_true]at s1;have s2:=tk s hg 1 [116,114,121];by_cases q2:s.is 1 [116,114,121]=true
 ·simp only[q2,if_true]at s2
  have k1:=PS.cC hg (PS.is_lt q2);obtain⟨e1,t1,he1,ht1,hc1⟩:=hpo s.next k1.good (k1.dep.trans hd);rw[k1.e]at he1;have k2:=k1.trans ht1;have c1:=tk t1 k2.good 1 [99,97,116,99,104];by_cases qc:t1.is 1 [99,97,116,99,104]=true
  ·simp only[qc,if_true]at c1
   have k3:=k2.trans (PS.cC k2.good (PS.is_lt qc));generalize t1.next=x1 at *;obtain⟨e2,t2,he2,ht2,hc2⟩:=hpo x1 k3.good (k3.dep.trans hd);rw[k3.e]at he2;refine⟨eK 20 [] [] .full [e1,e2] a,t2,cK (by decide) (by decide) (by simp) (oV he1 he2) ha0 ha1,k3.trans ht2,fun G p hp=>?_⟩;refine tQ hX ?_;have hi:=In.of hp;generalize s.next=sx at *;simp[qL,aB,hp,hi,dE hp,s1,s2,hc1,c1,hc2,gQ,D1,Expr.BJ,jB,Expr.fz,Expr.aK,Go.AM.D.cS,Go.AM.D.cW,z0,z2,aW,bU,aH,bG,Go.AM.D.aD,Go.AM.D.aF,Go.AM.D.one,Go.AM.D.under,bW,dH,cA,Expr.bI,gB,Expr.bC,Expr.eY,Expr.dQ,Expr.dT,aQ,aR,aS,aT,aO,aP, -aN]
  ·simp only[qc,if_false,Bool.false_eq_true]at c1
   refine⟨eK 20 [] [] .full [e1,e0] a,t1,cK (by decide) (by decide) (by simp) (oV he1 (hU hg.e0)) ha0 ha1,k2,fun G p hp=>?_⟩;refine tQ hX ?_;have hi:=In.of hp;generalize s.next=sx at *;simp[qL,aB,hp,hi,dE hp,s1,s2,hc1,c1,gQ,bP,D1,Expr.BJ,jB,Expr.fz,Expr.aK,Go.AM.D.cS,Go.AM.D.cW,z0,z2,aW,bU,aH,bG,Go.AM.D.aD,Go.AM.D.aF,Go.AM.D.one,Go.AM.D.under,bW,dH,cA,Expr.bI,gB,Expr.bC,Expr.eY,Expr.dQ,Expr.dT]
 simp only[q2,if_false,Bool.false_eq_true]at s2;have s3:=tk s hg 1 [114,101,100,117,99,101];by_cases q3:s.is 1 [114,101,100,117,99,101]=true
 ·simp only[q3,if_true]at s3
  have k1:=PS.cC hg (PS.is_lt q3);obtain⟨e2,t2,he2,ht2,hc2⟩:=hlo s.next 21 a k1.good (k1.dep.trans hd) (Or.inl rfl) ha0 (by rw[k1.e];exact ha1);rw[k1.e]at he2;refine⟨e2,t2,he2,k1.trans ht2,fun G p hp=>?_⟩;refine tQ hX ?_;have hi:=In.of hp;generalize s.next=sx at *;simp[qL,aB,hp,hi,dE hp,s1,s2,s3,hc2,z0,z2,aW,bU,aH,bG,Go.AM.D.aD,Go.AM.D.aF,Go.AM.D.one,Go.AM.D.under,bW,dH,cA,Expr.bI,gB,Expr.bC,Expr.eY,Expr.dQ,Expr.dT]
 simp only[q3,if_false,Bool.false_eq_true]at s3;have s4:=tk s hg 1 [102,111,114,101,97,99,104];by_cases q4:s.is 1 [102,111,114,101,97,99,104]=true
 ·simp only[q4,if_true]at s4
  have k1:=PS.cC hg (PS.is_lt q4);obtain⟨e2,t2,he2,ht2,hc2⟩:=hlo s.next 22 a k1.good (k1.dep.trans hd) (Or.inr rfl) ha0 (by rw[k1.e];exact ha1);rw[k1.e]at he2;refine⟨e2,t2,he2,k1.trans ht2,fun G p hp=>?_⟩;refine tQ hX ?_;have hi:=In.of hp;generalize s.next=sx at *;simp[qL,aB,hp,hi,dE hp,s1,s2,s3,s4,hc2,z0,z2,aW,bU,aH,bG,Go.AM.D.aD,Go.AM.D.aF,Go.AM.D.one,Go.AM.D.under,bW,dH,cA,Expr.bI,gB,Expr.bC,Expr.eY,Expr.dQ,Expr.dT]
 simp only[q4,if_false,Bool.false_eq_true]at s4;have s5:=tk s hg 1 [98,114,101,97,107];by_cases q5:s.is 1 [98,114,101,97,107]=true
 ·simp only[q5,if_true]at s5
  have k1:=PS.cC hg (PS.is_lt q5);have htx:∀(G:aA) (p:Nat),G[p]? =some s.next.box->cF X fL [.ptr p 0,.int .i64 5] G=some (.str (s.next.text 5),G.set p (s.next.past 5).box):=fun G p h=>mV hX h k1.good.ok 5 (by decide)
  have htl:=PS.jU k1.good 5;refine⟨eK 24 (s.next.text 5) [] .nil [] a,s.next.past 5,cK htl (by decide) (by decide) (by simp) ha0 ha1,k1.trans (PS.jH k1.good (by decide)),fun G p hp=>?_⟩;refine tQ hX ?_;have hi:=In.of hp;generalize s.next.past 5=sy at *;generalize s.next.text 5=tt at *;generalize s.next=sx at *;simp[qL,aB,hp,hi,dE hp,s1,s2,s3,s4,s5,htx,z0,z2,aW,bU,aH,bG,Go.AM.D.aD,Go.AM.D.aF,Go.AM.D.one,Go.AM.D.under,bW,dH,cA,Expr.bI,gB,Expr.bC,Expr.eY,Expr.dQ,Expr.dT]
 simp only[q5,if_false,Bool.false_eq_true]at s5;have s1':=s1;have s2':=s2;have s3':=s3;have s4':=s4;have s5':=s5;clear s1 s2 s3 s4 s5;obtain⟨nm,s1,hnm,ht1,hc1⟩:=Hg hX hg;have o1:=tk s1 ht1.good 4 [40];by_cases hop:s1.is 4 [40]=true
 ·simp only[hop,if_true]at o1
  have k1:=ht1.trans (PS.cC ht1.good (PS.is_lt hop));generalize s1.next=x1 at *;obtain⟨l,nl,t,hnl,he,hl,ht,hgo⟩:=zM0 hX hpp _ x1 [] true (by simp) k1.good (k1.dep.trans hd) (by simp) (by simp) (Nat.le_refl _);rw[k1.e]at he;have k2:=k1.trans ht;have hw:∀(H:aA) (p:Nat),H[p]? =some t.box->cF X cN [.ptr p 0,.int .i64 4,.str [41]] H=some (.tup [],H.set p (t.want 4 [41]).box):=fun H p h=>iY hX h k2.good.ok 4 [41]
  have k3:=k2.trans (PS.dO k2.good 4 [41]);generalize t.want 4 [41]=x2 at *;refine⟨eK 18 nm [] (if nl then .nil else .full) l a,x2,cK hnm (by decide) (by omega) he ha0 ha1,k3,fun G p hp=>?_⟩;refine tQ hX ?_;have hi:=In.of hp;simp[qL,hp,hi,dE hp,s1',s2',s3',s4',s5',hc1,o1,z0,aW,bU,bG,Go.AM.D.aD,Go.AM.D.aF,Go.AM.D.one,Go.AM.D.under];refine hgo G p _ _ _ _ nm a hi ?_ ?_ fun env' j=>?_
  ·simp
  ·simp
  have j0:=j 0 (by decide);have j4:=j 4 (by decide);have j6:=j 6 (by decide);simp at j0 j4 j6;have htake:List.take (l.length*10) (Expr.aC l)=Expr.aC l:=List.take_of_length_le (by rw[Expr.bC];exact Nat.le_refl _)
  cases nl with
  | true=>
   obtain rfl:=hnl rfl;simp[aB,j0,j4,j6,hi,hw,aW,bW,SL,Expr.aC,bG,Go.AM.D.aD,Go.AM.D.aF,Go.AM.D.one,Go.AM.D.under]
  | false=>
   simp[aB,j0,j4,j6,hi,hw,aW,bW,cA,htake,bG,Go.AM.D.aD,Go.AM.D.aF,Go.AM.D.one,Go.AM.D.under,Expr.bC,Expr.eY,Expr.dQ,Expr.dT]
 ·simp only[hop,if_false,Bool.false_eq_true]at o1
  refine⟨eK 18 nm [] .nil [] a,s1,cK hnm (by decide) (by decide) (by simp) ha0 ha1,ht1,fun G p hp=>?_⟩;refine tQ hX ?_;have hi:=In.of hp;simp[qL,aB,hp,hi,dE hp,s1',s2',s3',s4',s5',hc1,o1,z0,aW,bU,bG,Go.AM.D.aD,Go.AM.D.aF,Go.AM.D.one,Go.AM.D.under,bW,SL,Expr.aC]
end
section
variable {X:Ctx}
structure Four(X:Ctx)(d:Nat):Prop where
 pipe:∀s:PS,s.good->s.depth=d->bB X dF [] s
 unary:∀s:PS,s.good->s.depth=d->bB X rJ [] s
 post:∀s:PS,s.good->s.depth=d->bB X pH [] s
 pat:∀s:PS,s.good->s.depth=d->uB X s
theorem Four.next(hX:CX X){d:Nat}(h:Four X d):(∀s:PS,s.good->s.depth=d->bB X yM [] s)∧(∀(s:PS) (e:Expr),s.good->s.depth=d->aL s.end_ e->bB X I2 [.agg e.cells] s)∧(∀s:PS,s.good->s.depth=d->bB X I3 [] s)∧(∀(s:PS) (e:Expr),s.good->s.depth=d->aL s.end_ e->Zl X s e)∧(∀s:PS,s.good->s.depth=d->Fl X s):=by
 have hq:=zFN hX h.pipe;have hq0:∀(s:PS) (a:Int),s.good->s.depth=d->0<=a->a<=s.end_->bB X nL [.str [],.int .i64 a] s:=fun s a h1 h2 h3 h4=>hq s [] a h1 h2 (by decide) h3 h4
 have hbk:=zFZ hX h.pipe;have hdt:=zFV hX hbk hq0;have hsf:=zFK hX hbk hdt;have halt:=zF4 hX (zF2 hX (zFP hX (zF3 hX (zFX hX (zFJ hX (zFO hX h.unary))))));have hkey:∀s:PS,s.good->s.depth=d->Zr X s:=zFS hX h.pipe hq0;have hob:=zFQ hX (zFU hX hkey halt);have hlo:=zFR hX h.post h.pat h.pipe;have hbr:∀(s:PS) (a:Int),s.good->s.depth=d->0<=a->a<=s.end_->bB X yQ [.int .i64 a] s:=fun s a=>zFY hX h.pipe _ s a (Nat.le_refl _)
 have hwd:=zFI hX h.post h.pipe hbr hlo;have hbs:=zF1 hX h.pipe hq hwd hob;exact⟨zFL hX (zFW hX h.pipe) (zFM hX h.pipe) h.pipe halt,zF0 hX h.pat h.pipe,hbs,hsf,zFT hX hkey h.pat⟩
theorem four(hX:CX X):∀(k d:Nat),d+k=200->Four X d:=by
 intro k
 induction k with
 | zero=>
  intro d hd;have hn:¬d<200:=by omega
  exact⟨IM hX (by omega) fun h=>absurd h hn,IK hX (by omega) (fun h=>absurd h hn) (fun h=>absurd h hn) (fun h=>absurd h hn),IL hX (by omega) (fun h=>absurd h hn) (fun h=>absurd h hn),IP hX (by omega) (fun h=>absurd h hn) (fun h=>absurd h hn)⟩
 | succ k ih=>
  intro d hd;have hf:=ih (d+1) (by omega);obtain⟨h1,h2,h3,h4,h5⟩:=hf.next hX;exact⟨IM hX (by omega) fun _=>h1,IK hX (by omega) (fun _=>hf.unary) (fun _=>hf.post) (fun _=>h2),IL hX (by omega) (fun _=>h3) (fun _=>h4),IP hX (by omega) (fun _=>hf.pat) (fun _=>h5)⟩
theorem zAi(hX:CX X){s:PS}(hg:s.good)(hd:s.depth=0):bB X dF [] s:=(four hX 200 0 rfl).pipe s hg hd
end
section
variable {X:Ctx}
theorem zW {b id n m:Nat}{H:aA}{A B:List D}{nk:Bool}(h:H[id]? =some (.row 10 A nk))(hA:A.length=n*10)(hB:B.length=m*10)(hn:nk=true->n=0)(hl:n+m<=100000000)(hu:∀k,D.aD k B=true)(ho:D.aF B=true):cR b H 10 160 (.osl id (n*10) 0 n) B m=some (.osl id ((n+m)*10) 0 (n+m),H.set id (.row 10 (A++B) (nk && decide (m=0)))):=by
 rcases Nat.eq_zero_or_pos m with rfl | hm
 ·have:B=[]:=List.eq_nil_of_length_eq_zero (by omega)
  subst this;simp[cR,h,hA,aH hu ho,aX,D9 h];exact⟨hn,by omega,by omega⟩
 ·have hm0:m≠0:=by omega
  have:=kB (b:=b) (es:=10) (bytes:=160) (m:=m) h hA rfl hn (by unfold aX;omega) (by unfold aX;omega) (aH hu ho) hm0;rw[this];simp[hm0,Nat.add_mul]
mutual
def eH:Nat->Pat->List Expr
 | k,.mk _ _ _ ks _ ps=>ks++(if k=0 then []else dK (k-1) ps)
def dK:Nat->List Pat->List Expr
 | _,[]=>[]
 | k,p::r=>eH k p++dK k r
end
theorem GO(k:Nat):∀a b:List Pat,dK k (a++b)=dK k a++dK k b
 | [],b=>by simp[dK]
 | x::r,b=>by simp[dK,GO k r b]
mutual
theorem Hp:∀(k:Nat) (p:Pat),(eH k p).length<=pw p
 | k,.mk _ _ _ ks _ ps=>by
  have:=F5 (k-1) ps;simp only[eH,pw,List.length_append];split
  ·simp;omega
  ·omega
theorem F5:∀(k:Nat) (l:List Pat),(dK k l).length<=bV l
 | _,[]=>by simp[dK]
 | k,p::r=>by have:=Hp k p;have:=F5 k r;simp[dK,bV];omega
end
theorem GN(k:Nat)(p:Pat):eH k p=p.keys++(if k=0 then []else dK (k-1) p.pats):=by cases p;simp[eH,Pat.keys,Pat.pats]
theorem Y6(p:Pat):pw p=1+p.keys.length+bV p.pats:=by cases p;simp[pw,Pat.keys,Pat.pats]
theorem yA {l:List Pat}{p:Pat}(h:p∈l):pw p<=bV l:=by
 induction l with
 | nil=>simp at h
 | cons x r ih=>rcases List.mem_cons.1 h with rfl | h <;> simp[bV] <;> first | omega | (have:=ih h;omega)
theorem BH {l:List Pat}{i k:Nat}(h:i<l.length):dK k (l.take (i+1))=dK k (l.take i)++eH k l[i]:=by
 rw[List.take_succ_eq_append_getElem h,GO];simp[dK]
theorem Gn {l:List Pat}(i:Nat):bV (l.take i)<=bV l:=by
 have:=uZ (l.take i) (l.drop i);rw[List.take_append_drop]at this;omega
theorem Zn {H:aA}{b id:Nat}{l:List Expr}(hb:b<=id)(h:H[id]? =some (.row 10 (Expr.aC l) (decide (l=[])))):fz H b 64 (.osl id (l.length*10) 0 l.length)=some (SL .nil (Expr.aC l) l.length):=by
 have htake:List.take (l.length*10) (Expr.aC l)=Expr.aC l:=List.take_of_length_le (by rw[Expr.bC];exact Nat.le_refl _);rw[aB,if_neg (by omega),h];by_cases hl:l=[]
 ·subst hl;simp[SL]
 ·have hne:l.length≠0:=fun q=>hl (List.eq_nil_of_length_eq_zero q)
  obtain⟨n,hn⟩:∃n,l.length=n+1:=⟨l.length-1,by omega⟩;simp[hl,Expr.bC,htake,Expr.eY,Expr.dQ,Expr.dT];rw[hn];rfl
theorem YD(hX:CX X):∀(k:Nat) (p:Pat),pw p<=4000000->k<=1000->∀H:aA,cF X H6 [.agg p.cells,.int .i64 k] H=some (SL .nil (Expr.aC (eH k p)) (eH k p).length,H):=by
 intro k
 induction k with
 | zero=>
  intro p hp _ H;refine MS hX ?_;rw[Y6]at hp;have hpk:eH 0 p=p.keys:=by rw[GN];simp
  rw[hpk];have a0:=fun(b:Nat) (c0:Chunk)=>zW (b:=b) (id:=H.length+1) (n:=0) (m:=p.keys.length) (H:=H++[c0,.row 10 [] true]) (A:=[]) (B:=Expr.aC p.keys) (nk:=true) (by simp) rfl (Expr.bC _) (by simp) (by omega) (fun n=>Expr.dQ _ n) (Expr.dT _)
  simp only[Nat.zero_mul,Nat.zero_add,List.nil_append,Bool.true_and]at a0;have hel:∀H:aA,elems H 10 (SL p.keysF (Expr.aC p.keys) p.keys.length)=some (Expr.aC p.keys,p.keys.length):=fun H=>wO (Expr.bC _)
  have hf:=Zn (H:=H++[.row 10 [] true,.row 10 (Expr.aC p.keys) (decide (p.keys=[]))]) (b:=H.length) (id:=H.length+1) (l:=p.keys) (by omega) (by simp);simp[Dj,a0,hel];refine bA fun L hL=>?_
  by_cases hq:0<p.pats.length
  ·have hq':(0:Int)<p.pats.length:=by omega
   simp[R2,hf,hq,hq']
  ·have hq':¬(0:Int)<p.pats.length:=by omega
   simp[R2,hf,hq,hq']
 | succ k ih=>
  intro p hp hk H;refine MS hX ?_;rw[Y6]at hp;have hpk:eH (k+1) p=p.keys++dK k p.pats:=by rw[GN];simp
  rw[hpk];have a0:=fun(b:Nat) (c0:Chunk)=>zW (b:=b) (id:=H.length+1) (n:=0) (m:=p.keys.length) (H:=H++[c0,.row 10 [] true]) (A:=[]) (B:=Expr.aC p.keys) (nk:=true) (by simp) rfl (Expr.bC _) (by simp) (by omega) (fun n=>Expr.dQ _ n) (Expr.dT _)
  simp only[Nat.zero_mul,Nat.zero_add,List.nil_append,Bool.true_and]at a0;have hel:∀H:aA,elems H 10 (SL p.keysF (Expr.aC p.keys) p.keys.length)=some (Expr.aC p.keys,p.keys.length):=fun H=>wO (Expr.bC _)
  simp[Dj,a0,hel];refine cH (fun(i:Nat) e H'=>H'=H++[.row 10 [] true,.row 10 (Expr.aC (p.keys++dK k (p.pats.take i))) (decide (p.keys++dK k (p.pats.take i)=[]))]∧i<=p.pats.length∧e.get 1=.int .i64 ((k+1:Nat):Int)∧e.get 2=.fptr p.cells∧e.get 5=.osl (H.length+1) ((p.keys++dK k (p.pats.take i)).length*10) 0 (p.keys++dK k (p.pats.take i)).length∧e.get 6=.int .i64 i) (fun i=>p.pats.length-i) ?_ 0 (by simp[dK]);rintro i e H' ⟨rfl,hi,g1,g2,g5,g6⟩ L ih2;have hpl:=oZ p.pats;have w1:IntKind.i64.wrap ((i:Int)+1)=(i:Int)+1:=wI;have w2:IntKind.i64.wrap (k:Int)=(k:Int):=wI;have hk1:(0:Int)<((k+1:Nat):Int):=by omega
  have htw:=Gn (l:=p.pats) i;have hlen:=F5 k (p.pats.take i);generalize hl:p.keys++dK k (p.pats.take i)=l at *;have hll:l.length<=4000000:=by rw[← hl,List.length_append];omega
  by_cases h:i<p.pats.length
  ·have h':(i:Int)<p.pats.length:=by omega
   have hdr:=Pat.dG h;have hpe:=yA (List.getElem_mem h);have hc:=ih p.pats[i] (by omega) (by omega);have hpkl:=Hp k p.pats[i];have a1:=fun(b:Nat) (c0:Chunk)=>zW (b:=b) (id:=H.length+1) (n:=l.length) (m:=(eH k p.pats[i]).length) (H:=H++[c0,.row 10 (Expr.aC l) (decide (l=[]))]) (A:=Expr.aC l) (B:=Expr.aC (eH k p.pats[i])) (nk:=decide (l=[])) (by simp) (Expr.bC _) (Expr.bC _) (by simp) (by omega) (fun n=>Expr.dQ _ n) (Expr.dT _)
   have hel2:∀H:aA,elems H 10 (SL .nil (Expr.aC (eH k p.pats[i])) (eH k p.pats[i]).length)=some (Expr.aC (eH k p.pats[i]),(eH k p.pats[i]).length):=fun H=>wO (Expr.bC _)
   have htk:p.keys++dK k (p.pats.take (i+1))=l++eH k p.pats[i]:=by rw[BH h, ← List.append_assoc,hl]
   simp[R2,g1,g2,g5,g6,h,h',hdr,hk1,w1,w2,hc,hel2,a1];refine ih2 (i+1) _ _ (by omega) ?_;rw[htk];simp[g1,g2];exact⟨(Expr.iU _ _).symm,by omega⟩
  ·obtain rfl:i=p.pats.length:=by omega
   rw[List.take_length]at hl;have hf:=Zn (H:=H++[.row 10 [] true,.row 10 (Expr.aC l) (decide (l=[]))]) (b:=H.length) (id:=H.length+1) (l:=l) (by omega) (by simp);simp[R2,g1,g2,g5,g6,hf];rw[← hl,List.length_append]
end
section
variable {X:Ctx}
def eL:List Def->List Expr
 | []=>[]
 | d::r=>d.body::eL r
theorem Oc:∀l,(eL l).length=l.length
 | []=>rfl
 | d::r=>by simp[eL,Oc r]
theorem RP {l:List Def}{i:Nat}(h:i<l.length):eL (l.take (i+1))=eL (l.take i)++[l[i].body]:=by
 have key:∀a b:List Def,eL (a++b)=eL a++eL b:=fun a b=>by
  induction a with
  | nil=>rfl
  | cons x r ih=>simp[eL,ih]
 rw[List.take_succ_eq_append_getElem h,key];simp[eL]
def parts(e:Expr):List Expr:=e.kids++dK 1000 e.pats++eL e.defs
theorem YL(hX:CX X)(e:Expr)(h1:e.kids.length<=2000000)(h2:bV e.pats<=4000000)(h3:e.defs.length<=2000000)(H:aA):cF X I5 [.agg e.cells] H=some (SL .nil (Expr.aC (parts e)) (parts e).length,H):=by
 refine zLP hX ?_;have a0:=fun(b:Nat) (c0:Chunk)=>zW (b:=b) (id:=H.length+1) (n:=0) (m:=e.kids.length) (H:=H++[c0,.row 10 [] true]) (A:=[]) (B:=Expr.aC e.kids) (nk:=true) (by simp) rfl (Expr.bC _) (by simp) (by omega) (fun n=>Expr.dQ _ n) (Expr.dT _)
 simp only[Nat.zero_mul,Nat.zero_add,List.nil_append,Bool.true_and]at a0;have hel:∀H:aA,elems H 10 (SL e.kidsF (Expr.aC e.kids) e.kids.length)=some (Expr.aC e.kids,e.kids.length):=fun H=>wO (Expr.bC _)
 have hpl:=oZ e.pats;simp[Xb,a0,hel];refine cH (fun(i:Nat) v H'=>H'=H++[.row 10 [] true,.row 10 (Expr.aC (e.kids++dK 1000 (e.pats.take i))) (decide (e.kids++dK 1000 (e.pats.take i)=[]))]∧i<=e.pats.length∧v.get 1=.fptr e.cells∧v.get 3=.osl (H.length+1) ((e.kids++dK 1000 (e.pats.take i)).length*10) 0 (e.kids++dK 1000 (e.pats.take i)).length∧v.get 4=.int .i64 i) (fun i=>e.pats.length-i) ?_ 0 (by simp[dK]);rintro i v H' ⟨rfl,hi,g1,g3,g4⟩ L ih2;have w1:IntKind.i64.wrap ((i:Int)+1)=(i:Int)+1:=wI;have htw:=Gn (l:=e.pats) i;have hlen:=F5 1000 (e.pats.take i);generalize hl:e.kids++dK 1000 (e.pats.take i)=l at *;have hll:l.length<=6000000:=by rw[← hl,List.length_append];omega
 by_cases h:i<e.pats.length
 ·have h':(i:Int)<e.pats.length:=by omega
  have hdr:=Pat.dG h;have hpe:=yA (List.getElem_mem h);have hc:∀H:aA,cF X H6 [.agg e.pats[i].cells,.int .i64 1000] H=some (SL .nil (Expr.aC (eH 1000 e.pats[i])) (eH 1000 e.pats[i]).length,H):=YD hX 1000 e.pats[i] (by omega) (by omega);have hpkl:=Hp 1000 e.pats[i];have a1:=fun(b:Nat) (c0:Chunk)=>zW (b:=b) (id:=H.length+1) (n:=l.length) (m:=(eH 1000 e.pats[i]).length) (H:=H++[c0,.row 10 (Expr.aC l) (decide (l=[]))]) (A:=Expr.aC l) (B:=Expr.aC (eH 1000 e.pats[i])) (nk:=decide (l=[])) (by simp) (Expr.bC _) (Expr.bC _) (by simp) (by omega) (fun n=>Expr.dQ _ n) (Expr.dT _)
  have hel2:∀H:aA,elems H 10 (SL .nil (Expr.aC (eH 1000 e.pats[i])) (eH 1000 e.pats[i]).length)=some (Expr.aC (eH 1000 e.pats[i]),(eH 1000 e.pats[i]).length):=fun H=>wO (Expr.bC _)
  have htk:e.kids++dK 1000 (e.pats.take (i+1))=l++eH 1000 e.pats[i]:=by rw[BH h, ← List.append_assoc,hl]
  simp[Xa,g1,g3,g4,h,h',hdr,w1,hc,hel2,a1];refine ih2 (i+1) _ _ (by omega) ?_;rw[htk];simp[g1];exact⟨(Expr.iU _ _).symm,by omega⟩
 ·obtain rfl:i=e.pats.length:=by omega
  rw[List.take_length]at hl;simp[Xa,g1,g3,g4];refine cH (fun(i:Nat) v H'=>H'=H++[.row 10 [] true,.row 10 (Expr.aC (l++eL (e.defs.take i))) (decide (l++eL (e.defs.take i)=[]))]∧i<=e.defs.length∧v.get 1=.fptr e.cells∧v.get 3=.osl (H.length+1) ((l++eL (e.defs.take i)).length*10) 0 (l++eL (e.defs.take i)).length∧v.get 5=.int .i64 i) (fun i=>e.defs.length-i) ?_ 0 (by simp[eL,g1,g3]);rintro i v H' ⟨rfl,hi,g1,g3,g5⟩ L ih2;have w1:IntKind.i64.wrap ((i:Int)+1)=(i:Int)+1:=wI;have hlen:=Oc (e.defs.take i);rw[List.length_take]at hlen;generalize hl2:l++eL (e.defs.take i)=l2 at *;have hll:l2.length<=8000000:=by rw[← hl2,List.length_append];omega
  by_cases h:i<e.defs.length
  ·have h':(i:Int)<e.defs.length:=by omega
   have hdr:=Def.dG h;have a1:=fun(b:Nat) (c0:Chunk)=>zW (b:=b) (id:=H.length+1) (n:=l2.length) (m:=1) (H:=H++[c0,.row 10 (Expr.aC l2) (decide (l2=[]))]) (A:=Expr.aC l2) (B:=e.defs[i].body.cells) (nk:=decide (l2=[])) (by simp) (Expr.bC _) (Expr.aK _) (by simp) (by omega) (fun n=>Expr.aD _ n) (Expr.aF _)
   have hdr2:(Def.aC e.defs).drop (i*12+2)=(e.defs[i].cells++Def.rest e.defs i).drop 2:=by rw[← hdr,List.drop_drop]
   have hel2:∀H:aA,elems H 10 (.fsl e.defs[i].body.cells 1)=some (e.defs[i].body.cells,1):=fun H=>by simp[elems,Expr.aK]
   have htk:l++eL (e.defs.take (i+1))=l2++[e.defs[i].body]:=by rw[RP h, ← List.append_assoc,hl2]
   simp[Wz,g1,g3,g5,h,h',hdr,hdr2,w1,hel2,a1,z0,Expr.bI];refine ih2 (i+1) _ _ (by omega) ?_;rw[htk];simp[g1,Expr.iU,fH];omega
  ·obtain rfl:i=e.defs.length:=by omega
   rw[List.take_length]at hl2;have hf:=Zn (H:=H++[.row 10 [] true,.row 10 (Expr.aC l2) (decide (l2=[]))]) (b:=H.length) (id:=H.length+1) (l:=l2) (by omega) (by simp);have hp:parts e=l2:=by rw[parts,hl,hl2]
   rw[hp];simp[Wz,g1,g3,g5,hf]
end
section
variable {X:Ctx}
mutual
theorem ZT {m:Int}:∀(k:Nat) (p:Pat),fC m p->∀x∈eH k p,aL m x
 | k,.mk _ _ _ ks _ ps=>by
  intro h x hx;rw[fC,Fi]at h;rw[eH]at hx;rcases List.mem_append.1 hx with hx | hx
  ·exact h.2.2.1 x hx
  ·split at hx
   ·simp at hx
   ·exact Hr (k-1) ps h.2.2.2.2 x hx
theorem Hr {m:Int}:∀(k:Nat) (l:List Pat),mG m l->∀x∈dK k l,aL m x
 | _,[]=>by simp[dK]
 | k,p::r=>by
  intro h x hx;rw[mG]at h;rw[dK]at hx;rcases List.mem_append.1 hx with hx | hx
  ·exact ZT k p h.1 x hx
  ·exact Hr k r h.2 x hx
end
theorem O9:∀ {l:List Def} {x:Expr},x∈eL l->∃d∈l,x=d.body
 | [],x,h=>by simp[eL]at h
 | d::r,x,h=>by
  rcases List.mem_cons.1 h with h | h
  ·exact⟨d,List.mem_cons_self ..,h⟩
  ·obtain⟨d',h1,h2⟩:=O9 h
   exact⟨d',List.mem_cons_of_mem _ h1,h2⟩
theorem GV {m:Int}{e:Expr}(h:aL m e):∀x∈parts e,aL m x:=by
 intro x hx;have h':=mJ.1 h;rcases List.mem_append.1 hx with hx | hx
 ·rcases List.mem_append.1 hx with hx | hx
  ·exact h'.2.2.2.2.1 x hx
  ·exact Hr _ _ (B9.2 h'.2.2.2.2.2.2.1) x hx
 ·obtain⟨d,h1,rfl⟩:=O9 hx
  have:=h'.2.2.2.2.2.2.2.2.1 d h1
  cases d
  exact this.2.2.2
theorem GW {m:Int}{e:Expr}(h:aL m e):(parts e).length<=8000000:=by
 have h':=mJ.1 h;have h1:=F5 1000 e.pats;have h2:=Oc e.defs;simp only[parts,List.length_append];have:=h'.2.2.2.1;have:=h'.2.2.2.2.2.1;have:=h'.2.2.2.2.2.2.2.1;omega
theorem ME(hX:CX X){m:Int}{e:Expr}(h:aL m e)(H:aA):cF X I5 [.agg e.cells] H=some (SL .nil (Expr.aC (parts e)) (parts e).length,H):=by
 have h':=mJ.1 h;exact YL hX e h'.2.2.2.1 h'.2.2.2.2.2.1 h'.2.2.2.2.2.2.2.1 H
def iL:Nat->List Pat->Int
 | 0,_=>0
 | k+1,l=>l.foldl (fun n p=>max n (IntKind.i64.wrap (1+iL k p.pats))) 0
theorem Lp {α β:Type}(f:β->α->β)(b:β){l:List α}{i:Nat}(h:i<l.length):(l.take (i+1)).foldl f b=f ((l.take i).foldl f b) l[i]:=by
 rw[List.take_succ_eq_append_getElem h,List.foldl_append];rfl
theorem YE(hX:CX X){m:Int}:∀(k:Nat) (f:Nl) (l:List Pat),mG m l->l.length<=4000000->k<=1000->∀H:aA,cF X o4 [SL f (Pat.aC l) l.length,.int .i64 k] H=some (.int .i64 (iL k l),H):=by
 intro k
 induction k with
 | zero=>
  intro f l hl hn _ H;refine MT hX ?_;simp[Dk];refine bA fun L hL=>?_
  by_cases hq:0<l.length
  ·have hq':(0:Int)<l.length:=by omega
   simp[R3,aB,hq,hq',iL]
  ·have hq':¬(0:Int)<l.length:=by omega
   simp[R3,aB,hq,hq',iL]
 | succ k ih=>
  intro f l hl hn hk H;refine MT hX ?_;simp[Dk];refine cH (fun(i:Nat) v H'=>H'=H∧i<=l.length∧v.get 0=SL f (Pat.aC l) l.length∧v.get 1=.int .i64 ((k+1:Nat):Int)∧v.get 5=.int .i64 ((l.take i).foldl (fun n p=>max n (IntKind.i64.wrap (1+iL k p.pats))) 0)∧v.get 6=.int .i64 i) (fun i=>l.length-i) ?_ 0 (by simp);rintro i v H' ⟨rfl,hi,g0,g1,g5,g6⟩ L ih2;have w1:IntKind.i64.wrap ((i:Int)+1)=(i:Int)+1:=wI;have w2:IntKind.i64.wrap (k:Int)=(k:Int):=wI;have hk1:(0:Int)<((k+1:Nat):Int):=by omega
  by_cases h:i<l.length
  ·have h':(i:Int)<l.length:=by omega
   have hdr:=Pat.dG h;have hdr2:(Pat.aC l).drop (i*4+3)=(l[i].cells++Pat.rest l i).drop 3:=by rw[← hdr,List.drop_drop]
   have hp:fC m l[i]:=(B9.1 hl) _ (List.getElem_mem h);have hps:mG m l[i].pats∧l[i].pats.length<=2000000:=by
    generalize l[i]=q at hp
    cases q
    rw[fC]at hp;exact⟨hp.2.2.2.2,hp.2.2.2.1⟩
   have hc:=fun H=>ih l[i].patsF l[i].pats hps.1 (by omega) (by omega) H
   have hfo:=Lp (fun(n:Int) (p:Pat)=>max n (IntKind.i64.wrap (1+iL k p.pats))) 0 h;simp[R3,g0,g1,g5,g6,h,h',hdr,hdr2,hk1,w1,w2,hc];refine ih2 (i+1) _ _ (by omega) ?_;rw[hfo];simp[g0,g1];omega
  ·obtain rfl:i=l.length:=by omega
   rw[List.take_length]at g5;simp[R3,aB,g0,g1,g5,g6,iL]
def rU:Nat->Expr->Int
 | 0,_=>0
 | k+1,e=>IntKind.i64.wrap (1+(parts e).foldl (fun n x=>max n (rU k x)) (iL k e.pats))
theorem YF(hX:CX X){m:Int}:∀(k:Nat) (e:Expr),aL m e->k<=1000->∀H:aA,cF X I4 [.agg e.cells,.int .i64 k] H=some (.int .i64 (rU k e),H):=by
 intro k
 induction k with
 | zero=>
  intro e he _ H;refine ND hX ?_;simp[Ei,aB,rU]
 | succ k ih=>
  intro e he hk H;refine ND hX ?_;have hP:=ME hX he;have hpo:=GV he;have hpl:=GW he;have he':=mJ.1 he;have hpl2:=oZ e.pats;have hpd:=YE hX k e.patsF e.pats (B9.2 he'.2.2.2.2.2.2.1) (by have:=he'.2.2.2.2.2.1;omega) (by omega);have w2:IntKind.i64.wrap (k:Int)=(k:Int):=wI;have hk0:¬((k:Int)+1=0):=by omega
  simp[Ei,w2,hk0,hpd,hP];refine cH (fun(i:Nat) v H'=>H'=H∧i<=(parts e).length∧v.get 1=.int .i64 ((k+1:Nat):Int)∧v.get 5=.int .i64 (((parts e).take i).foldl (fun n x=>max n (rU k x)) (iL k e.pats))∧v.get 6=SL .nil (Expr.aC (parts e)) (parts e).length∧v.get 7=.int .i64 i) (fun i=>(parts e).length-i) ?_ 0 (by simp);generalize hl:parts e=l at *;rintro i v H' ⟨rfl,hi,g1,g5,g6,g7⟩ L ih2;have w1:IntKind.i64.wrap ((i:Int)+1)=(i:Int)+1:=wI;by_cases h:i<l.length
  ·have h':(i:Int)<l.length:=by omega
   have hdr:=Expr.dG h;have hc:=ih l[i] (hpo _ (List.getElem_mem h)) (by omega);have hfo:=Lp (fun(n:Int) (x:Expr)=>max n (rU k x)) (iL k e.pats) h;simp[Wq,g1,g5,g6,g7,h,h',hdr,w1,w2,hc];refine ih2 (i+1) _ _ (by omega) ?_;rw[hfo];simp[g1,g6];omega
  ·obtain rfl:i=l.length:=by omega
   rw[List.take_length]at g5;simp[Wq,aB,g1,g5,g6,g7];rw[rU,hl]
theorem YP(hX:CX X){m:Int}{e:Expr}(he:aL m e)(H:aA):cF X Kh [.agg e.cells] H=some (.int .i64 (rU 1000 e),H):=by
 refine zLQ hX ?_;have hd:∀H:aA,cF X I4 [.agg e.cells,.int .i64 1000] H=some (.int .i64 (rU 1000 e),H):=YF hX 1000 e he (by omega);simp[Xe,aB,hd]
mutual
theorem ZS:∀(k:Nat) (p:Pat),∀x∈eH k p,SizeOf.sizeOf x<SizeOf.sizeOf p
 | k,.mk _ _ _ ks _ ps=>by
  intro x hx;rw[eH]at hx;rcases List.mem_append.1 hx with hx | hx
  ·have:=List.sizeOf_lt_of_mem hx;simp;omega
  ·split at hx
   ·simp at hx
   ·have:=Hq (k-1) ps x hx;simp;omega
theorem Hq:∀(k:Nat) (l:List Pat),∀x∈dK k l,SizeOf.sizeOf x<SizeOf.sizeOf l
 | _,[]=>by simp[dK]
 | k,p::r=>by
  intro x hx;rw[dK]at hx;rcases List.mem_append.1 hx with hx | hx
  ·have:=ZS k p x hx;simp;omega
  ·have:=Hq k r x hx;simp;omega
end
theorem zAg {e x:Expr}(h:x∈parts e):SizeOf.sizeOf x<SizeOf.sizeOf e:=by
 obtain⟨k,n,t,d,kf,ks,pf,ps,df,ds,a⟩:=e;simp only[parts,Expr.kids,Expr.pats,Expr.defs]at h;rcases List.mem_append.1 h with h | h
 ·rcases List.mem_append.1 h with h | h
  ·have:=List.sizeOf_lt_of_mem h;simp;omega
  ·have:=Hq _ _ x h;simp;omega
 ·obtain⟨d,h1,rfl⟩:=O9 h
  have h2:=List.sizeOf_lt_of_mem h1;have:SizeOf.sizeOf d.body<SizeOf.sizeOf d:=by cases d;simp[Def.body];omega
  simp;omega
def rE(f:Expr->Int):List Expr->Int->Int
 | [],n=>n
 | x::r,n=>if n<1048576 then rE f r (IntKind.i64.wrap (n+f x))else n
def uN:Nat->Expr->Int
 | 0,_=>0
 | k+1,e=>min (rE (uN k) (parts e) 1) 1048576
theorem YI(hX:CX X){m:Int}:∀(k:Nat) (e:Expr),aL m e->SizeOf.sizeOf e<=k->∀H:aA,cF X p6 [.agg e.cells] H=some (.int .i64 (uN (k+1) e),H):=by
 intro k
 induction k with
 | zero=>intro e _ hs;cases e;simp at hs
 | succ k ih=>
  intro e he hk H;refine zLN hX ?_;have hP:=ME hX he;have hpo:=GV he;have hpl:=GW he;have hsz:∀x∈parts e,SizeOf.sizeOf x<=k:=fun x hx=>by have:=zAg hx;omega
  simp[Wu,hP];rw[uN];refine cH (fun(q:Nat×Int) v H'=>H'=H∧q.1<=(parts e).length∧rE (uN (k+1)) ((parts e).drop q.1) q.2=rE (uN (k+1)) (parts e) 1∧v.get 3=.int .i64 q.2∧v.get 4=SL .nil (Expr.aC (parts e)) (parts e).length∧v.get 5=.int .i64 q.1) (fun q=>(parts e).length-q.1) ?_ (0,1) (by simp);generalize parts e=l at *;rintro⟨i,n⟩ v H' ⟨rfl,hi,hq,g3,g4,g5⟩ L ih2;simp only at hi hq g3 g5 ih2;have w1:IntKind.i64.wrap ((i:Int)+1)=(i:Int)+1:=wI;by_cases h:i<l.length
  ·have h':(i:Int)<l.length:=by omega
   have hdr:=Expr.dG h;have hc:=ih l[i] (hpo _ (List.getElem_mem h)) (hsz _ (List.getElem_mem h));rw[List.drop_eq_getElem_cons h,rE]at hq;by_cases hn:n<1048576
   ·rw[if_pos hn]at hq
    simp[Ej,g3,g4,g5,h,h',hn,hdr,w1,hc];refine ih2 (i+1,IntKind.i64.wrap (n+uN (k+1) l[i])) _ _ (by simp;omega) ?_;simp[g4,hq];omega
   ·rw[if_neg hn]at hq
    rw[hq]at hn g3;simp[Ej,aB,g3,g4,g5,h,h',hn]
  ·obtain rfl:i=l.length:=by omega
   simp[rE]at hq;simp[Ej,aB,g3,g4,g5,hq]
end
end Go.AM.T
