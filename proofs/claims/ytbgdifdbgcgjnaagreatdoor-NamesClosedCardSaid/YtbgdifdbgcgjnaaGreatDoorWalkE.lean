/- Walks. -/
import Derived.Test.YtbgdifdbgcgjnaaGreatDoorWalkD
set_option linter.unusedVariables false
set_option linter.unusedSimpArgs false
set_option linter.unnecessarySimpa false
set_option maxRecDepth 100000
namespace Go.AM.T
section
variable {X:Ctx}
def eZ(s:Bs)(k:Nat):Bool:=if h:k<s.length then decide (48<=(s[k].toNat:Int)) && decide ((s[k].toNat:Int)<=57)else false
theorem pW {s:Bs}{k:Nat}(h:eZ s k=true):k<s.length:=by
 unfold eZ at h;split at h
 ·assumption
 ·simp at h
theorem rH(hX:CX X)(s:Bs)(k:Nat)(H:aA):cF X tD [.str s,.int .i64 k] H=some (.bool (eZ s k),H):=by
 refine zL9 hX ?_;unfold eZ;by_cases h:k<s.length
 ·have h':(k:Int)<s.length:=by omega
  by_cases h1:(48:Int)<=s[k].toNat <;> by_cases h2:((s[k].toNat:Int)<=57) <;> simp[Er,aB,h,h',h1,h2]
 ·have h':¬(k:Int)<s.length:=by omega
  simp[Er,aB,h,h']
def iE(s:Bs):Nat->Nat->Nat
 | 0,k=>k
 | m+1,k=>if eZ s k then iE s m (k+1)else k
theorem xU {s:Bs}:∀m k,k<=iE s m k∧(k<=s.length->iE s m k<=s.length)
 | 0,k=>by simp[iE]
 | m+1,k=>by
  rw[iE]
  cases hd:eZ s k with
  | true=>
   have h1:=xU (s:=s) m (k+1);have:=pW hd;simp only[if_true];exact⟨by omega,fun _=>h1.2 (by omega)⟩
  | false=>simp
theorem XK {s:Bs}{m k:Nat}(h:eZ s k=true)(hm:m≠0):k<iE s m k:=by
 obtain⟨n,rfl⟩:∃n,m=n+1:=⟨m-1,by omega⟩;rw[iE,if_pos h];have:=(xU (s:=s) n (k+1)).1;omega
theorem zI3(hX:CX X){s:Bs}(hl:s.length<=1000000):∀(m k:Nat) (b:Nat) (H:aA) (env:Env) (K:List Fr) (Q:Ex->St->Prop),s.length<=k+m->k<=s.length->env.get 0=.str s->env.get 1=.int .i64 k->(∀env':Env,env'.get 0=.str s->env'.get 1=.int .i64 (iE s m k)->YX X b none (.exit 0) K ⟨env',H,[]⟩ Q)->YS X b none (.loop T6) K ⟨env,H,[]⟩ Q:=by
 intro m
 induction m with
 | zero=>
  intro k b H env K Q hk hk2 g0 g1 hc;have hd:eZ s k=false:=by
   cases h:eZ s k with
   | false=>rfl
   | true=>have:=pW h;omega
  have hdg:=rH hX s k;refine bA fun L hL=>?_
  simp[T6,g0,g1,hdg,hd];refine hc _ ?_ ?_ <;> simp[g0,g1,iE]
 | succ m ih=>
  intro k b H env K Q hk hk2 g0 g1 hc;have hdg:=rH hX s k;rw[iE]at hc;refine bA fun L hL=>?_
  cases hd:eZ s k with
  | false=>
   simp[T6,g0,g1,hdg,hd];rw[hd]at hc;refine hc _ ?_ ?_ <;> simp[g0,g1]
  | true=>
   have hkl:=pW hd;obtain⟨k1,hk1⟩:∃k1,k1=k+1:=⟨_,rfl⟩;have w1:IntKind.i64.wrap ((k:Int)+1)=(k1:Int):=by rw[wrap_i64 (by omega) (by omega)];omega
   simp[T6,g0,g1,hdg,hd,w1];rw[hd,if_pos rfl, ← hk1]at hc;rw[hL];refine ih k1 b H _ K Q (by omega) (by omega) ?_ ?_ hc <;> simp[g0]
theorem zI2(hX:CX X){s:Bs}(hl:s.length<=1000000):∀(m k:Nat) (b:Nat) (H:aA) (env:Env) (K:List Fr) (Q:Ex->St->Prop),s.length<=k+m->k<=s.length->env.get 0=.str s->env.get 1=.int .i64 k->(∀env':Env,env'.get 0=.str s->env'.get 1=.int .i64 (iE s m k)->YX X b none (.exit 2) K ⟨env',H,[]⟩ Q)->YS X b none (.loop T5) K ⟨env,H,[]⟩ Q:=by
 intro m
 induction m with
 | zero=>
  intro k b H env K Q hk hk2 g0 g1 hc;have hd:eZ s k=false:=by
   cases h:eZ s k with
   | false=>rfl
   | true=>have:=pW h;omega
  have hdg:=rH hX s k;refine bA fun L hL=>?_
  simp[T5,g0,g1,hdg,hd];refine hc _ ?_ ?_ <;> simp[g0,g1,iE]
 | succ m ih=>
  intro k b H env K Q hk hk2 g0 g1 hc;have hdg:=rH hX s k;rw[iE]at hc;refine bA fun L hL=>?_
  cases hd:eZ s k with
  | false=>
   simp[T5,g0,g1,hdg,hd];rw[hd]at hc;refine hc _ ?_ ?_ <;> simp[g0,g1]
  | true=>
   have hkl:=pW hd;obtain⟨k1,hk1⟩:∃k1,k1=k+1:=⟨_,rfl⟩;have w1:IntKind.i64.wrap ((k:Int)+1)=(k1:Int):=by rw[wrap_i64 (by omega) (by omega)];omega
   simp[T5,g0,g1,hdg,hd,w1];rw[hd,if_pos rfl, ← hk1]at hc;rw[hL];refine ih k1 b H _ K Q (by omega) (by omega) ?_ ?_ hc <;> simp[g0]
theorem tP(hX:CX X){s:Bs}(hl:s.length<=1000000):∀(m k:Nat) (b:Nat) (H:aA) (env:Env) (K:List Fr) (Q:Ex->St->Prop),s.length<=k+m->k<=s.length->env.get 0=.str s->env.get 1=.int .i64 k->(∀env':Env,env'.get 0=.str s->env'.get 1=.int .i64 (iE s m k)->YX X b none (.exit 4) K ⟨env',H,[]⟩ Q)->YS X b none (.loop T4) K ⟨env,H,[]⟩ Q:=by
 intro m
 induction m with
 | zero=>
  intro k b H env K Q hk hk2 g0 g1 hc;have hd:eZ s k=false:=by
   cases h:eZ s k with
   | false=>rfl
   | true=>have:=pW h;omega
  have hdg:=rH hX s k;refine bA fun L hL=>?_
  simp[T4,g0,g1,hdg,hd];refine hc _ ?_ ?_ <;> simp[g0,g1,iE]
 | succ m ih=>
  intro k b H env K Q hk hk2 g0 g1 hc;have hdg:=rH hX s k;rw[iE]at hc;refine bA fun L hL=>?_
  cases hd:eZ s k with
  | false=>
   simp[T4,g0,g1,hdg,hd];rw[hd]at hc;refine hc _ ?_ ?_ <;> simp[g0,g1]
  | true=>
   have hkl:=pW hd;obtain⟨k1,hk1⟩:∃k1,k1=k+1:=⟨_,rfl⟩;have w1:IntKind.i64.wrap ((k:Int)+1)=(k1:Int):=by rw[wrap_i64 (by omega) (by omega)];omega
   simp[T4,g0,g1,hdg,hd,w1];rw[hd,if_pos rfl, ← hk1]at hc;rw[hL];refine ih k1 b H _ K Q (by omega) (by omega) ?_ ?_ hc <;> simp[g0]
def ACode.tl:ACode->ACode
 | .seq _ b=>b
 | c=>c
def ACode.hd:ACode->ACode
 | .seq a _=>a
 | c=>c
abbrev gL:ACode:=ACode.tl (ACode.tl (ACode.tl (ACode.tl (ACode.tl dU))))
abbrev pV:ACode:=ACode.tl (ACode.tl (ACode.tl (ACode.tl dU)))
theorem zI4:pV=.seq (ACode.hd pV) gL:=rfl
theorem KP:dU=.seq (ACode.hd dU) (.seq (ACode.hd (ACode.tl dU)) (.seq (ACode.hd (ACode.tl (ACode.tl dU))) (.seq (ACode.hd (ACode.tl (ACode.tl (ACode.tl dU)))) pV))):=rfl
def PF(X:Ctx)(s:Bs)(p:Nat)(T:ACode):Prop:=∃r:Nat×Bool,(r.2=true->p<=r.1∧r.1<=s.length)∧∀(H:aA) (env:Env),env.get 0=.str s->env.get 1=.int .i64 p->YS X H.length none T [] ⟨env,H,[]⟩ (fO [.tmp 4,.tmp 5] none H.length (.tup [.int .i64 r.1,.bool r.2],H))
theorem zI5(hX:CX X){s:Bs}(hl:s.length<=1000000)(p:Nat)(hp:p<=s.length):PF X s p gL:=by
 obtain⟨p1,hp1⟩:∃p1,p1=p+1:=⟨_,rfl⟩;obtain⟨p2,hp2⟩:∃p2,p2=p1+1:=⟨_,rfl⟩;have w1:IntKind.i64.wrap ((p:Int)+1)=(p1:Int):=by rw[wrap_i64 (by omega) (by omega)];omega
 have w2:IntKind.i64.wrap ((p1:Int)+1)=(p2:Int):=by rw[wrap_i64 (by omega) (by omega)];omega
 have hdg:=fun k H=>rH hX s k H
 by_cases h:p<s.length
 rotate_left
 ·have h':¬(p:Int)<s.length:=by omega
  refine⟨(p,true),fun _=>⟨Nat.le_refl _,hp⟩,fun H env g0 g1=>?_⟩;simp[gL,ACode.tl,dU,aB,g0,g1,h,h']
 have h':(p:Int)<s.length:=by omega
 by_cases he:(s[p].toNat:Int)=101∨(s[p].toNat:Int)=69
 rotate_left
 ·have e1:¬(s[p].toNat:Int)=101:=fun q=>he (Or.inl q)
  have e2:¬(s[p].toNat:Int)=69:=fun q=>he (Or.inr q)
  refine⟨(p,true),fun _=>⟨Nat.le_refl _,hp⟩,fun H env g0 g1=>?_⟩;simp[gL,ACode.tl,dU,aB,g0,g1,h,h',e1,e2]
 have fin:∀q:Nat,q<=s.length->p<=q->∃r:Nat×Bool,(r.2=true->p<=r.1∧r.1<=s.length)∧((eZ s q=false∧r=(q,false))∨(eZ s q=true∧r=(iE s s.length q,true))):=fun q h1 h2=>by
  cases hd:eZ s q with
  | false=>exact⟨(q,false),by simp,Or.inl ⟨rfl,rfl⟩⟩
  | true=>exact⟨_,fun _=>⟨Nat.le_trans h2 (xU _ _).1,(xU _ _).2 h1⟩,Or.inr ⟨rfl,rfl⟩⟩
 have two:∀(P:Prop),((s[p].toNat:Int)=101->P)->(¬(s[p].toNat:Int)=101->(s[p].toNat:Int)=69->P)->P:=fun P h1 h2=>by
  by_cases q:(s[p].toNat:Int)=101
  ·exact h1 q
  ·exact h2 q (he.resolve_left q)
 by_cases hs:p1<s.length
 rotate_left
 ·have hs':¬(p1:Int)<s.length:=by omega
  obtain⟨r,hr,hcase⟩:=fin p1 (by omega) (by omega);refine⟨r,hr,fun H env g0 g1=>?_⟩;have hdq:=hdg p1;rcases hcase with⟨hd,rfl⟩ | ⟨hd,rfl⟩
  ·refine two _ (fun e1=>?_) (fun e1 e2=>?_)
   ·simp[gL,ACode.tl,dU,aB,g0,g1,h,h',e1,hs,hs',hdq,hd,w1,w2]
   ·simp[gL,ACode.tl,dU,aB,g0,g1,h,h',e1,e2,hs,hs',hdq,hd,w1,w2]
  ·refine two _ (fun e1=>?_) (fun e1 e2=>?_)
   ·simp[gL,ACode.tl,dU,aB,g0,g1,h,h',e1,hs,hs',hdq,hd,w1,w2]
    refine tP hX hl s.length p1 _ _ _ _ _ (by omega) (by omega) ?_ ?_ fun env' j0 j1=>?_
    ·simp[g0]
    ·simp
    ·simp[aB,j0,j1]
   ·simp[gL,ACode.tl,dU,aB,g0,g1,h,h',e1,e2,hs,hs',hdq,hd,w1,w2]
    refine tP hX hl s.length p1 _ _ _ _ _ (by omega) (by omega) ?_ ?_ fun env' j0 j1=>?_
    ·simp[g0]
    ·simp
    ·simp[aB,j0,j1]
 have hs':(p1:Int)<s.length:=by omega
 by_cases s1:(s[p1].toNat:Int)=43
 ·obtain⟨r,hr,hcase⟩:=fin p2 (by omega) (by omega)
  refine⟨r,hr,fun H env g0 g1=>?_⟩;have hdq:=hdg p2;rcases hcase with⟨hd,rfl⟩ | ⟨hd,rfl⟩
  ·refine two _ (fun e1=>?_) (fun e1 e2=>?_)
   ·simp[gL,ACode.tl,dU,aB,g0,g1,h,h',e1,hs,hs',s1,hdq,hd,w1,w2]
   ·simp[gL,ACode.tl,dU,aB,g0,g1,h,h',e1,e2,hs,hs',s1,hdq,hd,w1,w2]
  ·refine two _ (fun e1=>?_) (fun e1 e2=>?_)
   ·simp[gL,ACode.tl,dU,aB,g0,g1,h,h',e1,hs,hs',s1,hdq,hd,w1,w2]
    refine tP hX hl s.length p2 _ _ _ _ _ (by omega) (by omega) ?_ ?_ fun env' j0 j1=>?_
    ·simp[g0]
    ·simp
    ·simp[aB,j0,j1]
   ·simp[gL,ACode.tl,dU,aB,g0,g1,h,h',e1,e2,hs,hs',s1,hdq,hd,w1,w2]
    refine tP hX hl s.length p2 _ _ _ _ _ (by omega) (by omega) ?_ ?_ fun env' j0 j1=>?_
    ·simp[g0]
    ·simp
    ·simp[aB,j0,j1]
 by_cases s2:(s[p1].toNat:Int)=45
 ·obtain⟨r,hr,hcase⟩:=fin p2 (by omega) (by omega)
  refine⟨r,hr,fun H env g0 g1=>?_⟩;have hdq:=hdg p2;rcases hcase with⟨hd,rfl⟩ | ⟨hd,rfl⟩
  ·refine two _ (fun e1=>?_) (fun e1 e2=>?_)
   ·simp[gL,ACode.tl,dU,aB,g0,g1,h,h',e1,hs,hs',s1,s2,hdq,hd,w1,w2]
   ·simp[gL,ACode.tl,dU,aB,g0,g1,h,h',e1,e2,hs,hs',s1,s2,hdq,hd,w1,w2]
  ·refine two _ (fun e1=>?_) (fun e1 e2=>?_)
   ·simp[gL,ACode.tl,dU,aB,g0,g1,h,h',e1,hs,hs',s1,s2,hdq,hd,w1,w2]
    refine tP hX hl s.length p2 _ _ _ _ _ (by omega) (by omega) ?_ ?_ fun env' j0 j1=>?_
    ·simp[g0]
    ·simp
    ·simp[aB,j0,j1]
   ·simp[gL,ACode.tl,dU,aB,g0,g1,h,h',e1,e2,hs,hs',s1,s2,hdq,hd,w1,w2]
    refine tP hX hl s.length p2 _ _ _ _ _ (by omega) (by omega) ?_ ?_ fun env' j0 j1=>?_
    ·simp[g0]
    ·simp
    ·simp[aB,j0,j1]
 obtain⟨r,hr,hcase⟩:=fin p1 (by omega) (by omega);refine⟨r,hr,fun H env g0 g1=>?_⟩;have hdq:=hdg p1;rcases hcase with⟨hd,rfl⟩ | ⟨hd,rfl⟩
 ·refine two _ (fun e1=>?_) (fun e1 e2=>?_)
  ·simp[gL,ACode.tl,dU,aB,g0,g1,h,h',e1,hs,hs',s1,s2,hdq,hd,w1,w2]
  ·simp[gL,ACode.tl,dU,aB,g0,g1,h,h',e1,e2,hs,hs',s1,s2,hdq,hd,w1,w2]
 ·refine two _ (fun e1=>?_) (fun e1 e2=>?_)
  ·simp[gL,ACode.tl,dU,aB,g0,g1,h,h',e1,hs,hs',s1,s2,hdq,hd,w1,w2]
   refine tP hX hl s.length p1 _ _ _ _ _ (by omega) (by omega) ?_ ?_ fun env' j0 j1=>?_
   ·simp[g0]
   ·simp
   ·simp[aB,j0,j1]
  ·simp[gL,ACode.tl,dU,aB,g0,g1,h,h',e1,e2,hs,hs',s1,s2,hdq,hd,w1,w2]
   refine tP hX hl s.length p1 _ _ _ _ _ (by omega) (by omega) ?_ ?_ fun env' j0 j1=>?_
   ·simp[g0]
   ·simp
   ·simp[aB,j0,j1]
theorem KQ(hX:CX X){s:Bs}(hl:s.length<=1000000)(p:Nat)(hp:p<=s.length):PF X s p pV:=by
 obtain⟨p1,hp1⟩:∃p1,p1=p+1:=⟨_,rfl⟩;have w1:IntKind.i64.wrap ((p:Int)+1)=(p1:Int):=by rw[wrap_i64 (by omega) (by omega)];omega
 have hdg:=fun k H=>rH hX s k H
 have h5:=zI5 hX hl;rw[zI4];by_cases h:∃h:p<s.length,(s[p].toNat:Int)=46
 rotate_left
 ·obtain⟨r,hr,hgo⟩:=h5 p hp
  refine⟨r,hr,fun H env g0 g1=>?_⟩;generalize gL=T at *;by_cases hq:p<s.length
  ·have hq':(p:Int)<s.length:=by omega
   have e1:¬(s[p].toNat:Int)=46:=fun q=>h ⟨hq,q⟩
   simp[pV,ACode.hd,ACode.tl,dU,g0,g1,hq,hq',e1];refine hgo H _ ?_ ?_ <;> simp[g0,g1]
  ·have hq':¬(p:Int)<s.length:=by omega
   simp[pV,ACode.hd,ACode.tl,dU,g0,g1,hq,hq'];refine hgo H _ ?_ ?_ <;> simp[g0,g1]
 obtain⟨hq,e1⟩:=h;have hq':(p:Int)<s.length:=by omega
 have hd1:=hdg p1
 cases hd:eZ s p1 with
 | false=>
  refine⟨(p1,false),by simp,fun H env g0 g1=>?_⟩;simp[pV,ACode.hd,ACode.tl,dU,aB,g0,g1,hq,hq',e1,w1,hd1,hd]
 | true=>
  have hrl:=xU (s:=s) s.length p1;obtain⟨r,hr,hgo⟩:=h5 (iE s s.length p1) (hrl.2 (by omega));refine⟨r,fun q=>⟨by have:=(hr q).1;omega,(hr q).2⟩,fun H env g0 g1=>?_⟩;generalize gL=T at *;simp[pV,ACode.hd,ACode.tl,dU,g0,g1,hq,hq',e1,w1,hd1,hd];refine zI2 hX hl s.length p1 _ _ _ _ _ (by omega) (by omega) ?_ ?_ fun env' j0 j1=>?_
  ·simp[g0]
  ·simp
  ·simp[j0,j1]
   refine hgo H _ ?_ ?_ <;> simp[j0,j1]
theorem GD(hX:CX X){s:Bs}(hl:s.length<=1000000)(p:Nat)(hd:eZ s p=true):∃r:Nat×Bool,(r.2=true->p<r.1∧r.1<=s.length)∧∀H:aA,cF X J0 [.str s,.int .i64 p] H=some (.tup [.int .i64 r.1,.bool r.2],H):=by
 have hp:=pW hd;have hp':(p:Int)<s.length:=by omega
 obtain⟨p1,hp1⟩:∃p1,p1=p+1:=⟨_,rfl⟩;have w1:IntKind.i64.wrap ((p:Int)+1)=(p1:Int):=by rw[wrap_i64 (by omega) (by omega)];omega
 have hdg:=fun H=>rH hX s p H
 have hn:¬(s[p].toNat:Int)=45:=by
  intro q;unfold eZ at hd;rw[dif_pos hp,q]at hd;simp at hd
 by_cases h0:(s[p].toNat:Int)=48
 ·obtain⟨r,hr,hgo⟩:=KQ hX hl p1 (by omega)
  refine⟨r,fun q=>⟨by have:=(hr q).1;omega,(hr q).2⟩,fun H=>?_⟩;refine NH hX ?_;rw[KP];generalize pV=T at *;simp[ACode.hd,ACode.tl,dU,hp,hp',hn,hdg,hd,h0,w1];refine hgo H _ ?_ ?_ <;> simp
 ·have hrl:=xU (s:=s) s.length p
  have hrt:=XK (m:=s.length) hd (by omega);obtain⟨r,hr,hgo⟩:=KQ hX hl (iE s s.length p) (hrl.2 (by omega));refine⟨r,fun q=>⟨by have:=(hr q).1;omega,(hr q).2⟩,fun H=>?_⟩;refine NH hX ?_;rw[KP];generalize pV=T at *;simp[ACode.hd,ACode.tl,dU,hp,hp',hn,hdg,hd,h0];refine zI3 hX hl s.length p _ _ _ _ _ (by omega) (by omega) ?_ ?_ fun env' j0 j1=>?_
  ·simp
  ·simp
  ·simp[j0,j1]
   refine hgo H _ ?_ ?_ <;> simp[j0,j1]
end
section
variable {X:Ctx}
def iX(l:List Int):Nat->Nat
 | 0=>0
 | k+1=>if l[k]?.getD 0=0 then iX l k else k+1
theorem Gj(l:List Int):∀k,iX l k<=k
 | 0=>Nat.le_refl _
 | k+1=>by have:=Gj l k;rw[iX];split <;> omega
theorem Gk(l:List Int):∀k,iX l k=0∨l[iX l k-1]?.getD 0≠0
 | 0=>Or.inl rfl
 | k+1=>by
  rw[iX];split
  ·exact Gk l k
  ·rename_i h;exact Or.inr (by simpa using h)
theorem J5 {C:List Int}{k:Nat}(h:k<C.length):aJ false 1 ((C.map (D.int .i64)).drop k)=some (.int .i64 C[k]):=by
 rw[List.drop_eq_getElem_cons (by simpa using h)];simp[aJ]
theorem Gw {id hw off n m:Nat}(h:m<=n):iD 1 (.osl id hw off n) none (some (.int .i64 (m:Int))) none=some (.osl id hw off m):=by
 simp[iD,dY,h]
theorem Gv {id hw off n:Nat}:iD 1 (.osl id hw off n) none (some (.int .i64 0)) none=some (.osl id hw off 0):=Gw (m:=0) (Nat.zero_le _)
theorem Hl(hX:CX X){M:aA}{id off n:Nat}{C:List Int}{nl:Bool}(hM:M[id]? =some (.row 1 (C.map (D.int .i64)) nl))(hn:off+n<=C.length)(hnl:nl=true->n=0)(hl:C.length<=1000000):cF X s9 [.osl id C.length off n] M=some (.osl id C.length off (iX (C.drop off) n),M):=by
 refine zMd hX ?_;have hid:id<M.length:=(List.getElem?_eq_some_iff.1 hM).1;simp[Yz];refine cH (fun(k:Nat) e H'=>H'=M∧k<=n∧e.get 0=.osl id C.length off n∧e.get 3=.int .i64 k∧iX (C.drop off) k=iX (C.drop off) n) (fun k=>k) ?_ n (by simp);rintro k e H' ⟨rfl,hk,g0,g3,ht⟩ L ih
 cases k with
 | zero=>
  rw[← ht];simp[Ew,aB,g0,g3, ↓hM,hid,Gv,iX]
 | succ k=>
  have w1:IntKind.i64.wrap (k:Int)=(k:Int):=wI;have hp:(0:Int)<(k:Int)+1:=by omega
  have hlt:k<n:=by omega
  have hlt':(k:Int)<n:=by omega
  have hld:=J5 (C:=C) (k:=off+k) (by omega);rw[iX]at ht;have hg:(C.drop off)[k]?.getD 0=C[off+k]'(by omega):=by simp[show off+k<C.length by omega]
  rw[hg]at ht;obtain rfl:nl=false:=by
   cases nl with
   | false=>rfl
   | true=>have:=hnl rfl;omega
  have hslk:=Gw (id:=id) (hw:=C.length) (off:=off) (n:=n) (m:=k+1) (by omega);simp only[Int.natCast_add,Int.natCast_one]at hslk;by_cases hz:C[off+k]'(by omega)=0
  ·rw[if_pos hz]at ht
   simp[Ew,g0,g3, ↓hM,hid,Gv,w1,hp,hlt,hlt',hld,hz];refine ih k _ _ (by omega) ?_;simp[g0,ht];omega
  ·rw[if_neg hz]at ht
   simp[Ew,aB,g0,g3, ↓hM,hid,Gv,w1,hp,hlt,hlt',hld,hz,hslk];exact ht
end
section
variable {X:Ctx}
def val:List Nat->Nat
 | []=>0
 | d::r=>d+10*val r
def kO:Nat->Nat->List Nat
 | 0,_=>[]
 | f+1,c=>if c=0 then []else c % 10::kO f (c / 10)
def fI:List Nat->Nat->List Nat
 | [],c=>kO c c
 | d::r,c=>(c+d) % 10::fI r ((c+d) / 10)
theorem KZ:∀f c,c<=f->val (kO f c)=c
 | 0,c,h=>by simp[kO,val];omega
 | f+1,c,h=>by
  rw[kO];split
  ·simp[val];omega
  ·rw[val,KZ f (c / 10) (by omega)];omega
theorem LB:∀f c,∀d∈kO f c,d<=9
 | 0,c=>by simp[kO]
 | f+1,c=>by
  rw[kO];split
  ·simp
  ·intro d hd
   rcases List.mem_cons.1 hd with rfl | hd
   ·omega
   ·exact LB f _ d hd
theorem LA:∀f c,(kO f c).length<=f
 | 0,c=>by simp[kO]
 | f+1,c=>by
  rw[kO];split
  ·simp
  ·have:=LA f (c / 10);simp;omega
theorem MA:∀l c,val (fI l c)=val l+c
 | [],c=>by simp[fI,val,KZ c c (Nat.le_refl _)]
 | d::r,c=>by rw[fI,val,MA r,val];omega
theorem MB:∀l c,∀d∈fI l c,d<=9
 | [],c=>LB c c
 | d::r,c=>by
  rw[fI];intro x hx;rcases List.mem_cons.1 hx with rfl | hx
  ·omega
  ·exact MB r _ x hx
theorem Nc:∀l c,(∀d∈l,d<=1000)->c<=1000->(fI l c).length<=l.length+1000
 | [],c,_,hc=>by have:=LA c c;simp[fI];omega
 | d::r,c,h,hc=>by
  have h1:=h d (List.mem_cons_self ..);have:=Nc r ((c+d) / 10) (fun x hx=>h x (List.mem_cons_of_mem _ hx)) (by omega);simp[fI];omega
def bO(C:List Nat):List D:=(C.map fun d:Nat=>(d:Int)).map (D.int .i64)
theorem kX(C:List Nat):(bO C).length=C.length:=by simp[bO]
theorem zEI(A B:List Nat):bO (A++B)=bO A++bO B:=by simp[bO]
theorem zEH(a:Nat):bO [a]=[.int .i64 (a:Int)]:=rfl
theorem Z7(C:List Nat)(n:Nat):D.aD n (bO C)=true:=by unfold bO;exact U9 _
theorem HH(C:List Nat):D.aF (bO C)=true:=by unfold bO;exact Z6 _
theorem u5 {C:List Nat}{k:Nat}(h:k<C.length):aJ false 1 ((bO C).drop k)=some (.int .i64 (C[k]:Nat)):=by
 unfold bO;rw[J5 (by simpa using h)];simp
theorem NT {b:Nat}{M:aA}{A:List Nat}{nk:Bool}(d:Nat)(hnk:nk=true->A=[])(hn:A.length<=10000000):cR b (M++[.row 1 (bO A) nk]) 1 8 (.osl M.length A.length 0 A.length) [.int .i64 (d:Int)] 1=some (.osl M.length (A.length+1) 0 (A.length+1),M++[.row 1 (bO (A++[d])) false]):=by
 rw[kB (hw:=A.length) (es:=1) (bytes:=8) (m:=1) (ys:=[.int .i64 (d:Int)]) (cs:=bO A) (nil:=nk) (n:=A.length) (by simp) (kX A) (by omega) (fun q=>by rw[hnk q];rfl) (by unfold aX;omega) (by unfold aX;omega) (aH (fun n=>by simp) (by simp)) (by omega)];rw[zEI,zEH];simp
set_option maxHeartbeats 1000000 in
theorem ZB(hX:CX X){M:aA}{id n:Nat}{C:List Nat}{nl:Bool}(hM:M[id]? =some (.row 1 (bO C) nl))(hn:n<=C.length)(hnl:nl=true->n=0)(hl:C.length<=100000)(hd:∀d∈C,d<=255):∃nl':Bool,(nl'=true->fI (C.take n) 0=[])∧cF X Kr [.osl id C.length 0 n] M=some (.osl M.length (fI (C.take n) 0).length 0 (iX ((fI (C.take n) 0).map fun d:Nat=>(d:Int)) (fI (C.take n) 0).length),M++[.row 1 (bO (fI (C.take n) 0)) nl']):=by
 have hid:id<M.length:=(List.getElem?_eq_some_iff.1 hM).1;refine⟨decide (fI (C.take n) 0=[]),by simp,?_⟩;refine zMc hX ?_;have hfin:=Nc (C.take n) 0 (fun x hx=>by have:=hd x (List.mem_of_mem_take hx);omega) (by omega);rw[List.length_take]at hfin;simp[Yx];refine cH (fun(q:Nat×List Nat×Nat) e H'=>H'=M++[.row 1 (bO q.2.1) (decide (q.2.1=[]))]∧q.1<=n∧q.2.1.length=q.1∧q.2.2<=255∧e.get 0=.osl id C.length 0 n∧e.get 3=.osl M.length q.2.1.length 0 q.2.1.length∧e.get 4=.int .i64 (q.2.2:Nat)∧e.get 5=.int .i64 q.1∧q.2.1++fI ((C.take n).drop q.1) q.2.2=fI (C.take n) 0) (fun q=>n-q.1) ?_ (0,[],0) (by simp[bO]);rintro⟨i,o,c⟩ e H' ⟨rfl,hi,ho,hc,g0,g3,g4,g5,hq⟩ L ih;simp only at hi ho hc g3 g4 g5 hq ih;have hol:o.length<=200000:=by omega
 by_cases h:i<n
 ·have h':(i:Int)<n:=by omega
  have hiC:i<C.length:=by omega
  have hld:=u5 hiC;have hci:=hd _ (List.getElem_mem hiC);have hdr:(C.take n).drop i=C[i]::(C.take n).drop (i+1):=by rw[List.drop_eq_getElem_cons (by simp;omega)];simp
  rw[hdr,fI]at hq;obtain rfl:nl=false:=by
   cases nl with
   | false=>rfl
   | true=>have:=hnl rfl;omega
  generalize C[i]=x at *;obtain⟨s,hs⟩:∃s,s=c+x:=⟨_,rfl⟩;rw[← hs]at hq;have w1:IntKind.i64.wrap ((c:Int)+(x:Int))=(s:Int):=by rw[wrap_i64 (by omega) (by omega)];omega
  have hr:(s:Int).tmod 10=((s % 10:Nat):Int):=by rw[Int.tmod_eq_emod_of_nonneg (by omega)];omega
  have hqo:(s:Int).tdiv 10=((s / 10:Nat):Int):=by rw[Int.tdiv_eq_ediv_of_nonneg (by omega)];omega
  obtain⟨r,hrr⟩:∃r,r=s % 10:=⟨_,rfl⟩;obtain⟨u,huu⟩:∃u,u=s / 10:=⟨_,rfl⟩;rw[← hrr]at hr hq;rw[← huu]at hqo hq;have w2:IntKind.i64.wrap (r:Int)=(r:Int):=wI;have w3:IntKind.i64.wrap (u:Int)=(u:Int):=wI;have w4:IntKind.i64.wrap ((i:Int)+1)=(i:Int)+1:=wI;have hap:=fun b=>NT (b:=b) (M:=M) (A:=o) (nk:=decide (o=[])) r (by simp) (by omega)
  have hel:∀H:aA,elems H 1 (.fsl [.int .i64 (r:Int)] 1)=some ([.int .i64 (r:Int)],1):=fun H=>by simp[elems]
  have hMo:(M++[.row 1 (bO o) (decide (o=[]))])[id]? =some (.row 1 (bO C) false):=by rw[List.getElem?_append_left hid];exact hM
  simp[Yw,g0,g3,g4,g5,h,h', ↓hMo,kX,hld,w1,hr,hqo,w2,w3,w4,hap,hel];refine ih (i+1,o++[r],u) _ _ (by simp;omega) ?_;simp[g0];refine⟨by omega,by omega,by omega,?_⟩;simpa using hq
 ·obtain rfl:i=n:=by omega
  have hdr:(C.take i).drop i=[]:=by simp
  rw[hdr,fI]at hq;generalize fI (C.take i) 0=R at *;simp[Yw,g0,g3,g4,g5];refine cH (fun(q:List Nat×Nat×Nat) e H'=>H'=M++[.row 1 (bO q.1) (decide (q.1=[]))]∧q.2.1<=q.2.2∧q.2.2<=255∧q.1.length+q.2.2<=i+255∧e.get 3=.osl M.length q.1.length 0 q.1.length∧e.get 4=.int .i64 (q.2.1:Nat)∧q.1++kO q.2.2 q.2.1=R) (fun q=>q.2.2) ?_ (o,c,c) (by simp[g3,g4,hq];omega);rintro⟨o,c,f⟩ e H' ⟨rfl,hcf,hf,hof,g3,g4,hq⟩ L ih;simp only at hcf hf hof g3 g4 hq ih
  cases f with
  | zero=>
   obtain rfl:c=0:=by omega
   rw[kO,List.append_nil]at hq;subst hq;have htr:=Hl hX (M:=M++[.row 1 (bO o) (decide (o=[]))]) (id:=M.length) (off:=0) (n:=o.length) (C:=o.map fun d:Nat=>(d:Int)) (nl:=decide (o=[])) (by simp[bO]) (by simp) (by intro q;simp at q;simp[q]) (by simp;omega);simp at htr;simp[Eu,aB,g3,g4,htr,Z7]
  | succ f=>
   rw[kO]at hq;by_cases h0:c=0
   ·rw[if_pos h0,List.append_nil]at hq
    subst hq h0;have htr:=Hl hX (M:=M++[.row 1 (bO o) (decide (o=[]))]) (id:=M.length) (off:=0) (n:=o.length) (C:=o.map fun d:Nat=>(d:Int)) (nl:=decide (o=[])) (by simp[bO]) (by simp) (by intro q;simp at q;simp[q]) (by simp;omega);simp at htr;simp[Eu,aB,g3,g4,htr,Z7]
   ·rw[if_neg h0]at hq
    have hp:0<c:=by omega
    have hp':(0:Int)<c:=by omega
    have hr:(c:Int).tmod 10=((c % 10:Nat):Int):=by rw[Int.tmod_eq_emod_of_nonneg (by omega)];omega
    have hqo:(c:Int).tdiv 10=((c / 10:Nat):Int):=by rw[Int.tdiv_eq_ediv_of_nonneg (by omega)];omega
    obtain⟨r,hrr⟩:∃r,r=c % 10:=⟨_,rfl⟩;obtain⟨u,huu⟩:∃u,u=c / 10:=⟨_,rfl⟩;rw[← hrr]at hr hq;rw[← huu]at hqo hq;have w2:IntKind.i64.wrap (r:Int)=(r:Int):=wI;have w3:IntKind.i64.wrap (u:Int)=(u:Int):=wI;have hap:=fun b=>NT (b:=b) (M:=M) (A:=o) (nk:=decide (o=[])) r (by simp) (by omega)
    have hel:∀H:aA,elems H 1 (.fsl [.int .i64 (r:Int)] 1)=some ([.int .i64 (r:Int)],1):=fun H=>by simp[elems]
    simp[Eu,g3,g4,hp,hp',hr,hqo,w2,w3,hap,hel];refine ih (o++[r],u,f) _ _ (by simp) ?_;simp;refine⟨by omega,by omega,by omega,?_⟩;simpa using hq
end
section
variable {X:Ctx}
def eR:List Nat->List Nat×Nat
 | []=>([],0)
 | d::r=>(((eR r).2*10+d) / 4294967296::(eR r).1,((eR r).2*10+d) % 4294967296)
theorem Mg:∀l,(eR l).1.length=l.length
 | []=>rfl
 | d::r=>by simp[eR,Mg r]
theorem Ap:∀l,(eR l).2<4294967296
 | []=>by decide
 | d::r=>Nat.mod_lt _ (by decide)
theorem KS:∀l,val l=4294967296*val (eR l).1+(eR l).2
 | []=>rfl
 | d::r=>by
  rw[val,KS r];simp only[eR,val];generalize(eR r).2=a;generalize val (eR r).1=b;have:=Nat.div_add_mod (a*10+d) 4294967296;generalize(a*10+d) / 4294967296=q at *;generalize(a*10+d) % 4294967296=m at *;have e1:4294967296*(q+10*b)=4294967296*q+10*(4294967296*b):=by rw[Nat.mul_add,Nat.mul_left_comm]
  rw[e1];generalize 4294967296*q=x at *;generalize 4294967296*b=y at *;omega
theorem KT:∀l,(∀d∈l,d<=255)->∀d∈(eR l).1,d<=10
 | [],_=>by simp[eR]
 | d::r,h=>by
  intro x hx;rcases List.mem_cons.1 hx with rfl | hx
  ·have h1:=h d (List.mem_cons_self ..)
   have h2:=Ap r;have:(eR r).2*10+d<4294967296*11:=by omega
   have:=Nat.div_lt_of_lt_mul this;omega
  ·exact KT r (fun y hy=>h y (List.mem_cons_of_mem _ hy)) x hx
theorem AQ:∀l,(∀d∈l,d<=255)->9*val l+255<=255*10 ^ l.length
 | [],_=>by simp[val]
 | d::r,h=>by
  have h1:=h d (List.mem_cons_self ..);have h2:=AQ r fun y hy=>h y (List.mem_cons_of_mem _ hy)
  simp only[val,List.length_cons,Nat.pow_succ];omega
theorem AP:∀(l:List Nat) (k:Nat) (h:k<l.length),l[k]≠0->10 ^ k<=val l
 | d::r,0,_,h0=>by simp at h0;simp[val];omega
 | d::r,k+1,h,h0=>by
  have h1:k<r.length:=by simpa using h
  have:=AP r k h1 (by simpa using h0);simp only[val,Nat.pow_succ];omega
def kF(l:List Nat):Nat:=iX (l.map fun d:Nat=>(d:Int)) l.length
theorem AZ(l:List Nat):kF l<=l.length:=Gj _ _
def gY(l:List Nat):List Nat:=fI (eR l).1 0
theorem zEG {l:List Nat}(h:∀d∈l,d<=255)(hl:l≠ []):kF (gY l)<l.length:=by
 have h1:=KS l;have h2:=AQ l h;have h3:=MA (eR l).1 0;have hpos:0<l.length:=List.length_pos_iff.2 hl;rcases Gk ((gY l).map fun d:Nat=>(d:Int)) (gY l).length with h4 | h4
 ·show kF (gY l)<_
  unfold kF;omega
 ·apply Classical.byContradiction
  intro hn;have h5:l.length<=kF (gY l):=by omega
  have h6:=AZ (gY l);have h7:kF (gY l)-1<(gY l).length:=by omega
  have h8:(gY l)[kF (gY l)-1]≠0:=by
   intro q;apply h4;show((gY l).map fun d:Nat=>(d:Int))[kF (gY l)-1]?.getD 0=0;simp[h7,q]
  have h9:=AP _ _ h7 h8;have h10:10 ^ (l.length-1)<=10 ^ (kF (gY l)-1):=Nat.pow_le_pow_right (by decide) (by omega);have h11:10 ^ l.length=10 ^ (l.length-1)*10:=by rw[← Nat.pow_succ];congr 1;omega
  unfold gY at h9;rw[h3]at h9;rw[h11]at h2;generalize 10 ^ (l.length-1)=P at *;have:P<=val (eR l).1:=by
   refine Nat.le_trans h10 ?_;simpa [gY]using h9
  generalize val (eR l).1=V at *;omega
def jY:Nat->List Nat->List Nat
 | 0,_=>[]
 | f+1,l=>if l=[]then []else(eR l).2::jY f ((gY l).take (kF (gY l)))
theorem IG:∀f l,∀x∈jY f l,x<4294967296
 | 0,l=>by simp[jY]
 | f+1,l=>by
  rw[jY];split
  ·simp
  ·intro x hx
   rcases List.mem_cons.1 hx with rfl | hx
   ·exact Ap l
   ·exact IG f _ x hx
theorem IH:∀f l,(jY f l).length<=f
 | 0,l=>by simp[jY]
 | f+1,l=>by
  rw[jY];split
  ·simp
  ·have:=IH f ((gY l).take (kF (gY l)));simp;omega
end
section
variable {X:Ctx}
set_option maxHeartbeats 1000000 in
theorem zFC(hX:CX X){M0:aA}{id m b:Nat}{D:List Nat}{K:List Fr}{Q:Ex->St->Prop}(hid:id<M0.length)(hm:m<=D.length)(hd:∀d∈D,d<=255)(hDl:D.length<=100000):∀(j:Nat) (env:Env),j<=m->env.get 4=.osl id D.length 0 m->env.get 5=.int .i64 ((eR ((D.take m).drop j)).2:Nat)->env.get 6=.int .i64 ((j:Int)-1)->(∀env':Env,env'.get 3=env.get 3->env'.get 4=.osl id D.length 0 m->env'.get 5=.int .i64 ((eR (D.take m)).2:Nat)->YX X b none (.exit 2) K ⟨env',M0.set id (.row 1 (bO ((eR (D.take m)).1++D.drop m)) false),[]⟩ Q)->YS X b none (.loop Ey) K ⟨env,M0.set id (.row 1 (bO (D.take j++(eR ((D.take m).drop j)).1++D.drop m)) false),[]⟩ Q:=by
 intro j
 induction j with
 | zero=>
  intro env hj g4 g5 g6 hk;refine bA fun L hL=>?_
  simp at g5;simp[Ey,g4,g5,g6];refine hk _ ?_ ?_ ?_
  ·simp
  ·simp[g4]
  ·simp[g5]
 | succ j ih=>
  intro env hj g4 g5 g6 hk;have hjD:j<D.length:=by omega
  have hdj:=hd _ (List.getElem_mem hjD);have hdr:(D.take m).drop j=D[j]::(D.take m).drop (j+1):=by rw[List.drop_eq_getElem_cons (by simp;omega)];simp
  have hql:=Mg ((D.take m).drop (j+1));have hlt:=Ap ((D.take m).drop (j+1));have ih':=ih;rw[hdr]at ih';simp only[eR]at ih';generalize hqs:(eR ((D.take m).drop (j+1))).1=qs at *;generalize hrest:(eR ((D.take m).drop (j+1))).2=rest at *;have hrow:D.take (j+1)=D.take j++[D[j]]:=List.take_succ_eq_append_getElem hjD;have hlen:(D.take (j+1)++qs++D.drop m).length=D.length:=by simp[hql];omega
  have hlen':(D.take (j+1)++(qs++D.drop m)).length=D.length:=by rw[← List.append_assoc];exact hlen
  generalize hx:D[j]=x at *;obtain⟨t,ht⟩:∃t,t=rest*10+x:=⟨_,rfl⟩;rw[← ht]at ih';have hdm:=Nat.div_add_mod t 4294967296;have hml:=Nat.mod_lt t (show 4294967296>0 by decide);obtain⟨q,hq⟩:∃q,q=t / 4294967296:=⟨_,rfl⟩;obtain⟨r,hr⟩:∃r,r=t % 4294967296:=⟨_,rfl⟩;have hfd:Int.fdiv (t:Int) 4294967296=(q:Int):=by rw[Int.fdiv_eq_ediv_of_nonneg _ (by omega)];omega
  rw[← hq, ← hr]at hdm ih';rw[← hr]at hml;have hq11:q<=11:=by omega
  have w1:IntKind.i64.wrap ((rest:Int)*10)=(rest:Int)*10:=wI;have w2:IntKind.i64.wrap ((rest:Int)*10+(x:Int))=(t:Int):=by rw[wrap_i64 (by omega) (by omega)];omega
  have w3:IntKind.i64.wrap ((q:Int)*4294967296)=(q:Int)*4294967296:=wI;have w4:IntKind.i64.wrap ((t:Int)-(q:Int)*4294967296)=(r:Int):=by rw[wrap_i64 (by omega) (by omega)];omega
  have w5:IntKind.i64.wrap ((j:Int)-1)=(j:Int)-1:=wI;have hjm:(j:Int)<m:=by omega
  have hjm':j<m:=by omega
  have g6':env.get 6=.int .i64 (j:Int):=by rw[g6];congr 1;omega
  have hld:aJ false 1 ((bO (D.take (j+1)++(qs++D.drop m))).drop j)=some (.int .i64 (x:Int)):=by
   rw[u5 (by omega)];congr 3;rw[List.getElem_append_left (by rw[List.length_take];omega)];simp[hx]
  have hld2:aJ false 1 ((bO (D.take j++(q::(qs++D.drop m)))).drop j)=some (.int .i64 (q:Int)):=by
   rw[u5 (by simp;omega)];congr 3;rw[List.getElem_append_right (by rw[List.length_take];omega)];simp[Nat.min_eq_left (show j<=D.length by omega)]
  have hspl:List.take j (bO (D.take (j+1)++(qs++D.drop m)))++ .int .i64 (q:Int)::List.drop (j+1) (bO (D.take (j+1)++(qs++D.drop m)))=bO (D.take j++(q::(qs++D.drop m))):=by
   rw[hrow];simp[bO,List.take_append,List.drop_append,Nat.min_eq_left (show j<=D.length by omega)]
  have hi:In M0 id:=hid;have hbits:(2:Int) ^ (min 32 IntKind.i64.bits)=4294967296:=by decide
  have hj1:j+1<=D.length:=by omega
  have hl2:min j D.length+(D.length-(j+1)+1)=D.length:=by omega
  have hl3:min j D.length+(qs.length+(D.length-m)+1)=D.length:=by rw[hql];simp;omega
  have hst:∀H:aA,storable b H id [.int .i64 (q:Int)]=true:=fun H=>aH (fun n=>by simp) (by simp)
  refine bA fun L hL=>?_
  simp[Ey,g4,g5,g6',hi,kX,hlen',hjm,hjm',hld,hld2,hspl,hst,w1,w2,w3,w4,w5,hfd,hbits,hj1,hl2,hl3];rw[hL];have e:D.take j++(q::qs)++D.drop m=D.take j++q::(qs++D.drop m):=by simp
  rw[e]at ih';refine ih' _ (by omega) ?_ ?_ ?_ fun env' a b c=>hk env' ?_ b c
  ·simp[g4]
  ·simp
  ·simp
  ·rw[a];simp
theorem NU {b id n m:Nat}{H:aA}{A B:List D}{nk:Bool}(h:H[id]? =some (.row 1 A nk))(hA:A.length=n)(hB:B.length=m)(hn:nk=true->n=0)(hl:n+m<=100000000)(hu:∀k,D.aD k B=true)(ho:D.aF B=true):cR b H 1 8 (.osl id n 0 n) B m=some (.osl id (n+m) 0 (n+m),H.set id (.row 1 (A++B) (nk && decide (m=0)))):=by
 rcases Nat.eq_zero_or_pos m with rfl | hm
 ·have:B=[]:=List.eq_nil_of_length_eq_zero hB
  subst this;simp[cR,h,hA,aH hu ho,aX,D9 h];exact⟨hn,by omega,by omega⟩
 ·have hm0:m≠0:=by omega
  have:=kB (b:=b) (es:=1) (bytes:=8) (m:=m) h hA (by omega) hn (by unfold aX;omega) (by unfold aX;omega) (aH hu ho) hm0;rw[this];simp[hm0]
def dV(C:List Nat):List D:=(C.map fun d:Nat=>(d:Int)).map (D.int .u32)
theorem Gb(C:List Nat):(dV C).length=C.length:=by simp[dV]
theorem QG(A B:List Nat):dV (A++B)=dV A++dV B:=by simp[dV]
theorem QF(a:Nat):dV [a]=[.int .u32 (a:Int)]:=rfl
theorem QH(C:List Nat)(n:Nat):D.aD n (dV C)=true:=by unfold dV;exact U9 _
theorem QI(C:List Nat):D.aF (dV C)=true:=by unfold dV;exact Z6 _
theorem apU {b:Nat}{M E:aA}{r2:Chunk}{A:List Nat}{nk:Bool}(d:Nat)(hnk:nk=true->A=[])(hn:A.length<=10000000):cR b (M++(r2:: .row 1 (dV A) nk::E)) 1 4 (.osl (M.length+1) A.length 0 A.length) [.int .u32 (d:Int)] 1=some (.osl (M.length+1) (A.length+1) 0 (A.length+1),M++(r2:: .row 1 (dV (A++[d])) false::E)):=by
 rw[kB (hw:=A.length) (es:=1) (bytes:=4) (m:=1) (ys:=[.int .u32 (d:Int)]) (cs:=dV A) (nil:=nk) (n:=A.length) (by simp) (Gb A) (by omega) (fun q=>by rw[hnk q];rfl) (by unfold aX;omega) (by unfold aX;omega) (aH (fun n=>by simp) (by simp)) (by omega)];rw[QG,QF];simp
theorem zHF {H:aA}{n f:Nat}(C:List Nat):bN (Go.AM.fz H n (f+1)) (dV C)=some (dV C):=by unfold dV;exact Ku _
theorem zOy {H:aA}{b id:Nat}{l:List Nat}(hb:b<=id)(h:H[id]? =some (.row 1 (dV l) (decide (l=[])))):fz H b 64 (.osl id l.length 0 l.length)=some (SL .nil (dV l) l.length):=by
 have htake:List.take l.length (dV l)=dV l:=List.take_of_length_le (by rw[Gb];exact Nat.le_refl _);rw[aB,if_neg (by omega),h];by_cases hl:l=[]
 ·subst hl;simp[SL]
 ·have hne:l.length≠0:=fun q=>hl (List.eq_nil_of_length_eq_zero q)
  obtain⟨n,hn⟩:∃n,l.length=n+1:=⟨l.length-1,by omega⟩;simp[hl,Gb,htake,zHF,QH,QI];rw[hn];rfl
theorem WC {M E:aA}{r2 r3:Chunk}{k:Nat}{c:Chunk}:(M++(r2::r3::E)).set (M.length+(k+2)) c=M++(r2::r3::E.set k c):=by rw[xT];rfl
set_option maxHeartbeats 2000000 in
theorem ZC(hX:CX X){M:aA}{id off n:Nat}{C:List Nat}{nl:Bool}(hM:M[id]? =some (.row 1 (bO C) nl))(hn:off+n<=C.length)(hnl:nl=true->n=0)(hl:C.length<=100000)(hd:∀d∈C,d<=255)(hn2:n<=10000):cF X Ks [.osl id C.length off n] M=some (SL .nil (dV (jY n ((C.drop off).take n))) (jY n ((C.drop off).take n)).length,M):=by
 refine zMe hX ?_;have hid:id<M.length:=(List.getElem?_eq_some_iff.1 hM).1;have hMo:∀E:aA,(M++E)[id]? =some (.row 1 (bO C) nl):=fun E=>by rw[List.getElem?_append_left hid];exact hM
 have hll:((C.drop off).take n).length=n:=by simp;omega
 have hld:∀d∈(C.drop off).take n,d<=255:=fun d h=>hd d (List.mem_of_mem_drop (List.mem_of_mem_take h))
 have hel:∀E:aA,elems (M++E) 1 (.osl id C.length off n)=some (bO ((C.drop off).take n),n):=fun E=>by
  simp only[elems,hMo];rw[if_pos ⟨trivial,kX C,by omega,hnl⟩];simp[bO]
 generalize(C.drop off).take n=l at *;subst hll;have hap:=fun(b:Nat) (r2 r3:Chunk)=>NU (b:=b) (id:=M.length+2) (H:=M++[r2,r3,.row 1 [] true]) (n:=0) (m:=l.length) (A:=[]) (B:=bO l) (nk:=true) (by simp) rfl (kX l) (by simp) (by omega) (Z7 l) (HH l)
 simp[Zc,hel,hap];refine cH (fun(q:Nat×List Nat×List Nat×Nat×Nat×aA×Bool) e H'=>H'=M++(.row 1 [] true:: .row 1 (dV q.2.1) (decide (q.2.1=[]))::q.2.2.2.2.2.1)∧q.2.2.2.2.2.1[q.2.2.2.2.1]? =some (.row 1 (bO q.2.2.1) q.2.2.2.2.2.2)∧q.2.2.2.1<=q.2.2.1.length∧q.2.2.2.1<=q.1∧q.2.1.length+q.1<=10000∧(∀d∈q.2.2.1,d<=255)∧q.2.2.1.length<=20000∧(q.2.2.2.2.2.2=true->q.2.2.1=[])∧e.get 3=.osl (M.length+1) q.2.1.length 0 q.2.1.length∧e.get 4=.osl (M.length+(q.2.2.2.2.1+2)) q.2.2.1.length 0 q.2.2.2.1∧q.2.1++jY q.1 (q.2.2.1.take q.2.2.2.1)=jY l.length l) (fun q=>q.1) ?_ (l.length,[],l,l.length,0,[.row 1 (bO l) (decide (l=[]))],decide (l=[])) (by simp[dV];exact⟨by omega,hld,by omega⟩);generalize jY l.length l=R at *;rintro⟨f,out,D,m,k,E,nl'⟩ e H' ⟨rfl,hE,hm,hmf,hof,hDd,hDl,hnl',g3,g4,hq⟩ L ih;simp only at hE hm hmf hof hDd hDl hnl' g3 g4 hq ih;rcases Nat.eq_zero_or_pos m with rfl | hmp
 ·have hR:R=out:=by
   rw[← hq]
   cases f <;> simp[jY]
  subst hR;have hf:=zOy (H:=M++(.row 1 [] true:: .row 1 (dV R) (decide (R=[]))::E)) (b:=M.length) (id:=M.length+1) (l:=R) (by omega) (by simp);simp[Zb,g3,g4,hf]
 ·obtain⟨f',rfl⟩:∃f',f=f'+1:=⟨f-1,by omega⟩
  obtain rfl:nl'=false:=by
   cases nl' with
   | false=>rfl
   | true=>rw[hnl' rfl]at hm;simp at hm;omega
  have htl:(D.take m).length=m:=by simp;omega
  have htd:∀d∈D.take m,d<=255:=fun d h=>hDd d (List.mem_of_mem_take h)
  have htn:D.take m≠ []:=fun h=>by rw[h]at htl;simp at htl;omega
  rw[jY,if_neg htn]at hq;have hnx:=zEG htd htn;rw[htl]at hnx;have hql:=Mg (D.take m);rw[htl]at hql;have hqd:=KT _ htd;have hrl:=Ap (D.take m);have hin:=fun(b:Nat) (K:List Fr) (Q:Ex->St->Prop)=>zFC hX (M0:=M++(.row 1 [] true:: .row 1 (dV out) (decide (out=[]))::E)) (id:=M.length+(k+2)) (m:=m) (b:=b) (D:=D) (K:=K) (Q:=Q) (by have:=(List.getElem?_eq_some_iff.1 hE).1;simp;omega) hm hDd (by omega) m
  have hset:(M++(.row 1 [] true:: .row 1 (dV out) (decide (out=[]))::E)).set (M.length+(k+2)) (.row 1 (bO D) false)=M++(.row 1 [] true:: .row 1 (dV out) (decide (out=[]))::E):=dE (by rw[gJ];simpa using hE);have hd0:(D.take m).drop m=[]:=List.drop_eq_nil_of_le (by omega);rw[hd0]at hin;simp only[eR,List.append_nil,List.take_append_drop,hset,WC]at hin;unfold gY at hnx hq;generalize hqs:(eR (D.take m)).1=qs at *;generalize(eR (D.take m)).2=rest at *;have hcl:=Nc qs 0 (fun x hx=>by have:=hqd x hx;omega) (by omega);have hcd:=MB qs 0;have hkE:=(List.getElem?_eq_some_iff.1 hE).1;have htq:(qs++D.drop m).take m=qs:=by rw[← hql];simp
  have hcar:=fun(r3:Chunk)=>ZB hX (M:=M++(.row 1 [] true::r3::E.set k (.row 1 (bO (qs++D.drop m)) false))) (id:=M.length+(k+2)) (n:=m) (C:=qs++D.drop m) (nl:=false) (by rw[gJ];simp[hkE]) (by simp;omega) (by simp) (by simp;omega) (fun d h=>by
   rcases List.mem_append.1 h with h | h
   ·have:=hqd d h;omega
   ·exact hDd d (List.mem_of_mem_drop h))
  rw[htq]at hcar;have hlen:(qs++D.drop m).length=D.length:=by simp;omega
  rw[hlen]at hcar;have hau:=fun b=>apU (b:=b) (M:=M) (E:=E.set k (.row 1 (bO (qs++D.drop m)) false)) (r2:=.row 1 [] true) (A:=out) (nk:=decide (out=[])) rest (by simp) (by omega)
  have hel2:∀H:aA,elems H 1 (.fsl [.int .u32 (rest:Int)] 1)=some ([.int .u32 (rest:Int)],1):=fun H=>by simp[elems]
  have w1:IntKind.i64.wrap ((m:Int)-1)=(m:Int)-1:=wI;have wu:IntKind.u32.wrap (rest:Int)=(rest:Int):=wrap_u32 (by omega) (by omega);obtain⟨nl2,hnl2,hcar2⟩:=hcar (.row 1 (dV (out++[rest])) false);have hmp':(0:Int)<m:=by omega
  simp[Zb,g3,g4,hmp,hmp',w1];refine hin _ _ _ _ (Nat.le_refl _) ?_ ?_ ?_ fun env' j3 j4 j5=>?_
  ·simp[g4]
  ·simp
  ·simp
  simp at j3;rw[g3]at j3;simp[j3,j4,j5,wu,z20,hel2,hau,hcar2];refine ih (f',out++[rest],fI qs 0,kF (fI qs 0),E.length,E.set k (.row 1 (bO (qs++D.drop m)) false)++[.row 1 (bO (fI qs 0)) nl2],nl2) _ _ (by simp) ?_;have htn2:=AZ (fI qs 0);refine⟨by simp,?_,htn2,by show kF (fI qs 0)<=f';omega,by simp;omega,fun d h=>by have:=hcd d h;omega,by show(fI qs 0).length<=20000;omega,hnl2,?_,?_,?_⟩
  ·rw[List.getElem?_append_right (by simp)];simp
  ·simp
  ·simp[kF]
  ·rw[← hq];simp
end
section
variable {X:Ctx}
def J2(neg:Bool)(l:List Nat)(e:Int):Dec:=.mk neg .nil (l.map fun d:Nat=>(d:Int)) e
theorem zFf(neg:Bool)(l:List Nat)(e:Int):(J2 neg l e).cells=[.bool neg,SL .nil (dV l) l.length,.int .i64 e]:=by simp[J2,Dec.cells,dV]
theorem zFe {neg:Bool}{l:List Nat}{e:Int}(h:∀x∈l,x<4294967296)(hl:l.length<=100000):(J2 neg l e).wf:=by
 unfold Dec.wf J2 Dec.coef;refine⟨?_,by simp;omega⟩;intro x hx;simp at hx;obtain⟨y,hy,rfl⟩:=hx;have:=h y hy;omega
theorem rX:dN.cells=[.bool false,.nilsl,.int .i64 0]:=by simp[dN,Dec.cells,SL]
def zI(neg:Bool)(C:List Nat)(m off:Nat)(e:Int):Dec×Int:=if 300<m-off then(dN,51)else if e < -1000∨1000<e then(dN,52)else(J2 neg (jY (m-off) ((C.drop off).take (m-off))) e,0)
def uL(neg:Bool)(C:List Nat)(m:Nat):Nat->Nat->Int->Dec×Int
 | 0,off,e=>zI neg C m off e
 | f+1,off,e=>if C[off]?.getD 0=0 then uL neg C m f (off+1) (IntKind.i64.wrap (e+1))else zI neg C m off e
def rN(neg:Bool)(C:List Nat)(n:Nat)(e:Int):Dec×Int:=if iX (C.map fun d:Nat=>(d:Int)) n=0 then(dN,0)else uL neg C (iX (C.map fun d:Nat=>(d:Int)) n) (iX (C.map fun d:Nat=>(d:Int)) n) 0 e
theorem KE {neg:Bool}{C:List Nat}{m off:Nat}{e:Int}:(zI neg C m off e).1.wf:=by
 unfold zI;split
 ·exact rW
 ·split
  ·exact rW
  ·have:=IH (m-off) ((C.drop off).take (m-off))
   exact zFe (IG _ _) (by omega)
theorem CJ {neg:Bool}{C:List Nat}{m:Nat}:∀f off e,(uL neg C m f off e).1.wf
 | 0,off,e=>KE
 | f+1,off,e=>by
  rw[uL];split
  ·exact CJ f _ _
  ·exact KE
theorem HX {neg:Bool}{C:List Nat}{n:Nat}{e:Int}:(rN neg C n e).1.wf:=by
 unfold rN;split
 ·exact rW
 ·exact CJ _ _ _
theorem VP {id hw off n:Nat}(h:1<=n):iD 1 (.osl id hw off n) (some (.int .i64 1)) none none=some (.osl id hw (off+1) (n-1)):=by
 have h':(1:Int)<=n:=by omega
 simp[iD,dY,h,h']
set_option maxHeartbeats 2000000 in
theorem ZA(hX:CX X){M:aA}{id n:Nat}{C:List Nat}{nl:Bool}(hM:M[id]? =some (.row 1 (bO C) nl))(hn:n<=C.length)(hnl:nl=true->n=0)(hl:C.length<=10000)(hd:∀d∈C,d<=255)(neg:Bool)(ex:Int):cF X Kq [.agg [.bool neg,.osl id C.length 0 n,.int .i64 ex]] M=some (.tup [.agg (rN neg C n ex).1.cells,.int .i64 (rN neg C n ex).2],M):=by
 refine zMb hX ?_;have hid:id<M.length:=(List.getElem?_eq_some_iff.1 hM).1;have hMo:∀E:aA,(M++E)[id]? =some (.row 1 (bO C) nl):=fun E=>by rw[List.getElem?_append_left hid];exact hM
 have htr:=fun E:aA=>Hl hX (M:=M++E) (id:=id) (off:=0) (n:=n) (C:=C.map fun d:Nat=>(d:Int)) (nl:=nl) (by rw[hMo];rfl) (by simpa using hn) hnl (by simp;omega)
 have htl:=Gk (C.map fun d:Nat=>(d:Int)) n;have htle:=Gj (C.map fun d:Nat=>(d:Int)) n;simp only[List.drop_zero,List.length_map]at htr;unfold rN;generalize iX (C.map fun d:Nat=>(d:Int)) n=m at *;have hst:∀H:aA,storable M.length H (M.length+1) [.bool false,.nilsl,.int .i64 0]=true:=fun H=>aH (fun n=>by simp) (by simp)
 have hst0:storable M.length M M.length [.bool neg,.osl id C.length 0 n,.int .i64 ex]=true:=bG (Nat.le_refl _) (by simp[Go.AM.D.aD,Go.AM.D.under,hid]) (by simp[Go.AM.D.aF,Go.AM.D.one]);by_cases h0:m=0
 ·subst h0
  simp[Et,aB,eG,hid,htr,hst,hst0,rX,kL]
 ·rw[if_neg h0]
  have h0':¬(m:Int)=0:=by omega
  simp[Et,eG,hid,htr,h0,h0',hst0];have hlast:C[m-1]?.getD 0≠0:=by
   have:=htl.resolve_left h0;intro q;apply this;have h1:m-1<C.length:=by omega
   simp[h1]at q;simp[h1,q]
  generalize hR:uL neg C m m 0 ex=R;refine cH (fun(q:Nat×Int) v H'=>H'=M++[.box [.bool neg,.osl id C.length 0 n,.int .i64 q.2],.box [.bool false,.nilsl,.int .i64 0]]∧q.1<m∧v.get 1=.ptr M.length 0∧v.get 2=.ptr (M.length+1) 0∧v.get 4=.osl id C.length q.1 (m-q.1)∧uL neg C m (m-q.1) q.1 q.2=R) (fun q=>m-q.1) ?_ (0,ex) (by simp[hR];omega);clear hR hst0;rintro⟨off,e⟩ v H' ⟨rfl,ho,g1,g2,g4,hq⟩ L ih;simp only at ho g4 hq ih;have hoC:off<C.length:=by omega
  obtain rfl:nl=false:=by
   cases nl with
   | false=>rfl
   | true=>have:=hnl rfl;omega
  have hld:=u5 hoC;obtain⟨f,hf⟩:∃f,m-off=f+1:=⟨m-off-1,by omega⟩;rw[hf,uL]at hq;rw[hf]at g4;have hgo:C[off]?.getD 0=C[off]:=by simp[hoC]
  rw[hgo]at hq;generalize hx:C[off]=x at *;by_cases hz:x=0
  ·subst hz
   rw[if_pos rfl]at hq;have hom:off+1<m:=by
    rcases Nat.lt_or_ge (off+1) m with h | h
    ·exact h
    ·exfalso
     have:m-1=off:=by omega
     rw[this,hgo]at hlast;exact hlast rfl
   have hsl:=VP (id:=id) (hw:=C.length) (off:=off) (n:=f+1) (by omega);simp only[Nat.add_sub_cancel]at hsl;simp[B4,g1,g2,g4, ↓hMo,kX,hld,hsl];refine ih (off+1,IntKind.i64.wrap (e+1)) _ _ (by simp;omega) ?_;have hf2:m-(off+1)=f:=by omega
   simp[g1,g2,hf2,hq,hom]
  ·rw[if_neg hz]at hq
   have hz':¬(x:Int)=0:=by omega
   have hLm:=fun E:aA=>ZC hX (M:=M++E) (id:=id) (off:=off) (n:=m-off) (C:=C) (nl:=false) (by rw[hMo]) (by omega) (by simp) (by omega) hd (by omega)
   rw[hf]at hLm;have hfd:zI neg C m off e=R:=hq;unfold zI at hfd;rw[hf]at hfd;by_cases h3:300<f+1
   ·have h3':(300:Int)<(f:Int)+1:=by omega
    rw[if_pos h3]at hfd;simp[B4,aB,g1,g2,g4, ↓hMo,kX,hld,hz,hz',h3,h3',eG,kL, ← hfd,rX,hst]
   ·have h3':¬(300:Int)<(f:Int)+1:=by omega
    rw[if_neg h3]at hfd;by_cases h4:e < -1000
    ·rw[if_pos (Or.inl h4)]at hfd
     simp[B4,aB,g1,g2,g4, ↓hMo,kX,hld,hz,hz',h3,h3',h4,eG,kL, ← hfd,rX,hst]
    ·by_cases h5:1000<e
     ·rw[if_pos (Or.inr h5)]at hfd
      simp[B4,aB,g1,g2,g4, ↓hMo,kX,hld,hz,hz',h3,h3',h4,h5,eG,kL, ← hfd,rX,hst]
     ·rw[if_neg (fun h=>h.elim h4 h5)]at hfd
      have hst2:∀(H:aA) (l:List Nat),storable M.length H (M.length+1) [.bool neg,SL .nil (dV l) l.length,.int .i64 e]=true:=fun H l=>aH (fun n=>by simp) (by simp)
      simp[B4,aB,g1,g2,g4, ↓hMo,kX,hld,hz,hz',h3,h3',h4,h5,eG,kL, ← hfd,zFf,hLm,hst2]
end
section
variable {X:Ctx}
def dg(c:UInt8):Nat:=(IntKind.u8.wrap ((c.toNat:Int)-48)).toNat
theorem zJl:(List.range 256).all (fun c=>decide (0<=IntKind.u8.wrap ((c:Int)-48)) && decide (IntKind.u8.wrap ((c:Int)-48)<=255))=true:=by decide+kernel
theorem Mj(c:UInt8):IntKind.u8.wrap ((c.toNat:Int)-48)=(dg c:Int)∧dg c<=255:=by
 have h:=List.all_eq_true.1 zJl c.toNat (List.mem_range.2 c.toNat_lt);simp only[Bool.and_eq_true,decide_eq_true_eq]at h;unfold dg;omega
def iZ(s:Bs):Nat->Nat->List Nat->Bool->Int->Nat×List Nat×Int
 | 0,i,ds,_,ex=>(i,ds,ex)
 | f+1,i,ds,pt,ex=>if h:i<s.length then
   if(s[i].toNat:Int)=101∨(s[i].toNat:Int)=69 then(i,ds,ex)
   else if(s[i].toNat:Int)=46 then iZ s f (i+1) ds true ex
   else if(s[i].toNat:Int)=45 then iZ s f (i+1) ds pt ex
   else iZ s f (i+1) (dg s[i]::ds) pt (if pt then IntKind.i64.wrap (ex-1)else ex)
  else(i,ds,ex)
theorem Z3 {s:Bs}:∀f i ds pt ex,(∀d∈ds,d<=255)->i<=s.length->ds.length<=i->(∀d∈(iZ s f i ds pt ex).2.1,d<=255)∧(iZ s f i ds pt ex).1<=s.length∧(iZ s f i ds pt ex).2.1.length<=(iZ s f i ds pt ex).1
 | 0,i,ds,pt,ex,h1,h2,h3=>⟨h1,h2,h3⟩
 | f+1,i,ds,pt,ex,h1,h2,h3=>by
  rw[iZ];split
  ·rename_i h
   split
   ·exact⟨h1,h2,h3⟩
   ·split
    ·exact Z3 f _ _ _ _ h1 h (by omega)
    ·split
     ·exact Z3 f _ _ _ _ h1 h (by omega)
     ·refine Z3 f _ _ _ _ (fun d hd=>?_) h (by simp;omega)
      rcases List.mem_cons.1 hd with rfl | hd
      ·exact(Mj _).2
      ·exact h1 d hd
  ·exact⟨h1,h2,h3⟩
abbrev F8(M:aA)(neg:Bool)(ex:Int)(E:aA):aA:=M++(.box [.bool false,.nilsl,.int .i64 0]:: .row 1 [] true:: .box [.bool neg,.osl (M.length+1) 0 0 0,.int .i64 ex]::E)
theorem zM6 {b k:Nat}{M E:aA}{c0 c1 c2:Chunk}{A:List Nat}{nk:Bool}(d:Nat)(hE:E[k]? =some (.row 1 (bO A) nk))(hnk:nk=true->A=[])(hl:A.length<=1000000):fJ (elems (M++(c0::c1::c2::(E++[.row 1 [.int .i64 (d:Int)] false]))) 1 (.osl (M.length+(k+3)) A.length 0 A.length)) (fun q=>cR b (M++(c0::c1::c2::(E++[.row 1 [.int .i64 (d:Int)] false]))) 1 8 (.osl (M.length+(E.length+3)) 1 0 1) q.1 q.2)=some (.osl (M.length+(E.length+3)) (A.length+1) 0 (A.length+1),M++(c0::c1::c2::(E++[.row 1 (bO (d::A)) false]))):=by
 have hk:=(List.getElem?_eq_some_iff.1 hE).1;have he:elems (M++(c0::c1::c2::(E++[.row 1 [.int .i64 (d:Int)] false]))) 1 (.osl (M.length+(k+3)) A.length 0 A.length)=some (bO A,A.length):=by
  have hg:(M++(c0::c1::c2::(E++[.row 1 [.int .i64 (d:Int)] false])))[M.length+(k+3)]? =some (.row 1 (bO A) nk):=by
   rw[gJ];show(E++_)[k]? =_;rw[List.getElem?_append_left hk];exact hE
  simp only[elems,hg];rw[if_pos ⟨trivial,kX A,by omega,fun q=>by rw[hnk q];rfl⟩];have ht:(bO A).take (A.length*1)=bO A:=List.take_of_length_le (by rw[kX];omega);rw[List.drop_zero,ht]
 rw[he];have:=NU (b:=b) (id:=M.length+(E.length+3)) (n:=1) (m:=A.length) (H:=M++(c0::c1::c2::(E++[.row 1 [.int .i64 (d:Int)] false]))) (A:=[.int .i64 (d:Int)]) (B:=bO A) (nk:=false) (by rw[gJ];show(E++_)[E.length]? =_;simp) rfl (kX A) (by simp) (by omega) (Z7 A) (HH A);simp only[NK];rw[Nat.add_comm 1 A.length]at this;rw[this,xT];simp[bO]
set_option maxHeartbeats 2000000 in
theorem zAk(hX:CX X){s:Bs}(hl:s.length<=1000000){M:aA}{neg:Bool}:∀(f i:Nat) (ds:List Nat) (pt:Bool) (ex:Int) (E:aA) (k:Nat) (nl:Bool) (env:Env) (K:List Fr) (Q:Ex->St->Prop),s.length<=i+f->i<=s.length->ds.length<=i->E[k]? =some (.row 1 (bO ds) nl)->(nl=true->ds=[])->env.get 0=.str s->env.get 6=.ptr (M.length+2) 0->env.get 7=.osl (M.length+(k+3)) ds.length 0 ds.length->env.get 8=.bool pt->env.get 9=.int .i64 i->(∀(env':Env) (E':aA) (k':Nat) (nl':Bool),E'[k']? =some (.row 1 (bO (iZ s f i ds pt ex).2.1) nl')->(nl'=true->(iZ s f i ds pt ex).2.1=[])->env'.get 0=.str s->env'.get 2=env.get 2->env'.get 6=.ptr (M.length+2) 0->env'.get 7=.osl (M.length+(k'+3)) (iZ s f i ds pt ex).2.1.length 0 (iZ s f i ds pt ex).2.1.length->env'.get 9=.int .i64 (iZ s f i ds pt ex).1->YX X M.length none (.exit 1) K ⟨env',F8 M neg (iZ s f i ds pt ex).2.2 E',[]⟩ Q)->YS X M.length none (.loop qN) K ⟨env,F8 M neg ex E,[]⟩ Q:=by
 intro f
 induction f with
 | zero=>
  intro i ds pt ex E k nl env K Q hf hi hdi hE hnl g0 g6 g7 g8 g9 hk;simp only[iZ]at hk;have h':¬(i:Int)<s.length:=by omega
  have h:¬i<s.length:=by omega
  refine bA fun L hL=>?_
  simp[qN,g0,g6,g7,g8,g9,h,h'];refine hk _ E k nl hE hnl ?_ ?_ ?_ ?_ ?_ <;> simp[g0,g6,g7,g9]
 | succ f ih=>
  intro i ds pt ex E k nl env K Q hf hi hdi hE hnl g0 g6 g7 g8 g9 hk;rw[iZ]at hk;by_cases h:i<s.length
  rotate_left
  ·rw[dif_neg h]at hk
   have h':¬(i:Int)<s.length:=by omega
   refine bA fun L hL=>?_
   simp[qN,g0,g6,g7,g8,g9,h,h'];refine hk _ E k nl hE hnl ?_ ?_ ?_ ?_ ?_ <;> simp[g0,g6,g7,g9]
  rw[dif_pos h]at hk;have h':(i:Int)<s.length:=by omega
  obtain⟨i1,hi1⟩:∃i1,i1=i+1:=⟨_,rfl⟩;have w1:IntKind.i64.wrap ((i:Int)+1)=(i1:Int):=by rw[wrap_i64 (by omega) (by omega)];omega
  obtain⟨hdg,hdl⟩:=Mj s[i];rw[← hi1]at hk;by_cases h101:(s[i].toNat:Int)=101
  ·rw[if_pos (Or.inl h101)]at hk
   refine bA fun L hL=>?_
   simp[qN,g0,g6,g7,g8,g9,h,h',h101];refine hk _ E k nl hE hnl ?_ ?_ ?_ ?_ ?_ <;> simp[g0,g6,g7,g9]
  by_cases h69:(s[i].toNat:Int)=69
  ·rw[if_pos (Or.inr h69)]at hk
   refine bA fun L hL=>?_
   simp[qN,g0,g6,g7,g8,g9,h,h',h101,h69];refine hk _ E k nl hE hnl ?_ ?_ ?_ ?_ ?_ <;> simp[g0,g6,g7,g9]
  rw[if_neg (fun q=>q.elim h101 h69)]at hk;by_cases h46:(s[i].toNat:Int)=46
  ·rw[if_pos h46]at hk
   refine bA fun L hL=>?_
   simp[qN,g0,g6,g7,g8,g9,h,h',h101,h69,h46,w1];rw[hL];refine ih i1 ds true ex E k nl _ K Q (by omega) (by omega) (by omega) hE hnl ?_ ?_ ?_ ?_ ?_ fun env' E' k' nl' a1 a2 a3 a4 a5 a6 a7=>hk env' E' k' nl' a1 a2 a3 ?_ a5 a6 a7
   ·simp[g0]
   ·simp[g6]
   ·simp[g7]
   ·simp
   ·simp
   ·rw[a4];simp
  rw[if_neg h46]at hk;by_cases h45:(s[i].toNat:Int)=45
  ·rw[if_pos h45]at hk
   refine bA fun L hL=>?_
   simp[qN,g0,g6,g7,g8,g9,h,h',h101,h69,h46,h45,w1];rw[hL];refine ih i1 ds pt ex E k nl _ K Q (by omega) (by omega) (by omega) hE hnl ?_ ?_ ?_ ?_ ?_ fun env' E' k' nl' a1 a2 a3 a4 a5 a6 a7=>hk env' E' k' nl' a1 a2 a3 ?_ a5 a6 a7
   ·simp[g0]
   ·simp[g6]
   ·simp[g7]
   ·simp[g8]
   ·simp
   ·rw[a4];simp
  rw[if_neg h45]at hk;have hap:=fun b=>zM6 (b:=b) (M:=M) (c0:=.box [.bool false,.nilsl,.int .i64 0]) (c1:=.row 1 [] true) (c2:=.box [.bool neg,.osl (M.length+1) 0 0 0,.int .i64 ex]) (dg s[i]) hE hnl (by omega)
  have wd:IntKind.i64.wrap (dg s[i]:Int)=(dg s[i]:Int):=wI;generalize dg s[i]=d at *;refine bA fun L hL=>?_
  cases pt with
  | true=>
   simp only[if_true]at hk;simp[qN,g0,g6,g7,g8,g9,h,h',h101,h69,h46,h45,w1,hdg,wd,hap,bG,Go.AM.D.aD,Go.AM.D.aF,Go.AM.D.one,Go.AM.D.under];rw[hL];refine ih i1 (d::ds) true (IntKind.i64.wrap (ex-1)) (E++[.row 1 (bO (d::ds)) false]) E.length false _ K Q (by omega) (by omega) (by simp;omega) (by simp) (by simp) ?_ ?_ ?_ ?_ ?_ fun env' E' k' nl' a1 a2 a3 a4 a5 a6 a7=>hk env' E' k' nl' a1 a2 a3 ?_ a5 a6 a7
   ·simp[g0]
   ·simp[g6]
   ·simp
   ·simp[g8]
   ·simp
   ·rw[a4];simp
  | false=>
   simp only[Bool.false_eq_true,if_false]at hk;simp[qN,g0,g6,g7,g8,g9,h,h',h101,h69,h46,h45,w1,hdg,wd,hap,bG,Go.AM.D.aD,Go.AM.D.aF,Go.AM.D.one,Go.AM.D.under];rw[hL];refine ih i1 (d::ds) false ex (E++[.row 1 (bO (d::ds)) false]) E.length false _ K Q (by omega) (by omega) (by simp;omega) (by simp) (by simp) ?_ ?_ ?_ ?_ ?_ fun env' E' k' nl' a1 a2 a3 a4 a5 a6 a7=>hk env' E' k' nl' a1 a2 a3 ?_ a5 a6 a7
   ·simp[g0]
   ·simp[g6]
   ·simp
   ·simp[g8]
   ·simp
   ·rw[a4];simp
end
section
variable {X:Ctx}
def vD(s:Bs):Nat->Nat->Bool->Int->Nat->Option (Bool×Int)
 | 0,_,ng,e,_=>some (ng,e)
 | f+1,i,ng,e,cnt=>if h:i<s.length then
   if(s[i].toNat:Int)=45 then vD s f (i+1) true e cnt
   else if(s[i].toNat:Int)=43 then vD s f (i+1) ng e cnt
   else if 6<(if 0<e∨ ¬(s[i].toNat:Int)=48 then cnt+1 else cnt)then none
   else vD s f (i+1) ng (IntKind.i64.wrap (IntKind.i64.wrap (10*e)+(dg s[i]:Int))) (if 0<e∨ ¬(s[i].toNat:Int)=48 then cnt+1 else cnt)
  else some (ng,e)
set_option maxHeartbeats 2000000 in
theorem zAj(hX:CX X){s:Bs}(hl:s.length<=1000000){M E:aA}{neg:Bool}{ex:Int}{x7:D}{K:List Fr}{Q:Ex->St->Prop}{R:Option (Bool×Int)}:∀(f i:Nat) (ng:Bool) (e:Int) (cnt:Nat) (env:Env),s.length<=i+f->i<=s.length->cnt<=6->env.get 0=.str s->env.get 2=.ptr M.length 0->env.get 6=.ptr (M.length+2) 0->env.get 7=x7->env.get 9=.int .i64 i->env.get 10=.bool ng->env.get 11=.int .i64 e->env.get 12=.int .i64 cnt->vD s f i ng e cnt=R->(R=none->∀env':Env,env'.get 2=.ptr M.length 0->env'.get 3=.int .i64 52->YX X M.length none .ret K ⟨env',F8 M neg ex E,[]⟩ Q)->(∀ng' e',R=some (ng',e')->∀env':Env,env'.get 2=.ptr M.length 0->env'.get 6=.ptr (M.length+2) 0->env'.get 7=x7->env'.get 10=.bool ng'->env'.get 11=.int .i64 e'->YX X M.length none (.exit 4) K ⟨env',F8 M neg ex E,[]⟩ Q)->YS X M.length none (.loop oO) K ⟨env,F8 M neg ex E,[]⟩ Q:=by
 intro f
 induction f with
 | zero=>
  intro i ng e cnt env hf hi hc g0 g2 g6 g7 g9 g10 g11 g12 hR hn hk;simp only[vD]at hR;have h':¬(i:Int)<s.length:=by omega
  have h:¬i<s.length:=by omega
  refine bA fun L hL=>?_
  simp[oO,g0,g9,h,h'];refine hk ng e hR.symm _ ?_ ?_ ?_ ?_ ?_ <;> simp[g2,g6,g7,g10,g11]
 | succ f ih=>
  intro i ng e cnt env hf hi hc g0 g2 g6 g7 g9 g10 g11 g12 hR hn hk;rw[vD]at hR;by_cases h:i<s.length
  rotate_left
  ·rw[dif_neg h]at hR
   have h':¬(i:Int)<s.length:=by omega
   refine bA fun L hL=>?_
   simp[oO,g0,g9,h,h'];refine hk ng e hR.symm _ ?_ ?_ ?_ ?_ ?_ <;> simp[g2,g6,g7,g10,g11]
  rw[dif_pos h]at hR;have h':(i:Int)<s.length:=by omega
  obtain⟨i1,hi1⟩:∃i1,i1=i+1:=⟨_,rfl⟩;have w1:IntKind.i64.wrap ((i:Int)+1)=(i1:Int):=by rw[wrap_i64 (by omega) (by omega)];omega
  obtain⟨hdg,hdl⟩:=Mj s[i];have wd:IntKind.i64.wrap (dg s[i]:Int)=(dg s[i]:Int):=wI;rw[← hi1]at hR;by_cases h45:(s[i].toNat:Int)=45
  ·rw[if_pos h45]at hR
   refine bA fun L hL=>?_
   simp[oO,g0,g9,h,h',h45,w1];rw[hL];refine ih i1 true e cnt _ (by omega) (by omega) (by omega) ?_ ?_ ?_ ?_ ?_ ?_ ?_ ?_ hR hn hk
   ·simp[g0]
   ·simp[g2]
   ·simp[g6]
   ·simp[g7]
   ·simp
   ·simp[g10]
   ·simp[g11]
   ·simp[g12]
  rw[if_neg h45]at hR;by_cases h43:(s[i].toNat:Int)=43
  ·rw[if_pos h43]at hR
   refine bA fun L hL=>?_
   simp[oO,g0,g9,h,h',h45,h43,w1];rw[hL];refine ih i1 ng e cnt _ (by omega) (by omega) (by omega) ?_ ?_ ?_ ?_ ?_ ?_ ?_ ?_ hR hn hk
   ·simp[g0]
   ·simp[g2]
   ·simp[g6]
   ·simp[g7]
   ·simp
   ·simp[g10]
   ·simp[g11]
   ·simp[g12]
  rw[if_neg h43]at hR;have hst:∀H:aA,storable M.length H M.length [.bool false,.nilsl,.int .i64 0]=true:=fun H=>aH (fun n=>by simp) (by simp)
  have hzc:∀a b c:D,aJ true 3 [a,b,c]=some (.agg [a,b,c]):=fun _ _ _=>rfl
  by_cases h0:0<e
  ·rw[if_pos (Or.inl h0)]at hR
   obtain⟨c1,hc1⟩:∃c1,c1=cnt+1:=⟨_,rfl⟩;have w2:IntKind.i64.wrap ((cnt:Int)+1)=(c1:Int):=by rw[wrap_i64 (by omega) (by omega)];omega
   rw[← hc1]at hR;by_cases h6:6<c1
   ·have h6':(6:Int)<c1:=by omega
    rw[if_pos h6]at hR;refine bA fun L hL=>?_
    simp[oO,g0,g2,g9,g11,g12,h,h',h45,h43,h0,w2,h6,h6',eG,hst];refine hn hR.symm _ ?_ ?_ <;> simp[g2]
   ·have h6':¬(6:Int)<c1:=by omega
    rw[if_neg h6]at hR;refine bA fun L hL=>?_
    simp[oO,g0,g2,g9,g11,g12,h,h',h45,h43,h0,w1,w2,h6,h6',hdg,wd];rw[hL];refine ih i1 ng (IntKind.i64.wrap (IntKind.i64.wrap (10*e)+(dg s[i]:Int))) c1 _ (by omega) (by omega) (by omega) ?_ ?_ ?_ ?_ ?_ ?_ ?_ ?_ hR hn hk
    ·simp[g0]
    ·simp[g2]
    ·simp[g6]
    ·simp[g7]
    ·simp
    ·simp[g10]
    ·simp[g11]
    ·simp[g12]
  by_cases h48:(s[i].toNat:Int)=48
  rotate_left
  ·rw[if_pos (Or.inr h48)]at hR
   obtain⟨c1,hc1⟩:∃c1,c1=cnt+1:=⟨_,rfl⟩;have w2:IntKind.i64.wrap ((cnt:Int)+1)=(c1:Int):=by rw[wrap_i64 (by omega) (by omega)];omega
   rw[← hc1]at hR;by_cases h6:6<c1
   ·have h6':(6:Int)<c1:=by omega
    rw[if_pos h6]at hR;refine bA fun L hL=>?_
    simp[oO,g0,g2,g9,g11,g12,h,h',h45,h43,h0,h48,w2,h6,h6',eG,hst];refine hn hR.symm _ ?_ ?_ <;> simp[g2]
   ·have h6':¬(6:Int)<c1:=by omega
    rw[if_neg h6]at hR;refine bA fun L hL=>?_
    simp[oO,g0,g2,g9,g11,g12,h,h',h45,h43,h0,h48,w1,w2,h6,h6',hdg,wd];rw[hL];refine ih i1 ng (IntKind.i64.wrap (IntKind.i64.wrap (10*e)+(dg s[i]:Int))) c1 _ (by omega) (by omega) (by omega) ?_ ?_ ?_ ?_ ?_ ?_ ?_ ?_ hR hn hk
    ·simp[g0]
    ·simp[g2]
    ·simp[g6]
    ·simp[g7]
    ·simp
    ·simp[g10]
    ·simp[g11]
    ·simp[g12]
  rw[show(if 0<e∨ ¬(s[i].toNat:Int)=48 then cnt+1 else cnt)=cnt from if_neg (fun q=>q.elim h0 (fun r=>r h48))]at hR;have h6:¬6<cnt:=by omega
  have hz8:IntKind.u8.wrap 0=0:=by decide
  have hz9:IntKind.i64.wrap 0=0:=by decide
  have hdg0:(dg s[i]:Int)=0:=by rw[← hdg,h48];decide
  have h6':¬(6:Int)<cnt:=by omega
  rw[if_neg h6]at hR;refine bA fun L hL=>?_
  simp[oO,g0,g2,g9,g11,g12,h,h',h45,h43,h0,h48,w1,h6,h6',hdg,wd];rw[hL];refine ih i1 ng (IntKind.i64.wrap (IntKind.i64.wrap (10*e)+(dg s[i]:Int))) cnt _ (by omega) (by omega) (by omega) ?_ ?_ ?_ ?_ ?_ ?_ ?_ ?_ hR hn hk
  ·simp[g0]
  ·simp[g2]
  ·simp[g6]
  ·simp[g7]
  ·simp
  ·simp[g10]
  ·simp[hdg0,hz8,hz9]
  ·simp[g12]
set_option maxHeartbeats 2000000 in
theorem YY(hX:CX X){s:Bs}(hl:s.length<=1000000)(hd:eZ s 0=true):∃(d:Dec) (e:Int),d.wf∧∀M:aA,cF X Kp [.str s] M=some (.tup [.agg d.cells,.int .i64 e],M):=by
 have hpos:=pW hd;obtain⟨r,hr,hen⟩:=GD hX hl 0 hd;have hen':∀H:aA,cF X J0 [.str s,.int .i64 0] H=some (.tup [.int .i64 r.1,.bool r.2],H):=hen;have hst:∀(M H:aA),storable M.length H M.length [.bool false,.nilsl,.int .i64 0]=true:=fun M H=>aH (fun n=>by simp) (by simp)
 by_cases hok:r.2=true∧r.1=s.length
 rotate_left
 ·refine⟨dN,32,rW,fun M=>?_⟩
  refine O6 hX ?_
  cases h2:r.2 with
  | false=>simp[tY,aB,hen',h2,eG,hst,rX,kL]
  | true=>
   have h1:¬r.1=s.length:=fun q=>hok ⟨h2,q⟩
   have h1':¬(r.1:Int)=s.length:=by omega
   simp[tY,aB,hen',h2,h1,h1',eG,hst,rX,kL]
 obtain⟨h2,h1⟩:=hok;by_cases hlong:2000<s.length
 ·have hlong':(2000:Int)<s.length:=by omega
  refine⟨dN,5,rW,fun M=>?_⟩;refine O6 hX ?_;simp[tY,aB,hen',h2,h1,hlong,hlong',eG,hst,rX,kL]
 have hlong':¬(2000:Int)<s.length:=by omega
 have hn45:¬(s[0].toNat:Int)=45:=by
  intro q;unfold eZ at hd;rw[dif_pos hpos]at hd;simp at hd;omega
 obtain⟨i0,ds,ex,hp0⟩:∃i0 ds ex,iZ s s.length 0 [] false 0=(i0,ds,ex):=⟨_,_,_,rfl⟩;have hp0k:=Z3 (s:=s) s.length 0 [] false 0 (by simp) (by simp) (by simp);have h0:=fun(M:aA) (env:Env) (K:List Fr) (Q:Ex->St->Prop)=>zAk hX hl (M:=M) (neg:=false) s.length 0 [] false 0 [.row 1 [] true] 0 true env K Q (by simp) (by simp) (by simp) rfl (by simp)
 rw[hp0]at hp0k h0;simp only at hp0k h0;obtain⟨hdd,hi0,hdl⟩:=hp0k;have hmade:=fun(M:aA) (id:Nat) (nl:Bool) (hM:M[id]? =some (.row 1 (bO ds) nl)) (hnl:nl=true->ds=[]) (e:Int)=>ZA hX hM (Nat.le_refl _) (fun q=>by rw[hnl q];rfl) (by omega) hdd false e
 have hst1:∀(M H:aA) (e:Int),H.length=M.length+2->storable M.length H (M.length+2) [.bool false,.osl (M.length+1) 0 0 0,.int .i64 e]=true:=fun M H e h=>bG (by omega) (by rw[h];simp[Go.AM.D.aD,Go.AM.D.under]) (by simp[Go.AM.D.aF,Go.AM.D.one])
 by_cases hexp:i0<s.length
 ·have hexp':(i0:Int)<s.length:=by omega
  obtain⟨i1,hi1⟩:∃i1,i1=i0+1:=⟨_,rfl⟩;have w1:IntKind.i64.wrap ((i0:Int)+1)=(i1:Int):=by rw[wrap_i64 (by omega) (by omega)];omega
  obtain⟨R,hR⟩:∃R,vD s s.length i1 false 0 0=R:=⟨_,rfl⟩;have h1':=fun(M E:aA) (x7:D) (env:Env) (K:List Fr) (Q:Ex->St->Prop)=>zAj hX hl (M:=M) (E:=E) (neg:=false) (ex:=ex) (x7:=x7) (K:=K) (Q:=Q) (R:=R) s.length i1 false 0 0 env (by omega) (by omega) (by omega)
  cases R with
  | none=>
   refine⟨dN,52,rW,fun M=>?_⟩;refine O6 hX ?_;simp[tY,hen',h2,h1,hlong,hlong',hpos,hn45,eG,hst,hst1,bU];refine h0 M _ _ _ ?_ ?_ ?_ ?_ ?_ fun env' E' k' nl' a1 a2 a3 a4 a5 a6 a7=>?_
   ·simp
   ·simp
   ·simp
   ·simp
   ·simp
   simp at a4;simp[a3,a7,hexp,hexp',w1];refine h1' M E' _ _ _ _ ?_ ?_ ?_ rfl ?_ ?_ ?_ ?_ hR (fun _ env'' b2 b3=>?_) (fun _ _ q=>absurd q (by simp))
   ·simp[a3]
   ·simp[a4]
   ·simp[a5]
   ·simp
   ·simp
   ·simp
   ·simp
   simp[aB,b2,b3,rX,kL]
  | some w=>
   obtain⟨ng,e⟩:=w;refine⟨(rN false ds ds.length (IntKind.i64.wrap (ex+(if ng then IntKind.i64.wrap (-e)else e)))).1,(rN false ds ds.length (IntKind.i64.wrap (ex+(if ng then IntKind.i64.wrap (-e)else e)))).2,HX,fun M=>?_⟩;refine O6 hX ?_;simp[tY,hen',h2,h1,hlong,hlong',hpos,hn45,eG,hst,hst1,bU];refine h0 M _ _ _ ?_ ?_ ?_ ?_ ?_ fun env' E' k' nl' a1 a2 a3 a4 a5 a6 a7=>?_
   ·simp
   ·simp
   ·simp
   ·simp
   ·simp
   simp at a4;have hkE:=(List.getElem?_eq_some_iff.1 a1).1;have hm:=fun(c0 c1 c2:Chunk) (e:Int)=>hmade (M++(c0::c1::c2::E')) (M.length+(k'+3)) nl' (by rw[gJ];exact a1) a2 e
   have hst5:∀H:aA,H.length=M.length+(E'.length+1+1+1)->storable M.length H (M.length+2) [.osl (M.length+(k'+3)) ds.length 0 ds.length]=true:=fun H h=>bG (by omega) (by rw[h];simp[Go.AM.D.aD,Go.AM.D.under];omega) (by simp[Go.AM.D.aF,Go.AM.D.one])
   have hst6:∀(H:aA) (d:Dec),storable M.length H M.length d.cells=true:=fun H d=>aH (fun n=>Dec.aD d n) (Dec.aF d)
   simp[a3,a7,hexp,hexp',w1];refine h1' M E' _ _ _ _ ?_ ?_ ?_ rfl ?_ ?_ ?_ ?_ hR (fun q=>absurd q (by simp)) (fun ng' e' q env'' b2 b6 b7 b10 b11=>?_)
   ·simp[a3]
   ·simp[a4]
   ·simp[a5]
   ·simp
   ·simp
   ·simp
   ·simp
   simp at q;obtain⟨rfl,rfl⟩:=q;simp[a6]at b7
   cases ng with
   | true=>
    simp[aB,b2,b6,b7,b10,b11,hst5,hst6,kL,hm]
   | false=>
    simp[aB,b2,b6,b7,b10,b11,hst5,hst6,kL,hm]
 ·have hexp':¬(i0:Int)<s.length:=by omega
  refine⟨(rN false ds ds.length ex).1,(rN false ds ds.length ex).2,HX,fun M=>?_⟩;refine O6 hX ?_;simp[tY,hen',h2,h1,hlong,hlong',hpos,hn45,eG,hst,hst1,bU];refine h0 M _ _ _ ?_ ?_ ?_ ?_ ?_ fun env' E' k' nl' a1 a2 a3 a4 a5 a6 a7=>?_
  ·simp
  ·simp
  ·simp
  ·simp
  ·simp
  simp at a4;have hkE:=(List.getElem?_eq_some_iff.1 a1).1;have hm:=fun(c0 c1 c2:Chunk) (e:Int)=>hmade (M++(c0::c1::c2::E')) (M.length+(k'+3)) nl' (by rw[gJ];exact a1) a2 e
  have hst5:∀H:aA,H.length=M.length+(E'.length+1+1+1)->storable M.length H (M.length+2) [.osl (M.length+(k'+3)) ds.length 0 ds.length]=true:=fun H h=>bG (by omega) (by rw[h];simp[Go.AM.D.aD,Go.AM.D.under];omega) (by simp[Go.AM.D.aF,Go.AM.D.one])
  have hst6:∀(H:aA) (d:Dec),storable M.length H M.length d.cells=true:=fun H d=>aH (fun n=>Dec.aD d n) (Dec.aF d)
  simp[aB,a3,a4,a5,a6,a7,hexp,hexp',hst5,hst6,kL,hm]
end
section
variable {X:Ctx}
theorem Dec.zKj(d:Dec):d.cells=[.bool d.neg,SL d.coefF (d.coef.map (D.int .u32)) d.coef.length,.int .i64 d.exp]:=by rw[Dec.bF];rfl
set_option maxHeartbeats 2000000 in
theorem YT(hX:CX X){x:LS}(hg:x.good)(hd:eZ x.s x.at_=true):xI X I8 [] x (fun y=>y.bad≠0∨x.at_<y.at_):=by
 have hlen:=hg.len;have hlt:=pW hd;obtain⟨r,hr,hen⟩:=GD hX (s:=x.s) (by omega) x.at_ hd;have hfl:=fun(e:Int) (G E:aA)=>mW hX hg x.at_ e G E
 have refuse:∀e:Int,e≠0->(∀G E:aA,YS X (G++(x.r0::x.r1::x.bx G.length::E)).length none qM [] ⟨Env.nil.dL 0 [.ptr (G.length+2) 0],G++(x.r0::x.r1::x.bx G.length::E),[]⟩ (fO [] none (G++(x.r0::x.r1::x.bx G.length::E)).length (.tup [],G++((x.fail x.at_ e).r0::(x.fail x.at_ e).r1::(x.fail x.at_ e).bx G.length::E))))->xI X I8 [] x (fun y=>y.bad≠0∨x.at_<y.at_):=fun e he h=>⟨_,LS.iI hg _ _,Or.inl (LS.wN _ he),fun G E=>NG hX (h G E)⟩
 cases hok:r.2 with
 | false=>
  refine refuse 32 (by decide) fun G E=>?_
  have hf:=hfl 32 G E;generalize x.fail x.at_ 32=y at *;simp[qM,aB,hen,hok,hf]
 | true=>
  obtain⟨h1,h2⟩:=hr hok;have hpt:=fun n H=>Hi hX n H
  have bad:(∃h:r.1<x.s.length,jV (x.s[r.1].toNat:Int)=true∨(x.s[r.1].toNat:Int)=46)->xI X I8 [] x (fun y=>y.bad≠0∨x.at_<y.at_):=fun⟨h,hc⟩=>by
   have h':(r.1:Int)<x.s.length:=by omega
   refine refuse 32 (by decide) fun G E=>?_
   have hf:=hfl 32 G E;generalize x.fail x.at_ 32=y at *
   cases hp:jV (x.s[r.1].toNat:Int)with
   | true=>simp[qM,aB,hen,hok,h,h',hpt,hp,hf]
   | false=>
    have hc':=hc.resolve_left (by rw[hp];simp);have hp46:jV 46=false:=by decide
    simp[qM,aB,hen,hok,h,h',hpt,hp46,hc',hf]
  by_cases hb:∃h:r.1<x.s.length,jV (x.s[r.1].toNat:Int)=true∨(x.s[r.1].toNat:Int)=46
  ·exact bad hb
  have hsl:fD x.s (some (.int .i64 x.at_)) (some (.int .i64 r.1))=some (.str ((x.s.take r.1).drop x.at_)):=uJ (by omega) (by omega);have hsd:eZ ((x.s.take r.1).drop x.at_) 0=true:=by
   unfold eZ at hd ⊢;rw[dif_pos hlt]at hd;rw[dif_pos (by simp;omega)];simpa using hd
  have hsl2:((x.s.take r.1).drop x.at_).length<=65536:=by simp;omega
  generalize(x.s.take r.1).drop x.at_=w at *;obtain⟨d,e,hdw,hpa⟩:=YY hX (s:=w) (by omega) hsd;have hdc:=Dec.zKj d;by_cases he:e=0
  ·subst he
   have k1:=LS.jT hg (k:=r.1) (by omega) (by omega);have ht:TokOk (x.at' r.1).s.length (.mk 3 w d x.at_):=⟨by show w.length<=_;omega,hdw,by show(0:Int)<=(x.at_:Int);omega,by show(x.at_:Int)<=(x.s.length:Int);omega⟩;have ha:=fun G E=>rG hX k1.good (.mk 3 w d x.at_) G E
   have htc:(Token.mk 3 w d x.at_).cells=[.int .i64 3,.str w,.bool d.neg,SL d.coefF (d.coef.map (D.int .u32)) d.coef.length,.int .i64 d.exp,.int .i64 x.at_]:=by rw[Token.cells,hdc];rfl
   refine⟨(x.at' r.1).add (.mk 3 w d x.at_),k1.trans (LS.sO k1.good ht),Or.inr (by rw[LS.sD];exact h1),fun G E=>?_⟩;refine NG hX ?_;rw[htc]at ha;have ha':=ha G E;generalize(x.at' r.1).add (.mk 3 w d x.at_)=y at *;simp only[LS.at']at ha';by_cases h:r.1<x.s.length
   ·have h':(r.1:Int)<x.s.length:=by omega
    have hp:jV (x.s[r.1].toNat:Int)=false:=by
     cases q:jV (x.s[r.1].toNat:Int)with
     | false=>rfl
     | true=>exact absurd ⟨h,Or.inl q⟩ hb
    have hc:¬(x.s[r.1].toNat:Int)=46:=fun q=>hb ⟨h,Or.inr q⟩
    simp[qM,aB,hen,hok,h,h',hpt,hp,hc,hsl,hpa,fW,hdc,kL,ha',aQ,aR,aS,aT,aO,aP, -aN]
   ·have h':¬(r.1:Int)<x.s.length:=by omega
    simp[qM,aB,hen,hok,h,h',hsl,hpa,fW,hdc,kL,ha',aQ,aR,aS,aT,aO,aP, -aN]
  ·refine refuse e he fun G E=>?_
   have hf:=hfl e G E;generalize x.fail x.at_ e=y at *;by_cases h:r.1<x.s.length
   ·have h':(r.1:Int)<x.s.length:=by omega
    have hp:jV (x.s[r.1].toNat:Int)=false:=by
     cases q:jV (x.s[r.1].toNat:Int)with
     | false=>rfl
     | true=>exact absurd ⟨h,Or.inl q⟩ hb
    have hc:¬(x.s[r.1].toNat:Int)=46:=fun q=>hb ⟨h,Or.inr q⟩
    simp[qM,aB,hen,hok,h,h',hpt,hp,hc,hsl,hpa,he,hf]
   ·have h':¬(r.1:Int)<x.s.length:=by omega
    simp[qM,aB,hen,hok,h,h',hsl,hpa,he,hf]
end
section
variable {X:Ctx}
def nZ(s:Bs):Nat->Nat->Nat
 | 0,k=>k
 | f+1,k=>if h:k<s.length then(if(s[k].toNat:Int)=10 then k else nZ s f (k+1))else k
theorem Nz {s:Bs}:∀f k,k<=nZ s f k∧(k<=s.length->nZ s f k<=s.length)
 | 0,k=>by simp[nZ]
 | f+1,k=>by
  rw[nZ];split
  ·split
   ·simp
   ·have:=Nz (s:=s) f (k+1)
    rename_i h _;exact⟨by omega,fun _=>this.2 h⟩
  ·simp
theorem zMj {s:Bs}{f k:Nat}(h:k<s.length)(hc:¬(s[k].toNat:Int)=10)(hf:f≠0):k<nZ s f k:=by
 obtain⟨g,rfl⟩:∃g,f=g+1:=⟨f-1,by omega⟩;rw[nZ,dif_pos h,if_neg hc];have:=(Nz (s:=s) g (k+1)).1;omega
theorem ZP(hX:CX X){x:LS}(hl:x.s.length<=65536){G:aA}{K:List Fr}{Q:Ex->St->Prop}:∀(f k:Nat) (env:Env),x.s.length<=k+f->k<=x.s.length->env.get 0=.ptr (G.length+2) 0->(∀env':Env,YX X (G.length+3) none (.exit 1) K ⟨env',G++[x.r0,x.r1,(x.at' (nZ x.s f k)).bx G.length],[]⟩ Q)->YS X (G.length+3) none (.loop A9) K ⟨env,G++[x.r0,x.r1,(x.at' k).bx G.length],[]⟩ Q:=by
 intro f
 induction f with
 | zero=>
  intro k env hf hk g0 hc;have h:¬k<x.s.length:=by omega
  have h':¬(k:Int)<x.s.length:=by omega
  simp only[nZ,LS.at']at hc;refine bA fun L hL=>?_
  simp[A9,g0,h,h',LS.at',aQ,aR,aS,aT,aO,aP, -aN];exact hc _
 | succ f ih=>
  intro k env hf hk g0 hc;rw[nZ]at hc;by_cases h:k<x.s.length
  rotate_left
  ·have h':¬(k:Int)<x.s.length:=by omega
   rw[dif_neg h]at hc;simp only[LS.at']at hc;refine bA fun L hL=>?_
   simp[A9,g0,h,h',LS.at',aQ,aR,aS,aT,aO,aP, -aN];exact hc _
  have h':(k:Int)<x.s.length:=by omega
  rw[dif_pos h]at hc;by_cases h10:(x.s[k].toNat:Int)=10
  ·rw[if_pos h10]at hc
   simp only[LS.at']at hc;refine bA fun L hL=>?_
   simp[A9,g0,h,h',h10,LS.at',aQ,aR,aS,aT,aO,aP, -aN];exact hc _
  ·rw[if_neg h10]at hc
   obtain⟨k1,hk1⟩:∃k1,k1=k+1:=⟨_,rfl⟩;have w1:IntKind.i64.wrap ((k:Int)+1)=(k1:Int):=by rw[wrap_i64 (by omega) (by omega)];omega
   rw[← hk1]at hc;have ih':=ih k1;simp only[LS.at']at ih' hc;refine bA fun L hL=>?_
   simp[A9,g0,h,h',h10,w1,LS.at',aQ,aR,aS,aT,aO,aP, -aN];rw[hL];exact ih' _ (by omega) (by omega) (by simp[g0]) hc
def LS.closed(x:LS):LS:= { x with opn:=x.opn-1 }
theorem LS.RM {x:LS}(h:x.good):x.to x.closed:=⟨rfl,Nat.le_refl _,h.len,h.at_,h.toks,h.outl,h.on,h.opl,by have:=h.opn;show x.opn-1<=x.ops.length;omega,h.opb⟩
def LS.bump(x:LS)(v:Int):LS:= { x with ops:=x.ops.set (x.opn-1) v }
theorem LS.BC {x:LS}(h:x.good)(v:Int):x.to (x.bump v):=⟨rfl,Nat.le_refl _,h.len,h.at_,h.toks,h.outl,h.on,by show(x.ops.set _ _).length<=_;rw[List.length_set];exact h.opl,by show _<=(x.ops.set _ _).length;rw[List.length_set];exact h.opn,fun q=>by have:=h.opb q;show x.ops.set _ _=[];rw[this];rfl⟩
end
end Go.AM.T
