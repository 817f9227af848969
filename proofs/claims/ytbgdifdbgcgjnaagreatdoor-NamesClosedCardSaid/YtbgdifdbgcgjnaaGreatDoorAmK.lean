/- Rules to walk through code; slices that are read; rows of the heap; the program's structs. -/
import Derived.Test.YtbgdifdbgcgjnaaGreatDoorAmA
import Derived.Test.YtbgdifdbgcgjnaaGreatDoorAmD
set_option linter.unusedVariables false
set_option linter.unusedSimpArgs false
set_option linter.unnecessarySimpa false
set_option maxRecDepth 100000
namespace Go.AM
abbrev Cl:=cT
def Cl.le(c c':Cl):Prop:=∀f a H r,c f a H=some r->c' f a H=some r
section
variable {G:Nat->Option (List D)}{b:Nat}{c c':Cl}
theorem TF(h:Cl.le c c'){env:Env}{H:aA}{op:AOp}{r:D×aA}(hs:step G b c env H op=some r):step G b c' env H op=some r:=by
 cases op <;> first | exact hs | exact h _ _ _ _ hs
theorem W5(h:Cl.le c c'){env:Env}{H:aA}{o:AOper}{r:D×aA}(hs:bD G b c env H o=some r):bD G b c' env H o=some r:=by
 unfold bD at hs ⊢;split at hs
 ·exact TF h hs
 ·exact hs
 ·cases hs
theorem Hd(h:Cl.le c c'):∀ {l:List AOper} {env:Env} {H:aA} {r:Env×aA},eU G b c l env H=some r->eU G b c' l env H=some r
 | [],_,_,_,hs=>hs
 | o::l,env,H,r,hs=>by
  unfold eU at hs ⊢;split at hs
  ·rename_i d H' ho
   rw[W5 h ho];exact Hd h hs
  ·cases hs
theorem CZ(h:Cl.le c c'){env:Env}{o:AOper}{d:D}{H:aA}(hs:sameAt G b c env o d H=true):sameAt G b c' env o d H=true:=by
 unfold sameAt at hs ⊢;split at hs
 ·rename_i ho;rw[W5 h ho];exact hs
 ·cases hs
theorem CQ(h:Cl.le c c'){env:Env}{o:AOper}{d:D}{lo:Nat}:∀ {l:List (Nat×aA)},dR G b c env o d lo l=true->dR G b c' env o d lo l=true
 | [],hs=>hs
 | (j,H)::r,hs=>by
  unfold dR at hs ⊢;rw[Bool.and_eq_true,Bool.or_eq_true]at hs ⊢;exact⟨hs.1.imp id (CZ h),CQ h hs.2⟩
theorem CW(h:Cl.le c c'){env:Env}{o:AOper}{d:D}{hi:Nat}:∀ {l:List (Nat×aA)},fQ G b c env o d hi l=true->fQ G b c' env o d hi l=true
 | [],hs=>hs
 | (j,H)::r,hs=>by
  unfold fQ at hs ⊢;rw[Bool.and_eq_true,Bool.or_eq_true]at hs ⊢;exact⟨hs.1.imp id (CZ h),CW h hs.2⟩
theorem W9(h:Cl.le c c'):∀ {l:List (AOper×Nat×Nat)} {i:Nat} {past:List (Nat×aA)} {env:Env} {H:aA} {r:Env×aA×List (Nat×aA)},cV G b c i l past env H=some r->cV G b c' i l past env H=some r
 | [],_,_,_,_,_,hs=>hs
 | (o,lo,hi)::l,i,past,env,H,r,hs=>by
  unfold cV at hs ⊢;split at hs
  ·rename_i d H' ho
   rw[W5 h ho];simp only;split at hs
   ·rename_i hE
    rw[if_pos hE];split at hs
    ·rename_i hr;rw[W9 h hr];exact hs
    ·cases hs
   ·rename_i hE
    rw[if_neg hE];split at hs
    ·rename_i hr
     rw[W9 h hr];simp only;split at hs
     ·rename_i hL
      rw[if_pos hL];split at hs
      ·rename_i hq
       rw[Bool.and_eq_true]at hq;rw[if_pos (by rw[Bool.and_eq_true];exact⟨CQ h hq.1,CW h hq.2⟩)];exact hs
      ·cases hs
     ·rename_i hL
      rw[if_neg hL];exact hs
    ·cases hs
  ·cases hs
theorem J4 {f f':St->Option (Ex×St)}(h:∀s r,f s=some r->f' s=some r):∀ {n n':Nat} {s:St} {r:Ex×St},n<=n'->loopN f n s=some r->loopN f' n' s=some r
 | 0,_,_,_,_,hs=>by cases hs
 | n+1,0,_,_,hn,_=>by omega
 | n+1,n'+1,s,r,hn,hs=>by
  unfold loopN at hs ⊢;split at hs
  ·rename_i s' hf
   rw[h _ _ hf];exact J4 h (by omega) hs
  ·rename_i hnn
   rw[h _ _ hs];obtain⟨e,s1⟩:=r
   cases e with
   | normal=>exact absurd hs (hnn s1)
   | exit id=>rfl
   | ret=>rfl
theorem pT(h:Cl.le c c'){lf lf':Nat}(hl:lf<=lf'){rnd:Option Nat}:∀(p:ACode) {s:St} {r:Ex×St},exec G b c lf rnd p s=some r->exec G b c' lf' rnd p s=some r:=by
 intro p
 induction p with
 | skip=>intro s r hs;exact hs
 | reg ops=>
  intro s r hs;unfold exec at hs ⊢;split at hs
  ·rename_i ho;rw[Hd h ho];exact hs
  ·cases hs
 | dreg ops=>
  intro s r hs;unfold exec at hs ⊢;split at hs
  ·rename_i ho;rw[W9 h ho];exact hs
  ·cases hs
 | seq p q ihp ihq=>
  intro s r hs;unfold exec at hs ⊢;split at hs
  ·rename_i s' hp;rw[ihp hp];exact ihq hs
  ·rename_i hnn
   rw[ihp hs];obtain⟨e,s1⟩:=r
   cases e with
   | normal=>exact absurd hs (hnn s1)
   | exit id=>rfl
   | ret=>rfl
 | cond x p q ihp ihq=>
  intro s r hs;unfold exec at hs ⊢;split at hs
  ·rename_i x' hx
   (try rw[hx])
   (try simp only)
   split at hs
   ·rename_i hb;rw[if_pos hb];exact ihp hs
   ·rename_i hb;rw[if_neg hb];exact ihq hs
  ·cases hs
 | block id p ih=>
  intro s r hs;unfold exec at hs ⊢;split at hs
  ·rename_i hp;rw[ih hp];exact hs
  ·rename_i hnn
   rw[ih hs];obtain⟨e,s1⟩:=r
   cases e with
   | normal=>rfl
   | exit id=>exact absurd hs (hnn id s1)
   | ret=>rfl
 | loop p ih=>
  intro s r hs;unfold exec at hs ⊢;exact J4 (fun s r hf=>ih hf) hl hs
 | rangeF f ps asg body _ _=>
  intro s r hs;unfold exec at hs ⊢;split at hs
  ·rename_i H dfs he
   (try rw[he])
   (try simp only)
   split at hs
   ·rename_i g pre caps hf
    (try rw[hf])
    (try simp only)
    split at hs
    ·rename_i hc;rw[h _ _ _ _ hc];exact hs
    ·cases hs
   ·cases hs
  ·cases hs
 | exit id=>intro s r hs;exact hs
 | ret=>intro s r hs;exact hs
theorem XW(h:Cl.le c c'){lf lf':Nat}(hl:lf<=lf'){l:Nat}{args:List D}{H:aA}{r:D×aA}(hs:oY G c lf l args H=some r):oY G c' lf' l args H=some r:=by
 unfold oY at hs ⊢;split at hs
 ·rename_i L hL
  (try rw[hL])
  (try simp only)
  split at hs
  ·rename_i hc
   rw[if_pos hc];split at hs
   ·rename_i s1 h1
    rw[pT h hl _ h1];simp only;split at hs
    ·rename_i L1 hL1
     (try rw[hL1])
     (try simp only)
     split at hs
     ·rename_i hr
      rw[if_pos hr];split at hs
      ·rename_i h2;rw[pT h hl _ h2];exact hs
      ·cases hs
     ·cases hs
    ·cases hs
   ·cases hs
  ·cases hs
 ·cases hs
end
theorem MF {X:Ctx}:∀(k:Nat),Cl.le (aY X k) (aY X (k+1))
 | 0,_,_,_,_,h=>by simp[aY]at h
 | k+1,f,a,H,r,h=>by
  have ih:=MF (X:=X) k
  cases f with
  | func f pre caps=>
   unfold aY at h ⊢;split at h
   ·rename_i hp;(try rw[hp]);exact h
   ·rename_i hp
    (try rw[hp])
    (try simp only)
    split at h
    ·cases h
    ·rename_i fn hf
     (try rw[hf])
     (try simp only)
     split at h
     ·rename_i hb
      rw[if_pos hb];split at h
      ·rename_i he;rw[pT ih (by omega) _ he];exact h
      ·rename_i he;rw[pT ih (by omega) _ he];exact h
      ·cases h
     ·cases h
  | yield l=>
   unfold aY at h ⊢;exact XW ih (by omega) h
  | _=>simp[aY]at h
theorem nY {X : Ctx} {k m : Nat} (hk : k <= m) : Cl.le (aY X k) (aY X m) := by
  induction m with
  | zero => obtain rfl : k = 0 := by omega
            exact fun _ _ _ _ h => h
  | succ m ih =>
    by_cases hm : k = m + 1
    · subst hm; exact fun _ _ _ _ h => h
    · exact fun f a H r h => MF m f a H r (ih (by omega) f a H r h)
def Fe(X:Ctx)(f:D)(args:List D)(H:aA)(d:D)(H':aA):Prop:=∃n,∀m,n<=m->aY X m f args H=some (d,H')
theorem Fe.of {X:Ctx}{n:Nat}{f:D}{args:List D}{H H':aA}{d:D}(h:aY X n f args H=some (d,H')):Fe X f args H d H':=
 ⟨n,fun m hm=>nY hm _ _ _ _ h⟩
def Ev(X:Ctx)(b:Nat)(rnd:Option Nat)(p:ACode)(s:St)(ex:Ex)(s':St):Prop:=∃n,∀m,n<=m->exec X.G b (aY X m) m rnd p s=some (ex,s')
section
variable {X:Ctx}{b:Nat}{rnd:Option Nat}{p q:ACode}{s s' s'':St}{ex:Ex}
theorem Ev.of {n:Nat}(h:exec X.G b (aY X n) n rnd p s=some (ex,s')):Ev X b rnd p s ex s':=
 ⟨n,fun m hm=>pT (nY hm) hm _ h⟩
theorem Ev.seq(h:Ev X b rnd p s .normal s')(h':Ev X b rnd q s' ex s''):Ev X b rnd (.seq p q) s ex s'':=by
 obtain⟨n,h⟩:=h;obtain⟨n',h'⟩:=h';refine⟨max n n',fun m hm=>?_⟩;simp only[exec,h m (by omega),h' m (by omega)]
theorem Ev.skip:Ev X b rnd .skip s .normal s:=⟨0,fun _ _=>rfl⟩
theorem Ev.ret:Ev X b rnd .ret s .ret s:=⟨0,fun _ _=>rfl⟩
theorem Ev.exit {i:Nat}:Ev X b rnd (.exit i) s (.exit i) s:=⟨0,fun _ _=>rfl⟩
theorem Ev.block {i:Nat}(h:Ev X b rnd p s ex s')(hx:∀k,ex≠ .exit k):Ev X b rnd (.block i p) s ex s':=by
 obtain⟨n,h⟩:=h;refine⟨n,fun m hm=>?_⟩;simp only[exec,h m hm]
 cases ex <;> first | rfl | exact absurd rfl (hx _)
theorem Ev.zFz(h:Ev X b rnd p s ex s')(hx:ex≠ .normal):Ev X b rnd (.loop p) s ex s':=by
 obtain⟨n,h⟩:=h;refine⟨n+1,fun m hm=>?_⟩;obtain⟨k,rfl⟩:∃k,m=k+1:=⟨m-1,by omega⟩;simp only[exec,loopN,h (k+1) (by omega)]
 cases ex <;> first | rfl | exact absurd rfl hx
theorem Ev.loopN(h:Ev X b rnd p s .normal s')(h':Ev X b rnd (.loop p) s' ex s''):Ev X b rnd (.loop p) s ex s'':=by
 obtain⟨n,h⟩:=h;obtain⟨n',h'⟩:=h';refine⟨max n n'+1,fun m hm=>?_⟩;obtain⟨k,rfl⟩:∃k,m=k+1:=⟨m-1,by omega⟩;have e:=h' k (by omega);simp only[exec,AM.loopN,h (k+1) (by omega)]at e ⊢;exact J4 (fun s r hf=>pT (nY (by omega)) (by omega) _ hf) (Nat.le_refl k) e
theorem Ev.loop {Q:Ex->St->Prop}(I:Nat->St->Prop)
  (hI:∀k s,I k s->(∃s' k',k'<k∧Ev X b rnd p s .normal s'∧I k' s')∨(∃ex s',ex≠ .normal∧Ev X b rnd p s ex s'∧Q ex s')):
  ∀k s,I k s->∃ex s',ex≠ .normal∧Ev X b rnd (.loop p) s ex s'∧Q ex s':=by
 intro k
 induction k using Nat.strongRecOn with
 | ind k ih=>
  intro s hs;rcases hI k s hs with⟨s',k',hk,h1,h2⟩ | ⟨ex,s',hx,h1,h2⟩
  ·obtain⟨ex,s'',g0,g1,g2⟩:=ih k' hk s' h2
   exact⟨ex,s'',g0,.loopN h1 g1,g2⟩
  ·exact⟨ex,s',hx,.zFz h1 hx,h2⟩
theorem Fe.mk {f:Nat}{fn:AFunc}{pre args caps:List D}{H H':aA}{d:D}(hp:X.prims f (pre++args++caps)=none)(hf:X.fn f=some fn)(hl:(pre++args++caps).length<65535)
  (he:∃ex s,(ex=.normal∨ex=.ret)∧Ev X H.length none fn.body ⟨Env.nil.dL 0 (pre++args++caps),H,[]⟩ ex s∧finish fn H.length s=some (d,H')):Fe X (.func f pre caps) args H d H':=by
 obtain⟨ex,s,hx,⟨n,h⟩,hfin⟩:=he;refine⟨n+1,fun m hm=>?_⟩;obtain⟨k,rfl⟩:∃k,m=k+1:=⟨m-1,by omega⟩;unfold aY;rw[hp,hf];have hb:Nat.blt (pre++args++caps).length 65535=true:=by rw[Nat.blt_eq];exact hl
 simp only[hb,if_true,h k (by omega)];rcases hx with rfl | rfl <;> exact hfin
end
end Go.AM
namespace Go.AM
open Classical
noncomputable def eW {α:Type}(g:Nat->Option α):Option α:=if h:∃r,∃n,∀m,n<=m->g m=some r then some h.choose else none
def Up {α:Type}(g:Nat->Option α):Prop:=∀m m' r,m<=m'->g m=some r->g m'=some r
section
variable {α:Type}{g g':Nat->Option α}
theorem fS {r:α}:eW g=some r↔∃n,∀m,n<=m->g m=some r:=by
 unfold eW;constructor
 ·intro h
  split at h
  ·rename_i h'
   obtain⟨n,hn⟩:=h'.choose_spec
   cases h
   exact⟨n,hn⟩
  ·cases h
 ·rintro⟨n,hn⟩
  have h':∃r,∃n,∀m,n<=m->g m=some r:=⟨r,n,hn⟩;rw[dif_pos h'];obtain⟨n',hn'⟩:=h'.choose_spec;have:=hn' (max n n') (by omega);rw[hn (max n n') (by omega)]at this;exact this.symm
theorem yY(n:Nat)(h:∀m,n<=m->g m=g' m):eW g=eW g':=by
 apply Option.ext;intro r;rw[fS,fS];constructor
 ·rintro⟨k,hk⟩;exact⟨max n k,fun m hm=>by rw[← h m (by omega)];exact hk m (by omega)⟩
 ·rintro⟨k,hk⟩;exact⟨max n k,fun m hm=>by rw[h m (by omega)];exact hk m (by omega)⟩
theorem dZ(o:Option α):eW (fun _=>o)=o:=by
 apply Option.ext;intro r;rw[fS];exact⟨fun⟨n,h⟩=>h n (Nat.le_refl n),fun h=>⟨0,fun _ _=>h⟩⟩
theorem Up.cases(h:Up g):(∀m,g m=none)∨∃r n,∀m,n<=m->g m=some r:=by
 by_cases hn:∀m,g m=none
 ·exact .inl hn
 ·obtain⟨m,hm⟩:=Classical.not_forall.1 hn
  obtain⟨r,hr⟩:=Option.ne_none_iff_exists'.1 hm;exact .inr ⟨r,m,fun m' hm'=>h m m' r hm' hr⟩
theorem zFD(h1:∀k r,g k=some r->∃n,∀m,n<=m->g' m=some r)(h2:∀k r,g' k=some r->∃n,∀m,n<=m->g m=some r):eW g=eW g':=by
 apply Option.ext;intro r;rw[fS,fS];exact⟨fun⟨k,hk⟩=>h1 k r (hk k (Nat.le_refl k)),fun⟨k,hk⟩=>h2 k r (hk k (Nat.le_refl k))⟩
end
noncomputable def aU(X:Ctx):Cl:=fun f a H=>eW (fun m=>aY X m f a H)
noncomputable def cX(X:Ctx)(b:Nat)(rnd:Option Nat)(p:ACode)(s:St):Option (Ex×St):=eW (fun m=>exec X.G b (aY X m) m rnd p s)
section
variable {X:Ctx}{b:Nat}{rnd:Option Nat}
theorem QL(f:D)(a:List D)(H:aA):Up (fun m=>aY X m f a H):=fun m m' r hm h=>nY hm _ _ _ _ h
theorem xN(p:ACode)(s:St):Up (fun m=>exec X.G b (aY X m) m rnd p s):=fun m m' r hm h=>pT (nY hm) hm _ h
theorem Nd {f:D}{a:List D}{H:aA}{r:D×aA}:aU X f a H=some r↔∃n,∀m,n<=m->aY X m f a H=some r:=fS
theorem MC {n:Nat}{f:D}{a:List D}{H:aA}{r:D×aA}(h:aY X n f a H=some r):aU X f a H=some r:=Nd.2 ⟨n,fun m hm=>nY hm _ _ _ _ h⟩
theorem TN {G:Nat->Option (List D)}{c:Cl}{e:Env}{H:aA}{f:Arg}{args:List Arg}:step G b c e H (.call f args)=c (aI G e f) (fM G e args) H:=rfl
theorem BT {G:Nat->Option (List D)}{c c':Cl}{e:Env}{H:aA}{o:AOp}(h:∀f args,o≠ .call f args):step G b c e H o=step G b c' e H o:=by
 cases o <;> first | rfl | exact absurd rfl (h _ _)
theorem TH(e:Env)(H:aA)(o:AOp):eW (fun m=>step X.G b (aY X m) e H o)=step X.G b (aU X) e H o:=by
 by_cases h:∃f args,o=.call f args
 ·obtain⟨f,args,rfl⟩:=h
  simp only[TN];rfl
 ·have h':∀f args,o≠ .call f args:=fun f args e=>h ⟨f,args,e⟩
  have:(fun m=>step X.G b (aY X m) e H o)=fun _=>step X.G b (aU X) e H o:=funext fun m=>BT h'
  rw[this,dZ]
theorem QJ(ops:List AOper)(e:Env)(H:aA):Up (fun m=>eU X.G b (aY X m) ops e H):=fun m m' r hm h=>Hd (nY hm) h
theorem QK(o:AOper)(e:Env)(H:aA):Up (fun m=>bD X.G b (aY X m) e H o):=fun m m' r hm h=>W5 (nY hm) h
theorem FN(e:Env)(H:aA)(o:AOper):eW (fun m=>bD X.G b (aY X m) e H o)=bD X.G b (aU X) e H o:=by
 unfold bD
 cases gW e o.guard with
 | none=>exact dZ _
 | some w=>cases w with
  | true=>exact TH e H o.op
  | false=>exact dZ _
theorem XL(ops:List AOper):∀(e:Env) (H:aA),eW (fun m=>eU X.G b (aY X m) ops e H)=eU X.G b (aU X) ops e H:=by
 induction ops with
 | nil=>intro e H;exact dZ _
 | cons o r ih=>
  intro e H;rw[show eU X.G b (aU X) (o::r) e H=(match bD X.G b (aU X) e H o with
   | some (d,H')=>eU X.G b (aU X) r (bS e o.dst d) H'
   | none=>none) from rfl, ← FN]
  rcases(QK (X:=X) (b:=b) o e H).cases with hn | ⟨⟨d,H'⟩,n,hn⟩
  ·have e1:(fun m=>bD X.G b (aY X m) e H o)=fun _=>none:=funext hn
   rw[e1,dZ];have e2:(fun m=>eU X.G b (aY X m) (o::r) e H)=fun _=>none:=funext fun m=>by
    show(match bD X.G b (aY X m) e H o with
     | some (d,H')=>eU X.G b (aY X m) r (bS e o.dst d) H'
     | none=>none)=none
    rw[hn m]
   rw[e2,dZ]
  ·rw[fS.2 ⟨n,hn⟩]
   simp only;rw[← ih];exact yY n fun m hm=>by
    show(match bD X.G b (aY X m) e H o with
     | some (d,H')=>eU X.G b (aY X m) r (bS e o.dst d) H'
     | none=>none)=_
    rw[hn m hm]
theorem zIF(s:St):cX X b rnd .skip s=some (.normal,s):=dZ _
theorem zIH(s:St):cX X b rnd .ret s=some (.ret,s):=dZ _
theorem zIL(i:Nat)(s:St):cX X b rnd (.exit i) s=some (.exit i,s):=dZ _
theorem zII(ops:List AOper)(s:St):cX X b rnd (.reg ops) s=match eU X.G b (aU X) ops s.env s.H with
  | some (e,h)=>some (.normal,⟨e,h,s.dfs⟩)
  | none=>none:=by
 rw[← XL];rcases(QJ (X:=X) (b:=b) ops s.env s.H).cases with hn | ⟨⟨e,h⟩,n,hn⟩
 ·have e1:(fun m=>eU X.G b (aY X m) ops s.env s.H)=fun _=>none:=funext hn
  rw[e1,dZ];have e2:(fun m=>exec X.G b (aY X m) m rnd (.reg ops) s)=fun _=>none:=funext fun m=>by simp only[exec,hn m]
  show eW _=_;rw[e2,dZ]
 ·rw[fS.2 ⟨n,hn⟩]
  simp only;exact fS.2 ⟨n,fun m hm=>by simp only[exec,hn m hm]⟩
theorem zIG(p q:ACode)(s:St):cX X b rnd (.seq p q) s=match cX X b rnd p s with
  | some (.normal,s')=>cX X b rnd q s'
  | r=>r:=by
 rcases(xN (X:=X) (b:=b) (rnd:=rnd) p s).cases with hn | ⟨⟨ex,s'⟩,n,hn⟩
 ·have e1:cX X b rnd p s=none:=by
   show eW _=_;rw[show(fun m=>exec X.G b (aY X m) m rnd p s)=fun _=>none from funext hn,dZ]
  rw[e1];have e2:(fun m=>exec X.G b (aY X m) m rnd (.seq p q) s)=fun _=>none:=funext fun m=>by simp only[exec,hn m]
  show eW _=_;rw[e2,dZ]
 ·have e1:cX X b rnd p s=some (ex,s'):=fS.2 ⟨n,hn⟩
  rw[e1]
  cases ex with
  | normal=>exact yY n fun m hm=>by simp only[exec,hn m hm]
  | exit i=>exact fS.2 ⟨n,fun m hm=>by simp only[exec,hn m hm]⟩
  | ret=>exact fS.2 ⟨n,fun m hm=>by simp only[exec,hn m hm]⟩
theorem zIM(x:Arg)(p q:ACode)(s:St):cX X b rnd (.cond x p q) s=match aI X.G s.env x with
  | .bool x=>if x then cX X b rnd p s else cX X b rnd q s
  | _=>none:=by
 show eW _=_;simp only[exec]
 cases h:aI X.G s.env x with
 | bool x=>cases x <;> rfl
 | _=>exact dZ _
theorem zIN(i:Nat)(p:ACode)(s:St):cX X b rnd (.block i p) s=match cX X b rnd p s with
  | some (.exit j,s')=>if j=i then some (.normal,s')else some (.exit j,s')
  | r=>r:=by
 rcases(xN (X:=X) (b:=b) (rnd:=rnd) p s).cases with hn | ⟨⟨ex,s'⟩,n,hn⟩
 ·have e1:cX X b rnd p s=none:=by
   show eW _=_;rw[show(fun m=>exec X.G b (aY X m) m rnd p s)=fun _=>none from funext hn,dZ]
  rw[e1];have e2:(fun m=>exec X.G b (aY X m) m rnd (.block i p) s)=fun _=>none:=funext fun m=>by simp only[exec,hn m]
  show eW _=_;rw[e2,dZ]
 ·have e1:cX X b rnd p s=some (ex,s'):=fS.2 ⟨n,hn⟩
  rw[e1]
  cases ex with
  | normal=>exact fS.2 ⟨n,fun m hm=>by simp only[exec,hn m hm]⟩
  | exit j=>
   by_cases hj:j=i
   ·simp only[hj,if_true];subst hj;exact fS.2 ⟨n,fun m hm=>by simp only[exec,hn m hm,if_true]⟩
   ·simp only[hj,if_false];exact fS.2 ⟨n,fun m hm=>by simp only[exec,hn m hm,hj,if_false]⟩
  | ret=>exact fS.2 ⟨n,fun m hm=>by simp only[exec,hn m hm]⟩
theorem zIK(p:ACode)(s:St):cX X b rnd (.loop p) s=match cX X b rnd p s with
  | some (.normal,s')=>cX X b rnd (.loop p) s'
  | r=>r:=by
 rcases(xN (X:=X) (b:=b) (rnd:=rnd) p s).cases with hn | ⟨⟨ex,s'⟩,n,hn⟩
 ·have e1:cX X b rnd p s=none:=by
   show eW _=_;rw[show(fun m=>exec X.G b (aY X m) m rnd p s)=fun _=>none from funext hn,dZ]
  rw[e1];have e2:(fun m=>exec X.G b (aY X m) m rnd (.loop p) s)=fun _=>none:=funext fun m=>by
   cases m with
   | zero=>rfl
   | succ k=>simp only[exec,loopN,hn]
  show eW _=_;rw[e2,dZ]
 ·have e1:cX X b rnd p s=some (ex,s'):=fS.2 ⟨n,hn⟩
  rw[e1];have key:∀k,n<=k->exec X.G b (aY X (k+1)) (k+1) rnd (.loop p) s=match ex with
    | .normal=>loopN (exec X.G b (aY X (k+1)) (k+1) rnd p) k s'
    | ex=>some (ex,s'):=fun k hk=>by
   simp only[exec,loopN,hn (k+1) (by omega)]
   cases ex <;> rfl
  cases ex with
  | normal=>
   simp only at key ⊢;refine zFD (fun k r hr=>?_) (fun k r hr=>?_)
   ·have h1:exec X.G b (aY X (max k n+1)) (max k n+1) rnd (.loop p) s=some r:=pT (nY (by omega)) (by omega) _ hr
    rw[key _ (by omega)]at h1;refine⟨max k n+1,fun m hm=>?_⟩;exact J4 (fun s r h=>pT (nY (by omega)) (by omega) _ h) (by omega) h1
   ·refine⟨max k n+1,fun m hm=>?_⟩
    obtain⟨j,rfl⟩:∃j,m=j+1:=⟨m-1,by omega⟩;rw[key j (by omega)];exact J4 (fun s r h=>pT (nY (by omega)) (by omega) _ h) (by omega) hr
  | exit i=>
   refine fS.2 ⟨n+1,fun m hm=>?_⟩;obtain⟨j,rfl⟩:∃j,m=j+1:=⟨m-1,by omega⟩;exact key j (by omega)
  | ret=>
   refine fS.2 ⟨n+1,fun m hm=>?_⟩;obtain⟨j,rfl⟩:∃j,m=j+1:=⟨m-1,by omega⟩;exact key j (by omega)
theorem zIJ(f:Arg)(ps:List Nat)(asg body:ACode)(s:St):cX X b rnd (.rangeF f ps asg body) s=match rR rnd s ps asg body with
  | some (H,dfs)=>match aI X.G s.env f with
   | .func g pre caps=>match aU X (.func g pre caps) [.yield (H.length-1)] H with
    | some (_,H')=>match H'[H.length-1]? with
     | some (.loop L)=>if L.st=.busy then none else
      some (iO L.pend,⟨s.env,H'.set (H.length-1) (.loop { L with st:=.exhausted }),dfs⟩)
     | _=>none
    | none=>none
   | _=>none
  | none=>none:=by
 show eW _=_;simp only[exec]
 cases rR rnd s ps asg body with
 | none=>exact dZ _
 | some q=>
  obtain⟨H,dfs⟩:=q;simp only
  cases hf:aI X.G s.env f with
  | func g pre caps=>
   simp only;rcases(QL (X:=X) (.func g pre caps) [.yield (H.length-1)] H).cases with hn | ⟨⟨d,H'⟩,n,hn⟩
   ·have e1:aU X (.func g pre caps) [.yield (H.length-1)] H=none:=by
     show eW _=_;rw[show(fun m=>aY X m (.func g pre caps) [.yield (H.length-1)] H)=fun _=>none from funext hn,dZ]
    rw[e1];simp only[hn];exact dZ _
   ·rw[Nd.2 ⟨n,hn⟩]
    simp only;exact(yY n fun m hm=>by simp only[hn m hm];rfl).trans (dZ _)
  | _=>exact dZ _
theorem Bf {f:Nat}{pre caps args:List D}{H:aA}{d:D}(h:X.prims f (pre++args++caps)=some d):aU X (.func f pre caps) args H=some (d,H):=
 MC (n:=1) (by unfold aY;rw[h])
theorem zKm {f:Nat}{fn:AFunc}{pre caps args:List D}{H:aA}(hp:X.prims f (pre++args++caps)=none)(hf:X.fn f=some fn)(hl:(pre++args++caps).length<65535):
  aU X (.func f pre caps) args H=match cX X H.length none fn.body ⟨Env.nil.dL 0 (pre++args++caps),H,[]⟩with
  | some (.normal,s)=>finish fn H.length s
  | some (.ret,s)=>finish fn H.length s
  | _=>none:=by
 have hb:Nat.blt (pre++args++caps).length 65535=true:=by rw[Nat.blt_eq];exact hl
 have key:∀k,aY X (k+1) (.func f pre caps) args H=match exec X.G H.length (aY X k) k none fn.body ⟨Env.nil.dL 0 (pre++args++caps),H,[]⟩with
   | some (.normal,s)=>finish fn H.length s
   | some (.ret,s)=>finish fn H.length s
   | _=>none:=fun k=>by
  show(match X.prims f (pre++args++caps)with
   | some d=>some (d,H)
   | none=>match X.fn f with
    | none=>none
    | some fn=>if Nat.blt (pre++args++caps).length 65535 then
     match exec X.G H.length (aY X k) k none fn.body ⟨Env.nil.dL 0 (pre++args++caps),H,[]⟩with
     | some (.normal,s)=>finish fn H.length s
     | some (.ret,s)=>finish fn H.length s
     | _=>none
     else none)=_
  rw[hp,hf];simp only[hb,if_true]
 rcases(xN (X:=X) (b:=H.length) (rnd:=none) fn.body ⟨Env.nil.dL 0 (pre++args++caps),H,[]⟩).cases with hn | ⟨⟨ex,s'⟩,n,hn⟩
 ·have e1:cX X H.length none fn.body ⟨Env.nil.dL 0 (pre++args++caps),H,[]⟩=none:=by
   show eW _=_;rw[show(fun m=>exec X.G H.length (aY X m) m none fn.body ⟨Env.nil.dL 0 (pre++args++caps),H,[]⟩)=fun _=>none from funext hn,dZ]
  rw[e1];show eW _=_;rw[show(fun m=>aY X m (.func f pre caps) args H)=fun _=>none from funext fun m=>by
   cases m with
   | zero=>rfl
   | succ k=>rw[key,hn k],dZ]
 ·rw[show cX X H.length none fn.body ⟨Env.nil.dL 0 (pre++args++caps),H,[]⟩=some (ex,s') from fS.2 ⟨n,hn⟩]
  refine(yY (n+1) fun m hm=>?_).trans (dZ _);obtain⟨k,rfl⟩:∃k,m=k+1:=⟨m-1,by omega⟩;rw[key,hn k (by omega)]
end
end Go.AM
namespace Go.AM
inductive Fr where
 | seq (q:ACode)
 | blk (i:Nat)
 | lp (p:ACode)
noncomputable def feed(X:Ctx)(b:Nat)(rnd:Option Nat):List Fr->Option (Ex×St)->Option (Ex×St)
 | [],o=>o
 | .seq q::K,o=>feed X b rnd K (match o with
  | some (.normal,s)=>cX X b rnd q s
  | r=>r)
 | .blk i::K,o=>feed X b rnd K (match o with
  | some (.exit j,s)=>if j=i then some (.normal,s)else some (.exit j,s)
  | r=>r)
 | .lp p::K,o=>feed X b rnd K (match o with
  | some (.normal,s)=>cX X b rnd (.loop p) s
  | r=>r)
def Ends(o:Option (Ex×St))(Q:Ex->St->Prop):Prop:=match o with
 | some (ex,s)=>Q ex s
 | none=>False
def YS(X:Ctx)(b:Nat)(rnd:Option Nat)(p:ACode)(K:List Fr)(s:St)(Q:Ex->St->Prop):Prop:=Ends (feed X b rnd K (cX X b rnd p s)) Q
def YX(X:Ctx)(b:Nat)(rnd:Option Nat)(ex:Ex)(K:List Fr)(s:St)(Q:Ex->St->Prop):Prop:=Ends (feed X b rnd K (some (ex,s))) Q
def YO(X:Ctx)(b:Nat)(rnd:Option Nat)(ops:List AOper)(K:List Fr)(e:Env)(H:aA)(dfs:List Nat)(Q:Ex->St->Prop):Prop:=
 Ends (feed X b rnd K (match eU X.G b (aU X) ops e H with
  | some (e',H')=>some (.normal,⟨e',H',dfs⟩)
  | none=>none)) Q
def Y1(X:Ctx)(b:Nat)(rnd:Option Nat)(o:rT)(dst:Option Nat)(r:List AOper)(K:List Fr)(e:Env)(dfs:List Nat)(Q:Ex->St->Prop):Prop:=match o with
 | some (d,H')=>YO X b rnd r K (bS e dst d) H' dfs Q
 | none=>False
def YC(X:Ctx)(b:Nat)(rnd:Option Nat)(d:D)(p q:ACode)(K:List Fr)(s:St)(Q:Ex->St->Prop):Prop:=match d with
 | .bool x=>if x then YS X b rnd p K s Q else YS X b rnd q K s Q
 | _=>False
section
variable {X:Ctx}{b:Nat}{rnd:Option Nat}{p q:ACode}{K:List Fr}{s:St}{Q:Ex->St->Prop}{e:Env}{H:aA}{dfs:List Nat}{ops r:List AOper}{o:AOper}{dst:Option Nat}{d:D}{i j:Nat}
theorem M1:∀(K:List Fr),feed X b rnd K none=none
 | []=>rfl
 | .seq _::K=>M1 K
 | .blk _::K=>M1 K
 | .lp _::K=>M1 K
theorem zN5:YS X b rnd (.seq p q) K s Q=YS X b rnd p (.seq q::K) s Q:=by
 unfold YS;rw[zIG];rfl
theorem zOf:YS X b rnd (.block i p) K s Q=YS X b rnd p (.blk i::K) s Q:=by
 unfold YS;rw[zIN];rfl
theorem zN4:YS X b rnd .skip K s Q=YX X b rnd .normal K s Q:=by unfold YS;rw[zIF];rfl
theorem zN6:YS X b rnd .ret K s Q=YX X b rnd .ret K s Q:=by unfold YS;rw[zIH];rfl
theorem zOc:YS X b rnd (.exit i) K s Q=YX X b rnd (.exit i) K s Q:=by unfold YS;rw[zIL];rfl
theorem zN7:YS X b rnd (.reg ops) K ⟨e,H,dfs⟩ Q=YO X b rnd ops K e H dfs Q:=by unfold YS;rw[zII];rfl
theorem zOe {x:Arg}:YS X b rnd (.cond x p q) K ⟨e,H,dfs⟩ Q=YC X b rnd (aI X.G e x) p q K ⟨e,H,dfs⟩ Q:=by
 unfold YS;rw[zIM]
 cases h:aI X.G e x with
 | bool c=>cases c <;> rfl
 | _=>show Ends (feed X b rnd K none) Q=_;rw[M1];rfl
theorem zNU:YX X b rnd .normal (.seq q::K) s Q=YS X b rnd q K s Q:=rfl
theorem zNT:YX X b rnd .ret (.seq q::K) s Q=YX X b rnd .ret K s Q:=rfl
theorem zNV:YX X b rnd (.exit i) (.seq q::K) s Q=YX X b rnd (.exit i) K s Q:=rfl
theorem zN1:YX X b rnd .normal (.blk i::K) s Q=YX X b rnd .normal K s Q:=rfl
theorem zN0:YX X b rnd .ret (.blk i::K) s Q=YX X b rnd .ret K s Q:=rfl
theorem zN2:YX X b rnd (.exit j) (.blk i::K) s Q=if j=i then YX X b rnd .normal K s Q else YX X b rnd (.exit j) K s Q:=by
 by_cases h:j=i
 ·rw[if_pos h];simp only[YX,feed,h,if_true]
 ·rw[if_neg h];simp only[YX,feed,h,if_false]
theorem eT:YS X b rnd (.loop p) K s Q=YS X b rnd p (.lp p::K) s Q:=by
 unfold YS;rw[zIK];rfl
theorem zNY:YX X b rnd .normal (.lp p::K) s Q=YS X b rnd (.loop p) K s Q:=rfl
theorem zNX:YX X b rnd .ret (.lp p::K) s Q=YX X b rnd .ret K s Q:=rfl
theorem zNZ:YX X b rnd (.exit i) (.lp p::K) s Q=YX X b rnd (.exit i) K s Q:=rfl
theorem zNW {ex:Ex}:YX X b rnd ex [] s Q=Q ex s:=rfl
theorem zOg:YO X b rnd [] K e H dfs Q=YX X b rnd .normal K ⟨e,H,dfs⟩ Q:=rfl
theorem zOh:YO X b rnd (o::r) K e H dfs Q=Y1 X b rnd (bD X.G b (aU X) e H o) o.dst r K e dfs Q:=by
 unfold YO Y1;show Ends (feed X b rnd K (match(match bD X.G b (aU X) e H o with
  | some (d,H')=>eU X.G b (aU X) r (bS e o.dst d) H'
  | none=>none)with
  | some (e',H')=>some (.normal,⟨e',H',dfs⟩)
  | none=>none)) Q=_
 cases bD X.G b (aU X) e H o with
 | none=>simp only[M1];rfl
 | some x=>rfl
theorem zOt:Y1 X b rnd (some (d,H)) dst r K e dfs Q=YO X b rnd r K (bS e dst d) H dfs Q:=rfl
theorem zOu:Y1 X b rnd none dst r K e dfs Q=False:=rfl
theorem zOv {c:Prop} [Decidable c]{x y:rT}:Y1 X b rnd (if c then x else y) dst r K e dfs Q=if c then Y1 X b rnd x dst r K e dfs Q else Y1 X b rnd y dst r K e dfs Q:=by
 split <;> rfl
theorem zOq:YC X b rnd (.bool true) p q K s Q=YS X b rnd p K s Q:=rfl
theorem zOr:YC X b rnd (.bool false) p q K s Q=YS X b rnd q K s Q:=rfl
theorem zOs {c:Bool}:YC X b rnd (.bool c) p q K s Q=((c=true->YS X b rnd p K s Q)∧(c=false->YS X b rnd q K s Q)):=by
 cases c <;> simp[YC]
def ZR:List (AOper×Nat×Nat)->Bool
 | []=>true
 | (o,_,_)::r=> !o.op.isE && ZR r
def strip:List (AOper×Nat×Nat)->List AOper
 | []=>[]
 | (o,_,_)::r=>o::strip r
theorem Hf:∀(l:List (AOper×Nat×Nat)) {i:Nat} {past:List (Nat×aA)} {e:Env} {H:aA} {r:Env×aA×List (Nat×aA)},cV X.G b (aU X) i l past e H=some r->∃n,∀m,n<=m->cV X.G b (aY X m) i l past e H=some r
 | [],_,_,_,_,_,h=>⟨0,fun _ _=>h⟩
 | (o,lo,hi)::l,i,past,e,H,r,h=>by
  have hrop:∀ {e:Env} {H:aA} {o:AOper} {x:D×aA},bD X.G b (aU X) e H o=some x->∃n,∀m,n<=m->bD X.G b (aY X m) e H o=some x:=fun {e H o x} hx=>by
   rw[← FN]at hx;exact fS.1 hx
  have hpure:o.op.isE=false->∀m (e:Env) (H:aA),bD X.G b (aY X m) e H o=bD X.G b (aU X) e H o:=fun hE m e H=>by
   unfold bD;rw[BT (c:=aY X m) (c':=aU X) (fun f args h=>by rw[h]at hE;cases hE)]
  unfold cV at h;split at h
  ·rename_i d H' ho
   obtain⟨n1,h1⟩:=hrop ho;split at h
   ·rename_i hE
    split at h
    ·rename_i hr
     obtain⟨n2,h2⟩:=Hf l hr;refine⟨max n1 n2,fun m hm=>?_⟩;unfold cV;rw[h1 m (by omega)];simp only[hE,if_true,h2 m (by omega)];exact h
    ·cases h
   ·rename_i hE
    have hE':o.op.isE=false:=by simpa using hE
    split at h
    ·rename_i hr
     obtain⟨n2,h2⟩:=Hf l hr;refine⟨max n1 n2,fun m hm=>?_⟩;unfold cV;rw[h1 m (by omega)];simp only[hE',Bool.false_eq_true,if_false,h2 m (by omega)];split at h
     ·rename_i hL
      rw[if_pos hL];split at h
      ·rename_i hq
       have e1:∀K,sameAt X.G b (aY X m) e o d K=sameAt X.G b (aU X) e o d K:=fun K=>by unfold sameAt;rw[hpure hE']
       have e2:∀ls,dR X.G b (aY X m) e o d lo ls=dR X.G b (aU X) e o d lo ls:=fun ls=>by
        induction ls with
        | nil=>rfl
        | cons x ls ih=>obtain⟨j,K⟩:=x;simp only[dR,e1,ih]
       have e3:∀ls,fQ X.G b (aY X m) e o d hi ls=fQ X.G b (aU X) e o d hi ls:=fun ls=>by
        induction ls with
        | nil=>rfl
        | cons x ls ih=>obtain⟨j,K⟩:=x;simp only[fQ,e1,ih]
       rw[e2,e3,if_pos hq];exact h
      ·cases h
     ·rename_i hL
      rw[if_neg hL];exact h
    ·cases h
  ·cases h
theorem M7 {l:List (AOper×Nat×Nat)}{s:St}{e':Env}{H':aA}{fut:List (Nat×aA)}(h:cV X.G b (aU X) 0 l [] s.env s.H=some (e',H',fut)):cX X b rnd (.dreg l) s=some (.normal,⟨e',H',s.dfs⟩):=by
 obtain⟨n,hn⟩:=Hf l h;exact fS.2 ⟨n,fun m hm=>by simp only[exec,hn m hm]⟩
def Fin(fn:AFunc)(n:Nat)(r:D×aA)(ex:Ex)(s:St):Prop:=match ex with
 | .normal=>finish fn n s=some r
 | .ret=>finish fn n s=some r
 | _=>False
theorem zKo {f:Nat}{fn:AFunc}{pre caps args:List D}{H:aA}{r:D×aA}(hp:X.prims f (pre++args++caps)=none)(hf:X.fn f=some fn)(hl:(pre++args++caps).length<65535)
  (h:YS X H.length none fn.body [] ⟨Env.nil.dL 0 (pre++args++caps),H,[]⟩ (Fin fn H.length r)):aU X (.func f pre caps) args H=some r:=by
 rw[zKm hp hf hl];unfold YS at h;simp only[feed]at h
 cases hx:cX X H.length none fn.body ⟨Env.nil.dL 0 (pre++args++caps),H,[]⟩with
 | none=>rw[hx]at h;exact h.elim
 | some x=>
  obtain⟨ex,s⟩:=x;rw[hx]at h
  cases ex with
  | normal=>exact h
  | ret=>exact h
  | exit i=>exact h.elim
theorem zOa {Q':Ex->St->Prop}(h:YS X b rnd p K s Q)(hq:∀ex s,Q ex s->Q' ex s):YS X b rnd p K s Q':=by
 unfold YS at h ⊢
 cases hx:feed X b rnd K (cX X b rnd p s)with
 | none=>rw[hx]at h;exact h.elim
 | some x=>obtain⟨ex,s'⟩:=x;rw[hx]at h;exact hq _ _ h
theorem wrap_i64 {n:Int}(h: -9223372036854775808<=n)(h':n<=9223372036854775807):IntKind.i64.wrap n=n:=by
 unfold IntKind.wrap;have hb:IntKind.i64.bits=64:=rfl;have hs:IntKind.i64.signed=true:=rfl;simp only[hb,hs];rw[show(2:Int) ^ 64=18446744073709551616 from rfl,show(2:Int) ^ (64-1)=9223372036854775808 from rfl];simp only[Bool.true_and,decide_eq_true_eq];split <;> omega
theorem cH {σ:Type}(I:σ->Env->aA->Prop)(m:σ->Nat)
  (step:∀k e H,I k e H->∀L,(∀k' e' H',m k'<m k->I k' e' H'->YS X b rnd (.loop L) K ⟨e',H',dfs⟩ Q)->YS X b rnd p (.lp L::K) ⟨e,H,dfs⟩ Q)
  (k:σ) {e:Env} {H:aA} (h:I k e H):YS X b rnd (.loop p) K ⟨e,H,dfs⟩ Q:=by
 generalize hn:m k=n
 induction n using Nat.strongRecOn generalizing k e H with
 | ind n ih=>
  rw[eT];exact step k e H h p fun k' e' H' hk h'=>ih (m k') (by omega) k' h' rfl
mutual
theorem D.Bn:∀d:D,d.beq d=true
 | .undef | .nilp | .nilsl | .nilf | .esl=>rfl
 | .bool a=>by simp[D.beq]
 | .int k a=>by simp[D.beq]
 | .str a=>by simp[D.beq]
 | .fptr a=>by simp only[D.beq];exact D.wR a
 | .fsl a n=>by simp[D.beq,D.wR a]
 | .ptr a o=>by simp[D.beq]
 | .rptr a g o=>by simp[D.beq]
 | .osl a g o n=>by simp[D.beq]
 | .func f a c=>by simp[D.beq,D.wR a,D.wR c]
 | .yield a=>by simp[D.beq]
 | .mp a=>by simp[D.beq]
 | .agg a=>by simp only[D.beq];exact D.wR a
 | .tup a=>by simp only[D.beq];exact D.wR a
 | .sym a b=>by simp[D.beq]
theorem D.wR:∀l:List D,D.kQ l l=true
 | []=>rfl
 | d::r=>by simp only[D.kQ,D.Bn d,D.wR r];rfl
end
open Classical in
noncomputable def xV(X:Ctx)(b:Nat):List AOper->Env->aA->Option Env
 | [],e,_=>some e
 | o::r,e,H=>match bD X.G b (aU X) e H o with
  | some (d,H')=>if H'=H then xV X b r (bS e o.dst d) H else none
  | none=>none
theorem WK {o:AOper}{d:D}{lo:Nat}(hs:sameAt X.G b (aU X) e o d H=true){l:List (Nat×aA)}(h:∀x∈l,x.2=H):dR X.G b (aU X) e o d lo l=true:=by
 induction l with
 | nil=>rfl
 | cons x r ih=>
  obtain⟨j,H1⟩:=x;have h1:H1=H:=h (j,H1) (by simp);subst h1;simp only[dR,hs,Bool.or_true,Bool.true_and];exact ih fun x hx=>h x (List.mem_cons_of_mem _ hx)
theorem WM {o:AOper}{d:D}{hi:Nat}(hs:sameAt X.G b (aU X) e o d H=true){l:List (Nat×aA)}(h:∀x∈l,x.2=H):fQ X.G b (aU X) e o d hi l=true:=by
 induction l with
 | nil=>rfl
 | cons x r ih=>
  obtain⟨j,H1⟩:=x;have h1:H1=H:=h (j,H1) (by simp);subst h1;simp only[fQ,hs,Bool.or_true,Bool.true_and];exact ih fun x hx=>h x (List.mem_cons_of_mem _ hx)
theorem XR {l:List (AOper×Nat×Nat)}:∀ {i:Nat} {past:List (Nat×aA)} {e e':Env},xV X b (strip l) e H=some e'->(∀x∈past,x.2=H)->∃fut,cV X.G b (aU X) i l past e H=some (e',H,fut)∧∀x∈fut,x.2=H:=by
 induction l with
 | nil=>intro i past e e' h _;cases h;exact⟨[],rfl,by simp⟩
 | cons x r ih=>
  obtain⟨o,lo,hi⟩:=x;intro i past e e' h hp;simp only[strip,xV]at h;split at h
  ·rename_i d H' ho
   split at h
   ·rename_i hh
    subst hh;unfold cV;rw[ho];simp only;by_cases hE:o.op.isE=true
    ·obtain⟨fut,g1,g2⟩:=ih (i:=i+1) (past:=(i,H')::past) h (fun x hx=>by
      rcases List.mem_cons.1 hx with rfl | hx
      ·rfl
      ·exact hp x hx)
     rw[if_pos hE,g1];exact⟨_,rfl,fun x hx=>by
      rcases List.mem_cons.1 hx with rfl | hx
      ·rfl
      ·exact g2 x hx⟩
    ·obtain⟨fut,g1,g2⟩:=ih (i:=i+1) (past:=past) h hp
     rw[if_neg hE,g1];simp only;by_cases hL:o.op.isL=true
     ·have hs:sameAt X.G b (aU X) e o d H'=true:=by unfold sameAt;rw[ho];exact D.Bn d
      rw[if_pos hL,WK hs hp,WM hs g2];exact⟨fut,rfl,g2⟩
     ·rw[if_neg hL];exact⟨fut,rfl,g2⟩
   ·cases h
  ·cases h
def YZ(X:Ctx)(b:Nat)(rnd:Option Nat)(ops:List AOper)(K:List Fr)(e:Env)(H:aA)(dfs:List Nat)(Q:Ex->St->Prop)(Z:Prop):Prop:=match xV X b ops e H with
 | some e'=>YX X b rnd .normal K ⟨e',H,dfs⟩ Q
 | none=>Z
open Classical in
noncomputable def Fa(X:Ctx)(b:Nat)(rnd:Option Nat)(o:rT)(dst:Option Nat)(r:List AOper)(K:List Fr)(e:Env)(H:aA)(dfs:List Nat)(Q:Ex->St->Prop)(Z:Prop):Prop:=match o with
 | some (d,H')=>if H'=H then YZ X b rnd r K (bS e dst d) H dfs Q Z else Z
 | none=>Z
def sI(X:Ctx)(b:Nat)(rnd:Option Nat)(l:List (AOper×Nat×Nat))(K:List Fr)(e:Env)(H:aA)(dfs:List Nat)(Q:Ex->St->Prop):Prop:=YS X b rnd (.dreg l) K ⟨e,H,dfs⟩ Q
theorem zOd {l:List (AOper×Nat×Nat)}:YS X b rnd (.dreg l) K ⟨e,H,dfs⟩ Q=YZ X b rnd (strip l) K e H dfs Q (sI X b rnd l K e H dfs Q):=by
 unfold YZ sI
 cases hr:xV X b (strip l) e H with
 | none=>rfl
 | some e'=>
  obtain⟨fut,g1,_⟩:=XR (i:=0) (past:=[]) hr (by simp);unfold YS;rw[M7 (s:=⟨e,H,dfs⟩) g1];rfl
variable {Z:Prop}
theorem zNQ:YZ X b rnd [] K e H dfs Q Z=YX X b rnd .normal K ⟨e,H,dfs⟩ Q:=rfl
open Classical in
theorem zNR:YZ X b rnd (o::r) K e H dfs Q Z=Fa X b rnd (bD X.G b (aU X) e H o) o.dst r K e H dfs Q Z:=by
 unfold YZ Fa;simp only[xV]
 cases bD X.G b (aU X) e H o with
 | none=>rfl
 | some x=>
  obtain⟨d,H'⟩:=x;simp only;by_cases h:H'=H
  ·rw[if_pos h,if_pos h];rfl
  ·rw[if_neg h,if_neg h]
open Classical in
theorem zNS:Fa X b rnd (some (d,H)) dst r K e H dfs Q Z=YZ X b rnd r K (bS e dst d) H dfs Q Z:=by
 simp[Fa]
end
end Go.AM
namespace Go.AM
section
variable {G:Nat->Option (List D)}{b:Nat}{c:Cl}{e:Env}{H:aA}
inductive Nl where
 | full | nil | emp
def SL(f:Nl)(cs:List D)(n:Nat):D:=match n with
 | 0=>match f with
  | .nil=>.nilsl
  | .emp=>.esl
  | .full=>.fsl cs 0
 | n+1=>.fsl cs (n+1)
theorem uA(f:Nl)(cs:List D)(n:Nat):(n=0∧SL f cs n=.nilsl)∨(n=0∧SL f cs n=.esl)∨SL f cs n=.fsl cs n:=by
 cases n with
 | zero=>cases f <;> simp[SL]
 | succ n=>simp[SL]
theorem B7 {f:Nl}{cs:List D}{n:Nat}(h:0<n):SL f cs n=.fsl cs n:=by
 cases n with
 | zero=>omega
 | succ n=>rfl
theorem zOA {cs:List D}{n:Nat}:SL .full cs n=.fsl cs n:=by cases n <;> rfl
def vQ(st:Bool)(d:D)(H:aA):rT:=match st,d with
  | true,.str s=>some (.int .i64 s.length,H)
  | false,.nilsl=>some (.int .i64 0,H)
  | false,.esl=>some (.int .i64 0,H)
  | false,.fsl _ n=>some (.int .i64 n,H)
  | false,.osl _ _ _ n=>some (.int .i64 n,H)
  | _,_=>none
theorem TJ {st:Bool}{x:Arg}:step G b c e H (.len st x)=vQ st (aI G e x) H:=rfl
theorem zF6 {s:Bs}:vQ true (.str s) H=some (.int .i64 s.length,H):=rfl
theorem zF8:vQ false .nilsl H=some (.int .i64 0,H):=rfl
theorem zGa:vQ false .esl H=some (.int .i64 0,H):=rfl
theorem zF9 {cs:List D}{n:Nat}:vQ false (.fsl cs n) H=some (.int .i64 n,H):=rfl
theorem zF7 {i h o n:Nat}:vQ false (.osl i h o n) H=some (.int .i64 n,H):=rfl
theorem zGb {f:Nl}{cs:List D}{n:Nat}:vQ false (SL f cs n) H=some (.int .i64 n,H):=by
 rcases uA f cs n with⟨rfl,h⟩ | ⟨rfl,h⟩ | h <;> rw[h] <;> rfl
def x8(es:Nat)(s i:D)(H:aA):rT:=match s,i with
  | .fsl cs n,.int _ j=>if 0<=j∧j<n then some (.fptr (cs.drop (j.toNat*es)),H)else none
  | .osl id hw off n,.int _ j=>if 0<=j∧j<n then some (.rptr id hw (off+j.toNat*es),H)else none
  | _,_=>none
theorem TL {es:Nat}{s i:Arg}:step G b c e H (.iaddr es s i)=x8 es (aI G e s) (aI G e i) H:=rfl
theorem zHf {es n:Nat}{cs:List D}{k:IntKind}{j:Int}:x8 es (.fsl cs n) (.int k j) H=if 0<=j∧j<n then some (.fptr (cs.drop (j.toNat*es)),H)else none:=rfl
theorem zHe {es i h o n:Nat}{k:IntKind}{j:Int}:x8 es (.osl i h o n) (.int k j) H=if 0<=j∧j<n then some (.rptr i h (o+j.toNat*es),H)else none:=rfl
theorem zHg {es n:Nat}{f:Nl}{cs:List D}{k:IntKind}{j:Int}:x8 es (SL f cs n) (.int k j) H=if 0<=j∧j<n then some (.fptr (cs.drop (j.toNat*es)),H)else none:=by
 rcases uA f cs n with⟨rfl,h⟩ | ⟨rfl,h⟩ | h
 ·rw[h,if_neg (by omega)];rfl
 ·rw[h,if_neg (by omega)];rfl
 ·rw[h];rfl
theorem jS {f:Nl}{cs:List D}{n m:Nat}:(SL f cs n).under m=true:=by
 rcases uA f cs n with⟨rfl,h⟩ | ⟨rfl,h⟩ | h <;> rw[h] <;> rfl
theorem kW {f:Nl}{cs:List D}{n:Nat}:(SL f cs n).one=true:=by
 rcases uA f cs n with⟨rfl,h⟩ | ⟨rfl,h⟩ | h <;> rw[h] <;> rfl
theorem Na {f:Nl}{cs:List D}{n:Nat}:(SL f cs n).cells=[SL f cs n]:=by
 rcases uA f cs n with⟨rfl,h⟩ | ⟨rfl,h⟩ | h <;> rw[h] <;> rfl
theorem lA {f:Nl}{cs:List D}{n g m:Nat}:fz H m (g+1) (SL f cs n)=some (SL f cs n):=by
 rcases uA f cs n with⟨rfl,h⟩ | ⟨rfl,h⟩ | h <;> rw[h] <;> rfl
theorem wO {es n:Nat}{f:Nl}{cs:List D}(h:cs.length=n*es):elems H es (SL f cs n)=some (cs,n):=by
 rcases uA f cs n with⟨rfl,h'⟩ | ⟨rfl,h'⟩ | h'
 ·rw[h'];simp at h;subst h;rfl
 ·rw[h'];simp at h;subst h;rfl
 ·rw[h'];simp[elems,h]
def cM(d:D)(H:aA):rT:=match d with
 | .undef=>none
 | d=>some (d,H)
theorem zEx {x:Bool}:cM (.bool x) H=some ((.bool x),H):=rfl
theorem zEs {k:IntKind}{n:Int}:cM (.int k n) H=some ((.int k n),H):=rfl
theorem zEk {s:Bs}:cM (.str s) H=some ((.str s),H):=rfl
theorem zEp:cM .nilp H=some (.nilp,H):=rfl
theorem zEo:cM .nilsl H=some (.nilsl,H):=rfl
theorem zEq:cM .nilf H=some (.nilf,H):=rfl
theorem zEw:cM .esl H=some (.esl,H):=rfl
theorem zEv {cs:List D}:cM (.fptr cs) H=some ((.fptr cs),H):=rfl
theorem zEu {cs:List D}{n:Nat}:cM (.fsl cs n) H=some ((.fsl cs n),H):=rfl
theorem zEm {i o:Nat}:cM (.ptr i o) H=some ((.ptr i o),H):=rfl
theorem zEl {i h o:Nat}:cM (.rptr i h o) H=some ((.rptr i h o),H):=rfl
theorem zEn {i h o n:Nat}:cM (.osl i h o n) H=some ((.osl i h o n),H):=rfl
theorem zEt {f:Nat}{p q:List D}:cM (.func f p q) H=some ((.func f p q),H):=rfl
theorem zEh {i:Nat}:cM (.yield i) H=some ((.yield i),H):=rfl
theorem zEy {cs:List D}:cM (.agg cs) H=some ((.agg cs),H):=rfl
theorem zEi {cs:List D}:cM (.tup cs) H=some ((.tup cs),H):=rfl
theorem zEj {s:Bs}{l:List (Bs)}:cM (.sym s l) H=some ((.sym s l),H):=rfl
theorem zEr {i:Nat}:cM (.mp i) H=some ((.mp i),H):=rfl
theorem zEz {f:Nl}{cs:List D}{n:Nat}:cM (SL f cs n) H=some (SL f cs n,H):=by
 rcases uA f cs n with⟨rfl,h⟩ | ⟨rfl,h⟩ | h <;> rw[h] <;> rfl
theorem nI {d:D}(h:d≠ .undef):cM d H=some (d,H):=by
 unfold cM;split
 ·exact absurd rfl h
 ·rfl
theorem TE {x:Arg}:step G b c e H (.mov x)=cM (aI G e x) H:=rfl
theorem TD {q x y:Arg}:step G b c e H (.pick q x y)=match aI G e q with
  | .bool p=>cM (if p then aI G e x else aI G e y) H
  | _=>none:=rfl
theorem TG {ag:Bool}{n:Nat}{p:Arg}:step G b c e H (.load ag n p)=match hZ H (aI G e p)with
  | some cs=>match aJ ag n cs with
   | some d=>cM d H
   | none=>none
  | none=>none:=by
 simp only[step]
 cases hZ H (aI G e p)with
 | none=>rfl
 | some cs=>cases h:aJ ag n cs with
  | none=>simp only[h]
  | some d=>simp only[h];cases d <;> rfl
theorem TM {x:Arg}{i:Nat}:step G b c e H (.extract x i)=match aI G e x with
  | .tup vs=>match vs[i]? with
   | some d=>cM d H
   | none=>none
  | _=>none:=by
 simp only[step]
 cases aI G e x with
 | tup vs=>cases h:vs[i]? with
  | none=>simp only[h]
  | some d=>simp only[h];cases d <;> rfl
 | _=>rfl
end
section
variable {H:aA}{m g:Nat}
theorem nH {x:Bool}:D.one (.bool x)=true:=rfl
theorem zKc {x:Bool}:D.cells (.bool x)=[.bool x]:=rfl
theorem mS {x:Bool}:D.under m (.bool x)=true:=rfl
theorem nR {x:Bool}:fz H m (g+1) (.bool x)=some (.bool x):=rfl
theorem nG {k:IntKind}{x:Int}:D.one (.int k x)=true:=rfl
theorem zJ7 {k:IntKind}{x:Int}:D.cells (.int k x)=[.int k x]:=rfl
theorem mO {k:IntKind}{x:Int}:D.under m (.int k x)=true:=rfl
theorem nQ {k:IntKind}{x:Int}:fz H m (g+1) (.int k x)=some (.int k x):=rfl
theorem nE {x:Bs}:D.one (.str x)=true:=rfl
theorem zJY {x:Bs}:D.cells (.str x)=[.str x]:=rfl
theorem mM {x:Bs}:D.under m (.str x)=true:=rfl
theorem nP {x:Bs}:fz H m (g+1) (.str x)=some (.str x):=rfl
theorem zAT:D.one .nilp=true:=rfl
theorem zJ4:D.cells .nilp=[.nilp]:=rfl
theorem QT:D.under m .nilp=true:=rfl
theorem zHJ:fz H m (g+1) .nilp=some .nilp:=rfl
theorem zAS:D.one .nilsl=true:=rfl
theorem zJ3:D.cells .nilsl=[.nilsl]:=rfl
theorem QS:D.under m .nilsl=true:=rfl
theorem zHI:fz H m (g+1) .nilsl=some .nilsl:=rfl
theorem zAU:D.one .nilf=true:=rfl
theorem zJ5:D.cells .nilf=[.nilf]:=rfl
theorem QU:D.under m .nilf=true:=rfl
theorem zHK:fz H m (g+1) .nilf=some .nilf:=rfl
theorem zAZ:D.one .esl=true:=rfl
theorem zKb:D.cells .esl=[.esl]:=rfl
theorem QZ:D.under m .esl=true:=rfl
theorem zHP:fz H m (g+1) .esl=some .esl:=rfl
theorem zAY {cs:List D}:D.one (.fptr cs)=true:=rfl
theorem zKa {cs:List D}:D.cells (.fptr cs)=[.fptr cs]:=rfl
theorem QY {cs:List D}:D.under m (.fptr cs)=true:=rfl
theorem zHO {cs:List D}:fz H m (g+1) (.fptr cs)=some (.fptr cs):=rfl
theorem zAX {cs:List D}{n:Nat}:D.one (.fsl cs n)=true:=rfl
theorem zJ9 {cs:List D}{n:Nat}:D.cells (.fsl cs n)=[.fsl cs n]:=rfl
theorem QX {cs:List D}{n:Nat}:D.under m (.fsl cs n)=true:=rfl
theorem zHN {cs:List D}{n:Nat}:fz H m (g+1) (.fsl cs n)=some (.fsl cs n):=rfl
theorem zAQ {i o:Nat}:D.one (.ptr i o)=true:=rfl
theorem zJ0 {i o:Nat}:D.cells (.ptr i o)=[.ptr i o]:=rfl
theorem zAP {i h o:Nat}:D.one (.rptr i h o)=true:=rfl
theorem zJZ {i h o:Nat}:D.cells (.rptr i h o)=[.rptr i h o]:=rfl
theorem zAR {i h o n:Nat}:D.one (.osl i h o n)=true:=rfl
theorem zJ1 {i h o n:Nat}:D.cells (.osl i h o n)=[.osl i h o n]:=rfl
theorem zAW {f:Nat}{p q:List D}:D.one (.func f p q)=true:=rfl
theorem zJ8 {f:Nat}{p q:List D}:D.cells (.func f p q)=[.func f p q]:=rfl
theorem zAO {i:Nat}:D.one (.yield i)=true:=rfl
theorem zJX {i:Nat}:D.cells (.yield i)=[.yield i]:=rfl
theorem zAV {i:Nat}:D.one (.mp i)=true:=rfl
theorem zJ6 {i:Nat}:D.cells (.mp i)=[.mp i]:=rfl
theorem zKd {cs:List D}:D.cells (.agg cs)=cs:=rfl
theorem RA {cs:List D}:D.under m (.agg cs)=D.aD m cs:=rfl
theorem QQ {i o:Nat}:D.under m (.ptr i o)=Nat.blt i m:=rfl
theorem QR {i h o n:Nat}:D.under m (.osl i h o n)=Nat.blt i m:=rfl
theorem QP {i h o:Nat}:D.under m (.rptr i h o)=Nat.blt i m:=rfl
theorem QV {i:Nat}:D.under m (.mp i)=Nat.blt i m:=rfl
theorem QN {i:Nat}:D.under m (.yield i)=Nat.blt i m:=rfl
theorem QW {f:Nat}{p q:List D}:D.under m (.func f p q)=(D.aD m p && D.aD m q):=rfl
theorem QO {cs:List D}:D.under m (.tup cs)=D.aD m cs:=rfl
theorem mK:D.aD m []=true:=rfl
theorem mL {d:D}{r:List D}:D.aD m (d::r)=(d.under m && D.aD m r):=rfl
theorem nC:D.aF []=true:=rfl
theorem nD {d:D}{r:List D}:D.aF (d::r)=(d.one && D.aF r):=rfl
theorem zHQ {cs:List D}:fz H m (g+1) (.agg cs)=match bN (fz H m g) cs with
  | some cs'=>some (.agg cs')
  | none=>none:=rfl
theorem zHH {i o:Nat}:fz H m (g+1) (.ptr i o)=if i<m then some (.ptr i o)else
   match H[i]? with
   | some (.box cs)=>match bN (fz H m g) (cs.drop o)with
    | some cs'=>if D.aD 0 cs' && D.aF cs' then some (.fptr cs')else none
    | none=>none
   | _=>none:=rfl
theorem aB {i h o n:Nat}:fz H m (g+1) (.osl i h o n)=if i<m then some (.osl i h o n)else
   match H[i]? with
   | some (.row es cs nil)=>
    if nil then(if n=0 then some .nilsl else none)else
    if cs.length=h∧o+n*es<=h then
     match bN (fz H m g) ((cs.drop o).take (n*es))with
     | some cs'=>if D.aD 0 cs' && D.aF cs' then some (.fsl cs' n)else none
     | none=>none
    else none
   | _=>none:=rfl
theorem zHE {i:Nat}:fz H m (g+1) (.yield i)=if i<m then some (.yield i)else none:=rfl
theorem zHL {i:Nat}:fz H m (g+1) (.mp i)=if i<m then some (.mp i)else none:=rfl
theorem zHM {f:Nat}{p q:List D}:fz H m (g+1) (.func f p q)=match bN (fz H m g) p,bN (fz H m g) q with
   | some p',some q'=>some (.func f p' q')
   | _,_=>none:=rfl
end
def gd(v c:Bool)(o:rT)(H:aA):rT:=if c=v then o else some (.tup [],H)
def gD(v c:Bool)(d:D):D:=if c=v then d else .tup []
def vU(v:Bool)(d:D)(o:rT)(H:aA):rT:=match d with
 | .bool c=>gd v c o H
 | .tup []=>some (.tup [],H)
 | _=>none
def mZ(c:Bool)(x y:D):D:=if c then x else y
section
variable {G:Nat->Option (List D)}{b:Nat}{call:Cl}{e:Env}{H:aA}{v w c:Bool}{o:rT}{d x y:D}
theorem XM {dst:Option Nat}{op:AOp}:bD G b call e H ⟨dst,none,op⟩=step G b call e H op:=rfl
theorem XO {dst:Option Nat}{op:AOp}{t:Nat}:bD G b call e H ⟨dst,some (t,v),op⟩=vU v (e.get t) (step G b call e H op) H:=by
 unfold bD gW vU;simp only
 cases h:e.get t with
 | bool c=>cases c <;> cases v <;> rfl
 | tup l=>cases l <;> rfl
 | _=>rfl
theorem zHz:vU v (.bool c) o H=gd v c o H:=rfl
theorem zHx:vU v (.tup []) o H=some (.tup [],H):=rfl
theorem zHr:gd true true o H=o:=rfl
theorem zHv:gd false false o H=o:=rfl
theorem zHs:gd true false o H=some (.tup [],H):=rfl
theorem zHu:gd false true o H=some (.tup [],H):=rfl
theorem zHt:gd v c (some (d,H)) H=some (gD v c d,H):=by unfold gd gD;split <;> rfl
theorem zHA:gD true true d=d:=rfl
theorem zHD:gD false false d=d:=rfl
theorem zHB:gD true false d=.tup []:=rfl
theorem zHC:gD false true d=.tup []:=rfl
theorem zHw {v' c':Bool}{o':rT}{H':aA}(hv:v=v')(hc:c=c')(hH:H=H')(ho:c'=v'->o=o'):gd v c o H=gd v' c' o' H':=by
 subst hv hc hH;unfold gd;split
 ·rename_i h;exact ho h
 ·rfl
theorem ZW:mZ true x y=x:=rfl
theorem zAa:mZ false x y=y:=rfl
theorem ZY:mZ c (gD true c x) y=mZ c x y:=by cases c <;> rfl
theorem ZZ:mZ c x (gD false c y)=mZ c x y:=by cases c <;> rfl
theorem zAb {a:Bool}:mZ c (.bool a) (.bool false)=.bool (c && a):=by cases c <;> rfl
theorem ZX {a:Bool}:mZ c (.bool true) (.bool a)=.bool (c || a):=by cases c <;> rfl
theorem zHy {a:Bool}:vU w (gD v c (.bool a)) o H=gd v c (gd w a o H) H:=by
 unfold gD gd;by_cases h:c=v
 ·simp[h,vU,gd]
 ·simp[h,vU]
theorem TC {q x y:Arg}:step G b call e H (.pick q x y)=match aI G e q with
  | .bool p=>cM (mZ p (aI G e x) (aI G e y)) H
  | _=>none:=by
 rw[TD]
 cases aI G e q with
 | bool p=>cases p <;> rfl
 | _=>rfl
end
def Ob(o:Option Chunk):Option (List D):=match o with
 | some (.box cs)=>some cs
 | _=>none
def xW(o:Option Chunk):Option (List D):=match o with
 | some (.row _ cs false)=>some cs
 | _=>none
def FP(o:Option Chunk):Nat:=match o with
 | some (.row es _ _)=>es
 | _=>0
def nB(o:Option D)(H:aA):rT:=match o with
 | some d=>some (d,H)
 | none=>none
def F9(o:Option aA):rT:=match o with
 | some H'=>some (.tup [],H')
 | none=>none
def fJ {α β:Type}(o:Option α)(f:α->Option β):Option β:=match o with
 | some x=>f x
 | none=>none
theorem NK {α β:Type}{x:α}{f:α->Option β}:fJ (some x) f=f x:=rfl
theorem zMs {α β:Type}{f:α->Option β}:fJ none f=none:=rfl
def GP(q x y:D)(H:aA):rT:=match q with
 | .bool p=>cM (mZ p x y) H
 | _=>none
def Ai(off:Nat)(p:D)(H:aA):rT:=match p with
  | .ptr i o=>some (.ptr i (o+off),H)
  | .rptr i h o=>some (.rptr i h (o+off),H)
  | .fptr cs=>some (.fptr (cs.drop off),H)
  | _=>none
def Z8(p:D)(H:aA):rT:=match p with
  | .ptr i o=>some (.ptr i o,H)
  | .rptr i h o=>some (.rptr i h o,H)
  | .fptr cs=>some (.fptr cs,H)
  | _=>none
def KO(neg:Bool)(x y:D)(H:aA):rT:=match x,y with
  | .bool a,.bool b=>some (.bool (neg != (a == b)),H)
  | _,_=>none
def Me(neg:Bool)(o:Option Bool)(H:aA):rT:=match o with
  | some b=>some (.bool (neg != b),H)
  | none=>none
def LH(k:IntKind)(x:D)(H:aA):rT:=match x with
  | .int _ n=>some (.int k (k.wrap n),H)
  | _=>none
def LF(x:D)(H:aA):rT:=match x with
  | .str s=>if s.length<=aX then some (.fsl (aZ s) s.length,H)else none
  | _=>none
def LG(x:D)(H:aA):rT:=match x with
  | .int _ n=>if 0<=n∧n<128 then some (.str [UInt8.ofNat n.toNat],H)else none
  | _=>none
def CI(x:D)(lo hi:Option D)(H:aA):rT:=match x with
  | .str s=>nB (fD s lo hi) H
  | _=>none
def zIo(ag:Bool)(off n:Nat)(x:D)(H:aA):rT:=match x with
  | .agg cs=>fJ (aJ ag n (cs.drop off)) fun d=>cM d H
  | _=>none
def Lc(x i:D)(H:aA):rT:=match x,i with
  | .str s,.int _ j=>if 0<=j then fJ s[j.toNat]? fun b=>some (.int .u8 b.toNat,H)else none
  | _,_=>none
def Ma(x:D)(i:Nat)(H:aA):rT:=match x with
  | .tup vs=>fJ vs[i]? fun d=>cM d H
  | _=>none
def Ld(n es:Nat)(p i:D)(H:aA):rT:=match p,i with
  | .fptr cs,.int _ j=>if 0<=j∧j<n then some (.fptr (cs.drop (j.toNat*es)),H)else none
  | .ptr id off,.int _ j=>if 0<=j∧j<n then some (.ptr id (off+j.toNat*es),H)else none
  | _,_=>none
def NQ(b:Nat)(bytes:Nat)(x y:D)(H:aA):rT:=match y with
  | .str s=>cR b H 1 bytes x (aZ s) s.length
  | _=>none
def HR(es bytes:Nat)(z:List D)(l c:D)(H:aA):rT:=match l,c with
  | .int .i64 l,.int .i64 c=>if 0<=l∧l<=c∧c.toNat*bytes<=aX∧c.toNat<=aX then
    some (.osl H.length (l.toNat*es) 0 l.toNat,H++[.row es (eB z l.toNat) false])else none
  | _,_=>none
def Bl(n:Nat)(cs:List D)(H:aA):rT:=if cs.length=n∧D.aD 0 cs∧D.aF cs then some (.fptr cs,H)else none
def O8(b:Nat)(o:Option (aA×List D)):rT:=match o with
 | some (H',cs)=>if storable b H' H'.length cs then some (.ptr H'.length 0,H'++[.box cs])else none
 | none=>none
def Om(o:Option (aA×List D)):rT:=match o with
 | some (H',cs)=>some (.ptr H'.length 0,H'++[.box cs])
 | none=>none
def zFl(m k:D)(H:aA):rT:=match m,k with
  | .mp id,.int .i64 n=>match H[id]? with
   | some (.map es)=>some (.bool (pL n es),H)
   | _=>none
  | _,_=>none
def zFc(m k v:D)(H:aA):rT:=match m,k,v with
  | .mp id,.int .i64 n,.bool x=>match H[id]? with
   | some (.map es)=>some (.tup [],H.set id (.map (lR n x es)))
   | _=>none
  | _,_,_=>none
section
variable {G:Nat->Option (List D)}{b:Nat}{call:Cl}{e:Env}{H:aA}
theorem zAz {d:D}:nB (some d) H=some (d,H):=rfl
theorem zAA {p:Prop} [Decidable p]{x y:Option D}:nB (if p then x else y) H=if p then nB x H else nB y H:=by split <;> rfl
theorem zAB {H':aA}:F9 (some H')=some (.tup [],H'):=rfl
theorem zGs {q x y:Arg}:step G b call e H (.pick q x y)=GP (aI G e q) (aI G e x) (aI G e y) H:=by rw[TC];rfl
theorem zAd {p:Bool}{x y:D}:GP (.bool p) x y H=cM (mZ p x y) H:=rfl
theorem zGB {ag:Bool}{n:Nat}{p:Arg}:step G b call e H (.load ag n p)=fJ (hZ H (aI G e p)) fun cs=>fJ (aJ ag n cs) fun d=>cM d H:=by
 rw[TG]
 cases hZ H (aI G e p)with
 | none=>rfl
 | some cs=>simp only[fJ];cases aJ ag n cs <;> rfl
theorem zKi {cs:List D}:hZ H (.fptr cs)=some cs:=rfl
theorem zKh {i o:Nat}:hZ H (.ptr i o)=fJ (Ob H[i]?) fun cs=>some (cs.drop o):=by
 simp only[hZ]
 cases H[i]? with
 | none=>rfl
 | some c=>cases c <;> rfl
theorem zKg {i hw o:Nat}:hZ H (.rptr i hw o)=fJ (xW H[i]?) fun cs=>if cs.length=hw then some (cs.drop o)else none:=by
 simp only[hZ]
 cases H[i]? with
 | none=>rfl
 | some c=>cases c with
  | row es cs nil=>cases nil <;> rfl
  | _=>rfl
theorem zMn {cs:List D}:Ob (some (.box cs))=some cs:=rfl
theorem XS {es:Nat}{cs:List D}:xW (some (.row es cs false))=some cs:=rfl
theorem zGH {off:Nat}{p:Arg}:step G b call e H (.faddr off p)=Ai off (aI G e p) H:=rfl
theorem zID {off:Nat}{cs:List D}:Ai off (.fptr cs) H=some (.fptr (cs.drop off),H):=rfl
theorem zIC {off i o:Nat}:Ai off (.ptr i o) H=some (.ptr i (o+off),H):=rfl
theorem zIB {off i h o:Nat}:Ai off (.rptr i h o) H=some (.rptr i h (o+off),H):=rfl
theorem zGt {p:Arg}:step G b call e H (.nilchk p)=Z8 (aI G e p) H:=rfl
theorem zEM {cs:List D}:Z8 (.fptr cs) H=some (.fptr cs,H):=rfl
theorem zEL {i o:Nat}:Z8 (.ptr i o) H=some (.ptr i o,H):=rfl
theorem zEK {i h o:Nat}:Z8 (.rptr i h o) H=some (.rptr i h o,H):=rfl
theorem zGW {op:BinOp}{x y:Arg}:step G b call e H (.bin op x y)=nB (cQ op (aI G e x) (aI G e y)) H:=rfl
theorem zGn {op:UnOp}{x:Arg}:step G b call e H (.un op x)=nB (rB op (aI G e x)) H:=rfl
theorem zGL {neg:Bool}{x y:Arg}:step G b call e H (.eqB neg x y)=KO neg (aI G e x) (aI G e y) H:=rfl
theorem zI0 {neg p q:Bool}:KO neg (.bool p) (.bool q) H=some (.bool (neg != (p == q)),H):=rfl
theorem zGK {neg:Bool}{x y:Arg}:step G b call e H (.eqP neg x y)=Me neg (lW (aI G e x) (aI G e y)) H:=rfl
theorem zGJ {neg:Bool}{x y:Arg}:step G b call e H (.eqS neg x y)=Me neg (pU (aI G e x) (aI G e y)) H:=rfl
theorem zIX {neg p:Bool}:Me neg (some p) H=some (.bool (neg != p),H):=rfl
theorem zGO {k:IntKind}{x:Arg}:step G b call e H (.convI k x)=LH k (aI G e x) H:=rfl
theorem zJA {k k':IntKind}{n:Int}:LH k (.int k' n) H=some (.int k (k.wrap n),H):=rfl
theorem zGM {x:Arg}:step G b call e H (.convSB x)=LF (aI G e x) H:=rfl
theorem zJy {s:Bs}:LF (.str s) H=if s.length<=aX then some (.fsl (aZ s) s.length,H)else none:=rfl
theorem zGN {x:Arg}:step G b call e H (.convIS x)=LG (aI G e x) H:=rfl
theorem zJz {k:IntKind}{n:Int}:LG (.int k n) H=if 0<=n∧n<128 then some (.str [UInt8.ofNat n.toNat],H)else none:=rfl
theorem zGP {x:Arg}:step G b call e H (.convBS x)=fJ (elems H 1 (aI G e x)) fun q=>fJ (jD q.1) fun s=>some (.str s,H):=by
 simp only[step]
 cases elems H 1 (aI G e x)with
 | none=>rfl
 | some q=>obtain⟨cs,n⟩:=q;simp only[fJ];cases jD cs <;> rfl
theorem zGp {x:Arg}{lo hi:Option Arg}:step G b call e H (.sliceS x lo hi)=CI (aI G e x) (cZ G e lo) (cZ G e hi) H:=rfl
theorem VT {s:Bs}{lo hi:Option D}:CI (.str s) lo hi H=nB (fD s lo hi) H:=rfl
theorem zGq {es:Nat}{x:Arg}{lo hi mx:Option Arg}:step G b call e H (.sliceL es x lo hi mx)=nB (iD es (aI G e x) (cZ G e lo) (cZ G e hi) (cZ G e mx)) H:=rfl
theorem zIn {ag:Bool}{off n:Nat}{cs:List D}:zIo ag off n (.agg cs) H=fJ (aJ ag n (cs.drop off)) fun d=>cM d H:=rfl
theorem zGC {x i:Arg}:step G b call e H (.indexS x i)=Lc (aI G e x) (aI G e i) H:=by
 simp only[step,Lc]
 cases aI G e x with
 | str s=>cases aI G e i with
  | int k j=>
   simp only;by_cases h:0<=j
   ·rw[if_pos h,if_pos h];cases s[j.toNat]? <;> rfl
   ·rw[if_neg h,if_neg h]
  | _=>rfl
 | _=>rfl
theorem zHb {s:Bs}{k:IntKind}{j:Int}:Lc (.str s) (.int k j) H=if 0<=j then fJ s[j.toNat]? fun b=>some (.int .u8 b.toNat,H)else none:=rfl
theorem zGI {x:Arg}{i:Nat}:step G b call e H (.extract x i)=Ma (aI G e x) i H:=by
 rw[TM]
 cases aI G e x with
 | tup vs=>simp only[Ma,fJ];cases vs[i]? <;> rfl
 | _=>rfl
theorem zIE {vs:List D}{i:Nat}:Ma (.tup vs) i H=fJ vs[i]? fun d=>cM d H:=rfl
theorem zGD {n es:Nat}{p i:Arg}:step G b call e H (.iaddrA n es p i)=Ld n es (aI G e p) (aI G e i) H:=rfl
theorem zHi {n es:Nat}{cs:List D}{k:IntKind}{j:Int}:Ld n es (.fptr cs) (.int k j) H=if 0<=j∧j<n then some (.fptr (cs.drop (j.toNat*es)),H)else none:=rfl
theorem zHh {n es id off:Nat}{k:IntKind}{j:Int}:Ld n es (.ptr id off) (.int k j) H=if 0<=j∧j<n then some (.ptr id (off+j.toNat*es),H)else none:=rfl
theorem zGY {es bytes:Nat}{x y:Arg}:step G b call e H (.append es bytes x y)=fJ (elems H es (aI G e y)) fun q=>cR b H es bytes (aI G e x) q.1 q.2:=by
 simp only[step]
 cases elems H es (aI G e y) <;> rfl
theorem zGX {bytes:Nat}{x y:Arg}:step G b call e H (.appendS bytes x y)=NQ b bytes (aI G e x) (aI G e y) H:=rfl
theorem Oi {bytes:Nat}{x:D}{s:Bs}:NQ b bytes x (.str s) H=cR b H 1 bytes x (aZ s) s.length:=rfl
theorem zGu {es bytes:Nat}{z:List D}{l c:Arg}:step G b call e H (.msl es bytes z l c)=HR es bytes z (aI G e l) (aI G e c) H:=rfl
theorem zFb {es bytes:Nat}{z:List D}{l c:Int}:HR es bytes z (.int .i64 l) (.int .i64 c) H=if 0<=l∧l<=c∧c.toNat*bytes<=aX∧c.toNat<=aX then
    some (.osl H.length (l.toNat*es) 0 l.toNat,H++[.row es (eB z l.toNat) false])else none:=rfl
theorem zGU {n:Nat}{x:Arg}:step G b call e H (.boxF n x)=Bl n (aI G e x).cells H:=rfl
theorem zMo {n:Nat}{cs:List D}(h1:cs.length=n)(h2:D.aD 0 cs=true)(h3:D.aF cs=true):Bl n cs H=some (.fptr cs,H):=by unfold Bl;rw[if_pos ⟨h1,h2,h3⟩]
theorem zGV {n:Nat}{x:Arg}{res:List (Nat×Nat)}:step G b call e H (.boxB n x res)=if(aI G e x).cells.length=n then O8 b (bU H (aI G e x).cells res)else none:=by
 simp only[step];split <;> first | rfl | (unfold O8;cases bU H (aI G e x).cells res <;> rfl)
theorem zMm {H':aA}{cs:List D}:O8 b (some (H',cs))=if storable b H' H'.length cs then some (.ptr H'.length 0,H'++[.box cs])else none:=rfl
theorem zGZ {zs:List D}{res:List (Nat×Nat)}:step G b call e H (.allocB zs res)=Om (bU H zs res):=by
 simp only[step];unfold Om;cases bU H zs res <;> rfl
theorem zM9 {H':aA}{cs:List D}:Om (some (H',cs))=some (.ptr H'.length 0,H'++[.box cs]):=rfl
theorem XY {cs:List D}:bU H cs []=some (H,cs):=rfl
theorem zGR {zs:List D}{ps:List (Nat×Nat×Arg)}:step G b call e H (.build zs ps)=fJ (fT zs (gK G e ps)) fun cs=>if D.aF cs then some (.agg cs,H)else none:=by
 simp only[step];cases fT zs (gK G e ps) <;> rfl
theorem zGT {zs:List D}{n:Nat}{ps:List (Nat×Nat×Arg)}:step G b call e H (.bslF zs n ps)=fJ (fT zs (gK G e ps)) fun cs=>if D.aD 0 cs∧D.aF cs then some (.fsl cs n,H)else none:=by
 simp only[step];cases fT zs (gK G e ps) <;> rfl
theorem zGS {es:Nat}{zs:List D}{n:Nat}{ps:List (Nat×Nat×Arg)}:step G b call e H (.bslR es zs n ps)=fJ (fT zs (gK G e ps)) fun cs=>if storable b H H.length cs then some (.osl H.length (n*es) 0 n,H++[.row es cs false])else none:=by
 simp only[step];cases fT zs (gK G e ps) <;> rfl
theorem zIk {cs:List D}:fT cs []=some cs:=rfl
theorem zIl {cs:List D}{o n:Nat}{v:D}{r:List (Nat×Nat×D)}:fT cs ((o,n,v)::r)=if v.cells.length=n∧o+n<=cs.length∧D.aF v.cells=true then fT (splice cs o v.cells) r else none:=rfl
theorem zGo {n:Nat}{p v:Arg}:step G b call e H (.store n p v)=F9 (jI b H n (aI G e p) (aI G e v)):=by
 simp only[step];cases jI b H n (aI G e p) (aI G e v) <;> rfl
theorem SX {n i o:Nat}{v:D}:jI b H n (.ptr i o) v=if v.cells.length=n then fJ (Ob H[i]?) fun cs=>if o+n<=cs.length then(if storable b H i v.cells=true then some (H.set i (.box (splice cs o v.cells)))else none)else none else none:=by
 simp only[jI];split
 ·cases H[i]? with
  | none=>rfl
  | some c=>cases c <;> rfl
 ·rfl
theorem SW {n i hw o:Nat}{v:D}:jI b H n (.rptr i hw o) v=if v.cells.length=n then fJ (xW H[i]?) fun cs=>if cs.length=hw then(if o+n<=cs.length then(if storable b H i v.cells=true then some (H.set i (.row (FP H[i]?) (splice cs o v.cells) false))else none)else none)else none else none:=by
 simp only[jI];split
 ·cases H[i]? with
  | none=>rfl
  | some c=>cases c with
   | row es cs nil=>cases nil <;> rfl
   | _=>rfl
 ·rfl
theorem XT {es:Nat}{cs:List D}{nil:Bool}:FP (some (.row es cs nil))=es:=rfl
theorem zAC {p:Prop} [Decidable p]{x y:Option aA}:F9 (if p then x else y)=if p then F9 x else F9 y:=by split <;> rfl
theorem zMt {α β:Type}{p:Prop} [Decidable p]{x y:Option α}{f:α->Option β}:fJ (if p then x else y) f=if p then fJ x f else fJ y f:=by split <;> rfl
theorem zGr {es:Nat}:step G b call e H (.resv es)=if 0<es then some (.osl H.length 0 0 0,H++[.row es [] true])else none:=rfl
theorem zGA {x:Arg}{xs:List Arg}:step G b call e H (.maxs x xs)=nB (maxD (aI G e x) (fM G e xs)) H:=rfl
theorem zGy {x:Arg}{xs:List Arg}:step G b call e H (.mins x xs)=nB (minD (aI G e x) (fM G e xs)) H:=rfl
theorem zFn {d:D}:maxD d []=some d:=by cases d <;> rfl
theorem zFo {k:IntKind}{x y:Int}{r:List D}:maxD (.int k x) (.int k y::r)=maxD (.int k (max x y)) r:=by
 simp only[maxD,if_true];congr 2;split <;> omega
theorem zFj {d:D}:minD d []=some d:=by cases d <;> rfl
theorem zFk {k:IntKind}{x y:Int}{r:List D}:minD (.int k x) (.int k y::r)=minD (.int k (min x y)) r:=by
 simp only[minD,if_true];congr 2;split <;> omega
theorem zGE {n:Nat}:step G b call e H (.hole n)=some (.undef,H):=rfl
theorem zGG {n:Nat}{x:Arg}:step G b call e H (.fill n ⟨x,none⟩)=Bl n (aI G e x).cells H:=rfl
theorem zGF {n:Nat}{x:Arg}{res:List (Nat×Nat)}:step G b call e H (.fill n ⟨x,some res⟩)=if(aI G e x).cells.length=n then O8 b (bU H (aI G e x).cells res)else none:=by
 simp only[step];split <;> first | rfl | (unfold O8;cases bU H (aI G e x).cells res <;> rfl)
theorem zGQ {f:Arg}{args:List Arg}:step G b call e H (.call f args)=call (aI G e f) (fM G e args) H:=rfl
theorem zGx {f:Nat}{pre caps:List Arg}:step G b call e H (.mkf f pre caps)=if D.fA (fM G e pre) && D.fA (fM G e caps)then some (.func f (fM G e pre) (fM G e caps),H)else none:=rfl
theorem zGw:step G b call e H .mkmap=some (.mp H.length,H++[.map []]):=rfl
theorem zGz {m k:Arg}:step G b call e H (.mget m k)=zFl (aI G e m) (aI G e k) H:=rfl
theorem zGv {m k v:Arg}:step G b call e H (.mset m k v)=zFc (aI G e m) (aI G e k) (aI G e v) H:=rfl
theorem zMN {k:IntKind}{x y:Int}:cQ .add (.int k x) (.int k y)=some (.int k (k.wrap (x+y))):=by simp[cQ,iV]
theorem zMu {k:IntKind}{x y:Int}:cQ .sub (.int k x) (.int k y)=some (.int k (k.wrap (x-y))):=by simp[cQ,iV]
theorem zMF {k:IntKind}{x y:Int}:cQ .mul (.int k x) (.int k y)=some (.int k (k.wrap (x*y))):=by simp[cQ,iV]
theorem zMC {k:IntKind}{x y:Int}:cQ .quo (.int k x) (.int k y)=if y=0 then none else some (.int k (k.wrap (x.tdiv y))):=by simp[cQ,iV]
theorem zMB {k:IntKind}{x y:Int}:cQ .rem (.int k x) (.int k y)=if y=0 then none else some (.int k (x.tmod y)):=by simp[cQ,iV]
theorem zMK {k:IntKind}{x y:Int}:cQ .eql (.int k x) (.int k y)=some (.bool (decide (x=y))):=by simp only[cQ,iV,if_true];by_cases h:x=y <;> simp[h]
theorem zME {k:IntKind}{x y:Int}:cQ .neq (.int k x) (.int k y)=some (.bool (!decide (x=y))):=by simp only[cQ,iV,if_true];by_cases h:x=y <;> simp[h]
theorem zMG {k:IntKind}{x y:Int}:cQ .lss (.int k x) (.int k y)=some (.bool (decide (x<y))):=by simp[cQ,iV]
theorem zMH {k:IntKind}{x y:Int}:cQ .leq (.int k x) (.int k y)=some (.bool (decide (x<=y))):=by simp[cQ,iV]
theorem zMI {k:IntKind}{x y:Int}:cQ .gtr (.int k x) (.int k y)=some (.bool (decide (y<x))):=by simp[cQ,iV]
theorem zMJ {k:IntKind}{x y:Int}:cQ .geq (.int k x) (.int k y)=some (.bool (decide (y<=x))):=by simp[cQ,iV]
theorem zMy {k k':IntKind}{x y:Int}:cQ .shl (.int k x) (.int k' y)=if y<0 then none else some (.int k (k.wrap (x*2 ^ (min y.toNat k.bits)))):=rfl
theorem P0 {k k':IntKind}{x y:Int}:cQ .shr (.int k x) (.int k' y)=if y<0 then none else some (.int k (x.fdiv (2 ^ (min y.toNat k.bits)))):=rfl
theorem zMA {x y:Bs}:cQ .add (.str x) (.str y)=if x.length+y.length<=9223372036854775807 then some (.str (x++y))else none:=rfl
theorem zMz {x y:Bs}:cQ .eql (.str x) (.str y)=some (.bool (decide (x=y))):=by simp only[cQ,pY];by_cases h:x=y <;> simp[h]
theorem zMv {x y:Bs}:cQ .neq (.str x) (.str y)=some (.bool (!decide (x=y))):=by simp only[cQ,pY];by_cases h:x=y <;> simp[h]
theorem zMw {x y:Bs}:cQ .lss (.str x) (.str y)=some (.bool (Op.bytesLess x y)):=rfl
theorem zMx {x y:Bs}:cQ .leq (.str x) (.str y)=some (.bool (Op.bytesLess x y || x == y)):=rfl
theorem RB {x:Bool}:rB .not (.bool x)=some (.bool !x):=rfl
theorem RC {k:IntKind}{x:Int}:rB .neg (.int k x)=some (.int k (k.wrap (0-x))):=rfl
end
theorem zFB {d:D}{r:List D}:aJ false 1 (d::r)=some d:=rfl
theorem jN {α:Type}{f:α->D}{l:List α}{k:Nat}(hk:k<l.length):aJ false 1 ((l.map f).drop k)=some (f l[k]):=by
 rw[List.drop_eq_getElem_cons (by simpa using hk)];simp[aJ]
theorem jB {g:D->Option D}{b:List D}:∀ {a:List D},bN g (a++b)=match bN g a with
  | some a'=>match bN g b with
   | some b'=>some (a'++b')
   | none=>none
  | none=>none
 | []=>by simp[bN];cases bN g b <;> rfl
 | x::a=>by
  simp only[List.cons_append,bN,jB (a:=a)]
  cases g x with
  | none=>rfl
  | some y=>cases bN g a with
   | none=>rfl
   | some a'=>cases bN g b <;> rfl
theorem Kt {α:Type}{g:D->Option D}{f:α->D}(h:∀x,g (f x)=some (f x)):∀(l:List α),bN g (l.map f)=some (l.map f)
 | []=>rfl
 | x::l=>by simp only[List.map_cons,bN,h,Kt h l]
theorem Gh {α:Type}{f:α->D}{n:Nat}(h:∀x,(f x).under n=true):∀(l:List α),D.aD n (l.map f)=true
 | []=>rfl
 | x::l=>by simp only[List.map_cons,D.aD,h,Gh h l];rfl
theorem Ia {α:Type}{f:α->D}(h:∀x,(f x).one=true):∀(l:List α),D.aF (l.map f)=true
 | []=>rfl
 | x::l=>by simp only[List.map_cons,D.aF,h,Ia h l];rfl
end Go.AM
namespace Go.AM
section
variable {α:Type}{H l:List α}{k:Nat}{x:α}
theorem gJ:(H++l)[H.length+k]? =l[k]? :=by rw[List.getElem?_append_right (by omega)];congr 1;omega
theorem xT:(H++l).set (H.length+k) x=H++l.set k x:=by
 rw[List.set_append_right _ _ (by omega)];congr 2;omega
end
theorem aH {b:Nat}{H:aA}{id:Nat}{vs:List D}(h1:∀n,D.aD n vs=true)(h2:D.aF vs=true):storable b H id vs=true:=by
 unfold storable;rw[h1,h2];rfl
theorem BS {b:Nat}{H:aA}{id:Nat}{k:IntKind}{n:Int}:storable b H id [.int k n]=true:=rfl
theorem SZ {b:Nat}{H:aA}{id:Nat}{x:Bool}:storable b H id [.bool x]=true:=rfl
theorem SY {b:Nat}{H:aA}{id:Nat}{x:Bs}:storable b H id [.str x]=true:=rfl
theorem xQ {s:Bs}{k:Nat}(h:k<=s.length):fD s (some (.int .i64 (k:Int))) none=some (.str (s.drop k)):=by
 simp[fD,dY,h]
theorem D8 {s:Bs}{k:Nat}(h:k<=s.length):fD s none (some (.int .i64 (k:Int)))=some (.str (s.take k)):=by
 simp[fD,dY,h]
theorem VS {s:Bs}{j k:Nat}(h:k<=s.length)(h':j<=k):fD s (some (.int .i64 (j:Int))) (some (.int .i64 (k:Int)))=some (.str ((s.take k).drop j)):=by
 simp[fD,dY,h,h']
theorem zFA {a:D}{r:List D}:aJ true 1 (a::r)=some (.agg [a]):=by simp[aJ]
theorem cB {a b:D}{r:List D}:aJ true 2 (a::b::r)=some (.agg [a,b]):=by simp[aJ]
theorem kL {a b c:D}{r:List D}:aJ true 3 (a::b::c::r)=some (.agg [a,b,c]):=by simp[aJ]
def eM(k:IntKind)(x y:Int):Int:=k.wrap (BitVec.ofInt k.bits x &&& BitVec.ofInt k.bits y).toNat
def lL(k:IntKind)(x y:Int):Int:=k.wrap (BitVec.ofInt k.bits x ||| BitVec.ofInt k.bits y).toNat
def Ok(k:IntKind)(x y:Int):Int:=k.wrap (BitVec.ofInt k.bits x &&& ~~~BitVec.ofInt k.bits y).toNat
theorem zMM {k:IntKind}{x y:Int}:cQ .and (.int k x) (.int k y)=some (.int k (eM k x y)):=by simp[cQ,iV,eM]
theorem zMD {k:IntKind}{x y:Int}:cQ .or (.int k x) (.int k y)=some (.int k (lL k x y)):=by simp[cQ,iV,lL]
theorem zML {k:IntKind}{x y:Int}:cQ .andNot (.int k x) (.int k y)=some (.int k (Ok k x y)):=by simp[cQ,iV,Ok]
theorem gH {x m:Int}(h:0<=m∧m<256):0<=eM .u8 x m∧eM .u8 x m<=m:=by
 unfold eM IntKind.wrap;have h1:(BitVec.ofInt 8 x &&& BitVec.ofInt 8 m).toNat<=m.toNat:=by
  rw[BitVec.toNat_and];refine Nat.le_trans Nat.and_le_right ?_;rw[BitVec.toNat_ofInt];have:m % (2 ^ 8:Nat)=m:=Int.emod_eq_of_lt h.1 (by omega);rw[this];omega
 have hb:IntKind.u8.bits=8:=rfl;have hs:IntKind.u8.signed=false:=rfl;rw[hb,hs]at *;simp only[Bool.false_and,Bool.false_eq_true,if_false];have e:((BitVec.ofInt 8 x &&& BitVec.ofInt 8 m).toNat:Int) % 2 ^ 8=((BitVec.ofInt 8 x &&& BitVec.ofInt 8 m).toNat:Int):=Int.emod_eq_of_lt (by omega) (by have:=(BitVec.ofInt 8 x &&& BitVec.ofInt 8 m).isLt;omega);rw[e];omega
theorem wrap_i32 {n:Int}(h:0<=n)(h':n<2147483648):IntKind.i32.wrap n=n:=by
 unfold IntKind.wrap;have hb:IntKind.i32.bits=32:=rfl;have hs:IntKind.i32.signed=true:=rfl;simp only[hb,hs];rw[show(2:Int) ^ 32=4294967296 from rfl,show(2:Int) ^ (32-1)=2147483648 from rfl];simp only[Bool.true_and,decide_eq_true_eq];split <;> omega
theorem wrap_u8 {n:Int}(h:0<=n)(h':n<256):IntKind.u8.wrap n=n:=by
 unfold IntKind.wrap;have hb:IntKind.u8.bits=8:=rfl;have hs:IntKind.u8.signed=false:=rfl;simp only[hb,hs];rw[show(2:Int) ^ 8=256 from rfl];simp only[Bool.false_and,Bool.false_eq_true,if_false];omega
theorem wrap_u32 {n:Int}(h:0<=n)(h':n<4294967296):IntKind.u32.wrap n=n:=by
 unfold IntKind.wrap;have hb:IntKind.u32.bits=32:=rfl;have hs:IntKind.u32.signed=false:=rfl;simp only[hb,hs];rw[show(2:Int) ^ 32=4294967296 from rfl];simp only[Bool.false_and,Bool.false_eq_true,if_false];omega
theorem wrap_u64 {n:Int}(h:0<=n)(h':n<18446744073709551616):IntKind.u64.wrap n=n:=by
 unfold IntKind.wrap;have hb:IntKind.u64.bits=64:=rfl;have hs:IntKind.u64.signed=false:=rfl;simp only[hb,hs];rw[show(2:Int) ^ 64=18446744073709551616 from rfl];simp only[Bool.false_and,Bool.false_eq_true,if_false];omega
theorem jL {x y:Int}(hx:0<=x∧x<1073741824)(hy:0<=y∧y<1073741824):0<=lL .i32 x y∧lL .i32 x y<1073741824:=by
 unfold lL;have hb:IntKind.i32.bits=32:=rfl;rw[hb];have e1:(BitVec.ofInt 32 x).toNat=x.toNat:=by
  rw[BitVec.toNat_ofInt,show x % (2 ^ 32:Nat)=x from Int.emod_eq_of_lt hx.1 (by omega)]
 have e2:(BitVec.ofInt 32 y).toNat=y.toNat:=by
  rw[BitVec.toNat_ofInt,show y % (2 ^ 32:Nat)=y from Int.emod_eq_of_lt hy.1 (by omega)]
 have h1:(BitVec.ofInt 32 x ||| BitVec.ofInt 32 y).toNat<2 ^ 30:=by
  rw[BitVec.toNat_or,e1,e2];exact Nat.or_lt_two_pow (by omega) (by omega)
 rw[wrap_i32 (by omega) (by omega)];omega
section
variable {X:Ctx}{b:Nat}{rnd:Option Nat}{K:List Fr}{Q:Ex->St->Prop}{e:Env}{H:aA}{dfs:List Nat}
theorem oR(n m:Nat){f:Arg}{ps:List Nat}{asg body:ACode}{g:Nat}{pre caps:List D}{d:D}{H':aA}(L:ALoop)(hn:H.length=n)(hm:n+1=m)(hf:aI X.G e f=.func g pre caps)
  (hc:aU X (.func g pre caps) [.yield m] (H++[.dfr false,.loop ⟨e,ps,asg,body,.ready,none,n⟩])=some (d,H'))
  (hl:H'[m]? =some (.loop L)) (hs:L.st≠ .busy)
  (h:YX X b none (iO L.pend) K ⟨e,H'.set m (.loop { L with st:=.exhausted }),n::dfs⟩ Q):YS X b none (.rangeF f ps asg body) K ⟨e,H,dfs⟩ Q:=by
 subst hn hm;unfold YS;rw[zIJ];have e0:H++[Chunk.dfr false]++[Chunk.loop ⟨e,ps,asg,body,.ready,none,H.length⟩]=H++[.dfr false,.loop ⟨e,ps,asg,body,.ready,none,H.length⟩]:=by simp
 have e1:(H++[Chunk.dfr false,Chunk.loop ⟨e,ps,asg,body,.ready,none,H.length⟩]).length-1=H.length+1:=by simp
 simp only[rR,e0,hf,e1,hc,hl,if_neg hs];exact h
theorem zKl {l:Nat}{args:List D}{L:ALoop}(h:H[l]? =some (.loop L))(hr:L.st=.ready)(ha:args.length=L.params.length):aU X (.yield l) args H=match cX X H.length (some l) L.assign ⟨L.env.dX L.params args,H,[]⟩with
   | some (.normal,s1)=>match s1.H[l]? with
    | some (.loop L1)=>
     if L1.st=.ready then
      match cX X H.length (some l) L.body ⟨s1.env,s1.H.set l (.loop { L1 with st:=.busy }),s1.dfs⟩with
      | some (ex,s2)=>match s2.H[l]? with
       | some (.loop L2)=>some ((eA ex L2).1,s2.H.set l (.loop (eA ex L2).2))
       | _=>none
      | none=>none
     else none
    | _=>none
   | _=>none:=by
 have key:∀k,aY X (k+1) (.yield l) args H=match exec X.G H.length (aY X k) k (some l) L.assign ⟨L.env.dX L.params args,H,[]⟩with
   | some (.normal,s1)=>match s1.H[l]? with
    | some (.loop L1)=>
     if L1.st=.ready then
      match exec X.G H.length (aY X k) k (some l) L.body ⟨s1.env,s1.H.set l (.loop { L1 with st:=.busy }),s1.dfs⟩with
      | some (ex,s2)=>match s2.H[l]? with
       | some (.loop L2)=>some ((eA ex L2).1,s2.H.set l (.loop (eA ex L2).2))
       | _=>none
      | none=>none
     else none
    | _=>none
   | _=>none:=fun k=>by
  show oY X.G (aY X k) k l args H=_;unfold oY;rw[h];simp only[hr,ha,and_self,if_true];rfl
 have hnone:∀(o:D×aA->Prop),(∀k,aY X (k+1) (.yield l) args H=none)->aU X (.yield l) args H=none:=fun _ hk=>by
  show eW _=_;rw[show(fun m=>aY X m (.yield l) args H)=fun _=>none from funext fun m=>by
   cases m with
   | zero=>rfl
   | succ k=>exact hk k,dZ]
 rcases(xN (X:=X) (b:=H.length) (rnd:=some l) L.assign ⟨L.env.dX L.params args,H,[]⟩).cases with hn | ⟨⟨ex,s1⟩,n,hn⟩
 ·rw[show cX X H.length (some l) L.assign ⟨L.env.dX L.params args,H,[]⟩=none by
   show eW _=_;rw[show(fun m=>exec X.G H.length (aY X m) m (some l) L.assign ⟨L.env.dX L.params args,H,[]⟩)=fun _=>none from funext hn,dZ]]
  exact hnone (fun _=>True) fun k=>by rw[key,hn k]
 ·rw[show cX X H.length (some l) L.assign ⟨L.env.dX L.params args,H,[]⟩=some (ex,s1) from fS.2 ⟨n,hn⟩]
  have big:∀o:rT,(∃n',∀m,n'<=m->aY X m (.yield l) args H=o)->aU X (.yield l) args H=o:=fun o ⟨n',h'⟩=>by
   show eW _=_;rw[yY n' (g':=fun _=>o) h',dZ]
  cases ex with
  | exit i=>
   refine big _ ⟨n+1,fun m hm=>?_⟩;obtain⟨k,rfl⟩:∃k,m=k+1:=⟨m-1,by omega⟩;rw[key,hn k (by omega)]
  | ret=>
   refine big _ ⟨n+1,fun m hm=>?_⟩;obtain⟨k,rfl⟩:∃k,m=k+1:=⟨m-1,by omega⟩;rw[key,hn k (by omega)]
  | normal=>
   simp only
   cases hs:s1.H[l]? with
   | none=>
    refine big _ ⟨n+1,fun m hm=>?_⟩;obtain⟨k,rfl⟩:∃k,m=k+1:=⟨m-1,by omega⟩;rw[key,hn k (by omega)];simp only[hs]
   | some c=>
    cases c with
    | loop L1=>
     simp only;by_cases hL:L1.st=.ready
     ·simp only[hL,if_true]
      rcases(xN (X:=X) (b:=H.length) (rnd:=some l) L.body ⟨s1.env,s1.H.set l (.loop { L1 with st:=.busy }),s1.dfs⟩).cases with hn2 | ⟨⟨ex2,s2⟩,n2,hn2⟩
      ·have e2:cX X H.length (some l) L.body ⟨s1.env,s1.H.set l (.loop { L1 with st:=.busy }),s1.dfs⟩=none:=by
        show eW _=_;rw[show(fun m=>exec X.G H.length (aY X m) m (some l) L.body ⟨s1.env,s1.H.set l (.loop { L1 with st:=.busy }),s1.dfs⟩)=fun _=>none from funext hn2,dZ]
       rw[e2];refine big _ ⟨n+1,fun m hm=>?_⟩;obtain⟨k,rfl⟩:∃k,m=k+1:=⟨m-1,by omega⟩;rw[key,hn k (by omega)];simp only[hs,hL,if_true,hn2 k]
      ·rw[show cX X H.length (some l) L.body ⟨s1.env,s1.H.set l (.loop { L1 with st:=.busy }),s1.dfs⟩=some (ex2,s2) from fS.2 ⟨n2,hn2⟩]
       refine big _ ⟨max n n2+1,fun m hm=>?_⟩;obtain⟨k,rfl⟩:∃k,m=k+1:=⟨m-1,by omega⟩;rw[key,hn k (by omega)];simp only[hs,hL,if_true,hn2 k (by omega)]
     ·simp only[hL,if_false]
      refine big _ ⟨n+1,fun m hm=>?_⟩;obtain⟨k,rfl⟩:∃k,m=k+1:=⟨m-1,by omega⟩;rw[key,hn k (by omega)];simp only[hs,hL,if_false]
    | _=>
     refine big _ ⟨n+1,fun m hm=>?_⟩;obtain⟨k,rfl⟩:∃k,m=k+1:=⟨m-1,by omega⟩;rw[key,hn k (by omega)];simp only[hs]
theorem qW {l:Nat}{args:List D}{L:ALoop}{r:D×aA}(h:H[l]? =some (.loop L))(hr:L.st=.ready)(ha:args.length=L.params.length)
  (h1:YS X H.length (some l) L.assign [] ⟨L.env.dX L.params args,H,[]⟩ fun ex s1=>ex=.normal∧∃L1,s1.H[l]? =some (.loop L1)∧L1.st=.ready∧
   YS X H.length (some l) L.body [] ⟨s1.env,s1.H.set l (.loop { L1 with st:=.busy }),s1.dfs⟩ fun ex s2=> ∃L2,s2.H[l]? =some (.loop L2)∧((eA ex L2).1,s2.H.set l (.loop (eA ex L2).2))=r):aU X (.yield l) args H=some r:=by
 rw[zKl h hr ha];unfold YS at h1;simp only[feed]at h1
 cases hx:cX X H.length (some l) L.assign ⟨L.env.dX L.params args,H,[]⟩with
 | none=>rw[hx]at h1;exact h1.elim
 | some x=>
  obtain⟨ex,s1⟩:=x;rw[hx]at h1;obtain⟨rfl,L1,g1,g2,g3⟩:=h1;simp only[g1,g2,if_true]
  cases hy:cX X H.length (some l) L.body ⟨s1.env,s1.H.set l (.loop { L1 with st:=.busy }),s1.dfs⟩with
  | none=>rw[hy]at g3;exact g3.elim
  | some y=>
   obtain⟨ex2,s2⟩:=y;rw[hy]at g3;obtain⟨L2,k1,k2⟩:=g3;simp only[k1,k2]
end
end Go.AM
namespace Go.AM
def rS:Nat->List (AOper×Nat×Nat)->List Nat
 | _,[]=>[]
 | i,(o,_,_)::r=>if o.op.isE then i::rS (i+1) r else rS (i+1) r
def sB(lo:Nat):List Nat->Bool
 | []=>true
 | j::r=>decide (j<lo) && sB lo r
def oC(hi:Nat):List Nat->Bool
 | []=>true
 | j::r=>decide (hi<=j) && oC hi r
def xP:Nat->List (AOper×Nat×Nat)->List Nat->Bool
 | _,[],_=>true
 | i,(o,lo,hi)::r,past=>
  if o.op.isE then xP (i+1) r (i::past)else
  if o.op.isL then(sB lo past && (oC hi (rS (i+1) r) && xP (i+1) r past))else xP (i+1) r past
section
variable {G:Nat->Option (List D)}{b:Nat}{c:Cl}
theorem CT {e:Env}{o:AOper}{d:D}{lo:Nat}:∀ {past:List (Nat×aA)},sB lo (past.map (·.1))=true->dR G b c e o d lo past=true
 | [],_=>rfl
 | (j,H)::r,h=>by
  simp only[List.map_cons,sB,Bool.and_eq_true,decide_eq_true_eq]at h;have h1:Nat.blt j lo=true:=by rw[Nat.blt_eq];exact h.1
  simp only[dR,h1,Bool.true_or,Bool.true_and];exact CT h.2
theorem Hb {e:Env}{o:AOper}{d:D}{hi:Nat}:∀ {fut:List (Nat×aA)},oC hi (fut.map (·.1))=true->fQ G b c e o d hi fut=true
 | [],_=>rfl
 | (j,H)::r,h=>by
  simp only[List.map_cons,oC,Bool.and_eq_true,decide_eq_true_eq]at h;have h1:Nat.ble hi j=true:=by rw[Nat.ble_eq];exact h.1
  simp only[fQ,h1,Bool.true_or,Bool.true_and];exact Hb h.2
theorem E4:∀ {l:List (AOper×Nat×Nat)} {i:Nat} {past:List (Nat×aA)} {e:Env} {H:aA} {r:Env×aA×List (Nat×aA)},cV G b c i l past e H=some r->r.2.2.map (·.1)=rS i l
 | [],_,_,_,_,r,h=>by simp[cV]at h;subst h;rfl
 | (o,lo,hi)::l,i,past,e,H,r,h=>by
  unfold cV at h;split at h
  ·split at h
   ·rename_i hE
    split at h
    ·rename_i hr
     cases h
     simp only[rS,hE,if_true,List.map_cons];rw[← E4 hr]
    ·cases h
   ·rename_i hE
    split at h
    ·rename_i hr
     simp only[rS,hE];split at h
     ·split at h
      ·cases h;exact E4 hr
      ·cases h
     ·cases h;exact E4 hr
    ·cases h
  ·cases h
theorem W8:∀ {l:List (AOper×Nat×Nat)} {i:Nat} {past:List (Nat×aA)} {e:Env} {H:aA},xP i l (past.map (·.1))=true->(cV G b c i l past e H).map (fun r=>(r.1,r.2.1))=eU G b c (strip l) e H
 | [],_,_,_,_,_=>rfl
 | (o,lo,hi)::l,i,past,e,H,hs=>by
  unfold xP at hs;unfold cV;simp only[strip,eU]
  cases ho:bD G b c e H o with
  | none=>rfl
  | some x=>
   obtain⟨d,H'⟩:=x;simp only;by_cases hE:o.op.isE=true
   ·rw[if_pos hE]at hs ⊢
    have ih:=W8 (l:=l) (i:=i+1) (past:=(i,H)::past) (e:=bS e o.dst d) (H:=H') (by simpa using hs);rw[← ih]
    cases cV G b c (i+1) l ((i,H)::past) (bS e o.dst d) H' <;> rfl
   ·rw[if_neg hE]at hs ⊢
    by_cases hL:o.op.isL=true
    ·rw[if_pos hL]at hs
     simp only[Bool.and_eq_true]at hs;have ih:=W8 (l:=l) (i:=i+1) (past:=past) (e:=bS e o.dst d) (H:=H') hs.2.2;rw[← ih]
     cases hr:cV G b c (i+1) l past (bS e o.dst d) H' with
     | none=>rfl
     | some r=>
      have hf:=E4 hr;have h2:fQ G b c e o d hi r.2.2=true:=Hb (by rw[hf];exact hs.2.1);simp only[hL,if_true,CT hs.1,h2,Bool.and_self]
    ·rw[if_neg hL]at hs
     have ih:=W8 (l:=l) (i:=i+1) (past:=past) (e:=bS e o.dst d) (H:=H') hs;rw[← ih]
     cases hr:cV G b c (i+1) l past (bS e o.dst d) H' with
     | none=>rfl
     | some r=>simp only[hL];rfl
end
section
variable {X:Ctx}{b:Nat}{rnd:Option Nat}{K:List Fr}{Q:Ex->St->Prop}{e:Env}{H:aA}{dfs:List Nat}
theorem zOK {l:List (AOper×Nat×Nat)}(hp:xP 0 l []=true):YS X b rnd (.dreg l) K ⟨e,H,dfs⟩ Q=YO X b rnd (strip l) K e H dfs Q:=by
 have h1:cX X b rnd (.dreg l) ⟨e,H,dfs⟩=match eU X.G b (aU X) (strip l) e H with
   | some (e',H')=>some (.normal,⟨e',H',dfs⟩)
   | none=>none:=by
  have hst:=W8 (G:=X.G) (b:=b) (c:=aU X) (l:=l) (i:=0) (past:=[]) (e:=e) (H:=H) hp
  cases h:cV X.G b (aU X) 0 l [] e H with
  | some x=>
   obtain⟨e',H',fut⟩:=x;rw[h]at hst;rw[← hst,M7 (s:=⟨e,H,dfs⟩) h];rfl
  | none=>
   rw[h]at hst;rw[← hst];refine(yY 0 fun m _=>?_).trans (dZ none);simp only[exec]
   cases hm:cV X.G b (aY X m) 0 l [] e H with
   | none=>rfl
   | some x=>
    exfalso;have hle:Cl.le (aY X m) (aU X):=fun f a H r hr=>MC hr
    have:=W9 hle hm;rw[h]at this
    cases this
 unfold YS YO;rw[h1]
 all_goals rfl
def AOp.isR:AOp->Bool
 | .call _ _=>false
 | o=>o.isE
def mX:Nat->List (AOper×Nat×Nat)->List Nat
 | _,[]=>[]
 | i,(o,_,_)::r=>if o.op.isR then i::mX (i+1) r else mX (i+1) r
def sQ:Nat->List (AOper×Nat×Nat)->List Nat->Bool
 | _,[],_=>true
 | i,(o,lo,hi)::r,past=>
  if o.op.isR then sQ (i+1) r (i::past)else
  if o.op.isL then(sB lo past && (oC hi (mX (i+1) r) && sQ (i+1) r past))else sQ (i+1) r past
open Classical in
noncomputable def runM(X:Ctx)(b:Nat):List AOper->Env->aA->Option (Env×aA)
 | [],e,H=>some (e,H)
 | o::r,e,H=>match bD X.G b (aU X) e H o with
  | some (d,H')=>if o.op.isR=true∨H'=H then runM X b r (bS e o.dst d) H' else none
  | none=>none
theorem NY {lo:Nat}:∀ {l:List Nat},sB lo l=true↔∀j∈l,j<lo
 | []=>by simp[sB]
 | j::r=>by simp[sB,NY (l:=r)]
theorem NZ {hi:Nat}:∀ {l:List Nat},oC hi l=true↔∀j∈l,hi<=j
 | []=>by simp[oC]
 | j::r=>by simp[oC,NZ (l:=r)]
theorem zHa {o:AOp}(h:o.isR=true):o.isE=true:=by cases o <;> first | exact h | cases h
theorem X3:∀ {l:List (AOper×Nat×Nat)} {i:Nat} {past:List (Nat×aA)} {real:List Nat} {e:Env} {H:aA} {r:Env×aA},runM X b (strip l) e H=some r->sQ i l real=true->
  (∀x∈past,x.1<i∧((∃s∈real,x.1<=s)∨x.2=H))->(∀s∈real,s<i)->
  ∃fut,cV X.G b (aU X) i l past e H=some (r.1,r.2,fut)∧∀x∈fut,i<=x.1∧((∃s∈mX i l,s<=x.1)∨x.2=H)
 | [],i,past,real,e,H,r,h,_,_,_=>by cases h;exact⟨[],rfl,by simp⟩
 | (o,lo,hi)::l,i,past,real,e,H,r,h,hs,hp,hr=>by
  simp only[strip,runM]at h;split at h
  ·rename_i d H' ho
   split at h
   ·rename_i hh
    unfold sQ at hs;unfold cV;rw[ho];simp only;by_cases hR:o.op.isR=true
    ·rw[if_pos hR]at hs
     obtain⟨fut,g1,g2⟩:=X3 (i:=i+1) (past:=(i,H)::past) (real:=i::real) h hs (fun x hx=>by
      rcases List.mem_cons.1 hx with rfl | hx
      ·exact⟨by simp,.inl ⟨i,by simp,Nat.le_refl _⟩⟩
      ·obtain⟨q1,q2⟩:=hp x hx
       exact⟨by omega,.inl ⟨i,by simp,by omega⟩⟩) (fun s hs'=>by
      rcases List.mem_cons.1 hs' with rfl | hs'
      ·omega
      ·have:=hr s hs';omega)
     rw[if_pos (zHa hR),g1];refine⟨_,rfl,fun x hx=>?_⟩;have e1:mX i ((o,lo,hi)::l)=i::mX (i+1) l:=by simp[mX,hR]
     rw[e1];rcases List.mem_cons.1 hx with rfl | hx
     ·exact⟨Nat.le_refl _,.inl ⟨i,by simp,Nat.le_refl _⟩⟩
     ·exact⟨by have:=(g2 x hx).1;omega,.inl ⟨i,by simp,by have:=(g2 x hx).1;omega⟩⟩
    ·have hH:H'=H:=hh.resolve_left hR
     subst hH;rw[if_neg hR]at hs;have e1:mX i ((o,lo,hi)::l)=mX (i+1) l:=by simp[mX,hR]
     rw[e1];have hst:sQ (i+1) l real=true:=by
      split at hs
      ·simp only[Bool.and_eq_true]at hs;exact hs.2.2
      ·exact hs
     by_cases hE:o.op.isE=true
     ·obtain⟨fut,g1,g2⟩:=X3 (i:=i+1) (past:=(i,H')::past) (real:=real) h hst (fun x hx=>by
       rcases List.mem_cons.1 hx with rfl | hx
       ·exact⟨by simp,.inr rfl⟩
       ·obtain⟨q1,q2⟩:=hp x hx
        exact⟨by omega,q2⟩) (fun s hs'=>by have:=hr s hs';omega)
      rw[if_pos hE,g1];refine⟨_,rfl,fun x hx=>?_⟩;rcases List.mem_cons.1 hx with rfl | hx
      ·exact⟨Nat.le_refl _,.inr rfl⟩
      ·exact⟨by have:=(g2 x hx).1;omega,(g2 x hx).2⟩
     ·obtain⟨fut,g1,g2⟩:=X3 (i:=i+1) (past:=past) (real:=real) h hst (fun x hx=>by
       obtain⟨q1,q2⟩:=hp x hx;exact⟨by omega,q2⟩) (fun s hs'=>by have:=hr s hs';omega)
      rw[if_neg hE,g1];simp only;by_cases hL:o.op.isL=true
      ·rw[if_pos hL]at hs ⊢
       simp only[Bool.and_eq_true]at hs;have h1:=NY.1 hs.1;have h2:=NZ.1 hs.2.1;have hsame:sameAt X.G b (aU X) e o d H'=true:=by unfold sameAt;rw[ho];exact D.Bn d
       have sp:dR X.G b (aU X) e o d lo past=true:=by
        clear g1 g2 h hst
        induction past with
        | nil=>rfl
        | cons x r ih=>
         obtain⟨j,Hj⟩:=x;have hx:=hp (j,Hj) (by simp);simp only[dR];rw[Bool.and_eq_true];refine⟨?_,ih fun y hy=>hp y (List.mem_cons_of_mem _ hy)⟩;by_cases hj:j<lo
         ·rw[Bool.or_eq_true];left;rw[Nat.blt_eq];exact hj
         ·rcases hx.2 with⟨s,hs1,hs2⟩ | hx2
          ·have:=h1 s hs1;simp only at hs2;omega
          ·simp only at hx2;subst hx2;rw[hsame,Bool.or_true]
       have sf:fQ X.G b (aU X) e o d hi fut=true:=by
        clear g1 h hst
        induction fut with
        | nil=>rfl
        | cons x r ih=>
         obtain⟨j,Hj⟩:=x;have hx:=g2 (j,Hj) (by simp);simp only[fQ];rw[Bool.and_eq_true];refine⟨?_,ih fun y hy=>g2 y (List.mem_cons_of_mem _ hy)⟩;by_cases hj:hi<=j
         ·rw[Bool.or_eq_true];left;rw[Nat.ble_eq];exact hj
         ·rcases hx.2 with⟨s,hs1,hs2⟩ | hx2
          ·have:=h2 s hs1;simp only at hs2;omega
          ·simp only at hx2;subst hx2;rw[hsame,Bool.or_true]
       rw[sp,sf];exact⟨fut,rfl,fun x hx=>⟨by have:=(g2 x hx).1;omega,(g2 x hx).2⟩⟩
      ·rw[if_neg hL]
       exact⟨fut,rfl,fun x hx=>⟨by have:=(g2 x hx).1;omega,(g2 x hx).2⟩⟩
   ·cases h
  ·cases h
def YM(X:Ctx)(b:Nat)(rnd:Option Nat)(ops:List AOper)(K:List Fr)(e:Env)(H:aA)(dfs:List Nat)(Q:Ex->St->Prop)(Z:Prop):Prop:=match runM X b ops e H with
 | some (e',H')=>YX X b rnd .normal K ⟨e',H',dfs⟩ Q
 | none=>Z
open Classical in
noncomputable def sJ(X:Ctx)(b:Nat)(rnd:Option Nat)(R:Bool)(o:rT)(dst:Option Nat)(r:List AOper)(K:List Fr)(e:Env)(H:aA)(dfs:List Nat)(Q:Ex->St->Prop)(Z:Prop):Prop:=match o with
 | some (d,H')=>if R=true∨H'=H then YM X b rnd r K (bS e dst d) H' dfs Q Z else Z
 | none=>Z
theorem aN {l:List (AOper×Nat×Nat)}:YS X b rnd (.dreg l) K ⟨e,H,dfs⟩ Q=if sQ 0 l []=true then YM X b rnd (strip l) K e H dfs Q (sI X b rnd l K e H dfs Q)else YZ X b rnd (strip l) K e H dfs Q (sI X b rnd l K e H dfs Q):=by
 split
 ·rename_i hs
  unfold YM sI
  cases hr:runM X b (strip l) e H with
  | none=>rfl
  | some r=>
   obtain⟨fut,g1,_⟩:=X3 (i:=0) (past:=[]) (real:=[]) hr hs (by simp) (by simp);unfold YS;rw[M7 (s:=⟨e,H,dfs⟩) g1];rfl
 ·exact zOd
variable {Z:Prop}{o:AOper}{r:List AOper}{d:D}{dst:Option Nat}{R:Bool}
theorem zOi:YM X b rnd [] K e H dfs Q Z=YX X b rnd .normal K ⟨e,H,dfs⟩ Q:=rfl
open Classical in
theorem zOj:YM X b rnd (o::r) K e H dfs Q Z=sJ X b rnd o.op.isR (bD X.G b (aU X) e H o) o.dst r K e H dfs Q Z:=by
 unfold YM sJ;simp only[runM]
 cases bD X.G b (aU X) e H o with
 | none=>rfl
 | some x=>
  obtain⟨d,H'⟩:=x;simp only;by_cases h:o.op.isR=true∨H'=H
  ·rw[if_pos h,if_pos h];rfl
  ·rw[if_neg h,if_neg h]
theorem zOk:sJ X b rnd R (some (d,H)) dst r K e H dfs Q Z=YM X b rnd r K (bS e dst d) H dfs Q Z:=by
 simp[sJ]
theorem zOm {H':aA}:sJ X b rnd true (some (d,H')) dst r K e H dfs Q Z=YM X b rnd r K (bS e dst d) H' dfs Q Z:=by
 simp[sJ]
theorem zOl {c:Prop} [Decidable c]{x y:rT}:sJ X b rnd R (if c then x else y) dst r K e H dfs Q Z=if c then sJ X b rnd R x dst r K e H dfs Q Z else sJ X b rnd R y dst r K e H dfs Q Z:=by
 split <;> rfl
theorem zOb {p:ACode}(P:Env->Prop)(h0:P e)(h:∀e',P e'->YS X b rnd p K ⟨e',H,dfs⟩ Q):YS X b rnd p K ⟨e,H,dfs⟩ Q:=h e h0
theorem zN8(n m:Nat)(H1:aA){f:Arg}{ps:List Nat}{asg body:ACode}{g:Nat}{pre caps:List D}{d:D}(hn:H.length=n)(hm:n+1=m)(h1:H1.length=n)(hf:aI X.G e f=.func g pre caps)
  (hc:∀L:ALoop,L=⟨e,ps,asg,body,.ready,none,n⟩->aU X (.func g pre caps) [.yield m] (H++[.dfr false,.loop L])=some (d,H1++[.dfr false,.loop L]))
  (h:YX X b none .normal K ⟨e,H1++[.dfr false,.loop ⟨e,ps,asg,body,.exhausted,none,n⟩],n::dfs⟩ Q):YS X b none (.rangeF f ps asg body) K ⟨e,H,dfs⟩ Q:=by
 refine oR n m ⟨e,ps,asg,body,.ready,none,n⟩ hn hm hf (hc _ rfl) ?_ (by simp) ?_
 ·rw[← hm, ← h1];simp[gJ]
 ·rw[← hm, ← h1]at *
  simp only[xT,List.set_cons_succ,List.set_cons_zero,iO];exact h
theorem zN9(n m:Nat)(H1:aA)(jp:AJump){f:Arg}{ps:List Nat}{asg body:ACode}{g:Nat}{pre caps:List D}{d:D}(hn:H.length=n)(hm:n+1=m)(h1:H1.length=n)(hf:aI X.G e f=.func g pre caps)
  (hc:∀L:ALoop,L=⟨e,ps,asg,body,.ready,none,n⟩->aU X (.func g pre caps) [.yield m] (H++[.dfr false,.loop L])=some (d,H1++[.dfr false,.loop { L with st:=.done,pend:=some jp }]))
  (h:YX X b none (iO (some jp)) K ⟨e,H1++[.dfr false,.loop ⟨e,ps,asg,body,.exhausted,some jp,n⟩],n::dfs⟩ Q):YS X b none (.rangeF f ps asg body) K ⟨e,H,dfs⟩ Q:=by
 refine oR n m ⟨e,ps,asg,body,.done,some jp,n⟩ hn hm hf (hc _ rfl) ?_ (by simp) ?_
 ·rw[← hm, ← h1];simp[gJ]
 ·rw[← hm, ← h1]at *
  simp only[xT,List.set_cons_succ,List.set_cons_zero];exact h
theorem B5 {p q:ACode}{s:St}(h:p=q)(h':YS X b rnd q K s Q):YS X b rnd p K s Q:=h ▸ h'
end
theorem Ku {H:aA}{n f:Nat}{k:IntKind}(l:List Int):bN (fz H n (f+1)) (l.map (D.int k))=some (l.map (D.int k)):=Kt (g:=fz H n (f+1)) (fun x=>by rfl) l
theorem zFp {H:aA}{n f:Nat}(l:List (Bs)):bN (fz H n (f+1)) (l.map D.str)=some (l.map D.str):=Kt (g:=fz H n (f+1)) (fun x=>by rfl) l
theorem U9 {n:Nat}{k:IntKind}(l:List Int):D.aD n (l.map (D.int k))=true:=Gh (fun _=>rfl) l
theorem AX {n:Nat}(l:List (Bs)):D.aD n (l.map D.str)=true:=Gh (fun _=>rfl) l
theorem Z6 {k:IntKind}(l:List Int):D.aF (l.map (D.int k))=true:=Ia (fun _=>rfl) l
theorem HC(l:List (Bs)):D.aF (l.map D.str)=true:=Ia (fun _=>rfl) l
theorem zFq {H:aA}{n f m:Nat}{k:IntKind}(l:List Int):bN (fz H n (f+1)) ((l.map (D.int k)).take m)=some ((l.map (D.int k)).take m):=by rw[← List.map_take];exact Ku _
theorem QM {n m:Nat}{k:IntKind}(l:List Int):D.aD n ((l.map (D.int k)).take m)=true:=by rw[← List.map_take];exact U9 _
theorem zAM {m:Nat}{k:IntKind}(l:List Int):D.aF ((l.map (D.int k)).take m)=true:=by rw[← List.map_take];exact Z6 _
theorem CD {cs:List D}{i:Nat}{x:D}(h:i<cs.length):cs.take i++([x]++cs.drop (i+1))=cs.set i x:=by
 rw[List.set_eq_take_append_cons_drop,if_pos h];rfl
theorem kB {b:Nat}{H:aA}{id hw es bytes m:Nat}{cs ys:List D}{nil:Bool}{n:Nat}(h:H[id]? =some (.row es cs nil))(hc:cs.length=hw)(hn:n*es=hw)(hnil:nil=true->n=0)(h1:(n+m)*bytes<=aX)(h2:n+m<=aX)(hs:storable b H id ys=true)(hm:m≠0):
  cR b H es bytes (.osl id hw 0 n) ys m=some (.osl id (hw+m*es) 0 (n+m),H.set id (.row es (cs++ys) false)):=by
 simp only[cR,h];rw[if_pos ⟨trivial,hc,by omega,hnil,h1,h2,hs⟩,if_neg hm,if_pos hn]
theorem D9 {α:Type}{l:List α}{i:Nat}{x:α}(h:l[i]? =some x):l.set i x=l:=by
 obtain⟨hlt,e⟩:=List.getElem?_eq_some_iff.1 h;subst e;exact List.set_getElem_self hlt
theorem set_set {α:Type}{l:List α}{i:Nat}{x y:α}:(l.set i x).set i y=l.set i y:=List.set_set ..
theorem zHp {α:Type}{l:List α}{i:Nat}{x:α}(h:i<l.length):(l.set i x)[i]? =some x:=List.getElem?_set_self h
theorem zNd {n k:Nat}:(n+k<n)=False:=by simp
end Go.AM
namespace Go.AM
inductive Dec where
 | mk (neg:Bool) (coefF:Nl) (coef:List Int) (exp:Int)
def Dec.neg:Dec->Bool | .mk x _ _ _=>x
def Dec.coefF:Dec->Nl | .mk _ x _ _=>x
def Dec.coef:Dec->List Int | .mk _ _ x _=>x
def Dec.exp:Dec->Int | .mk _ _ _ x=>x
mutual
def Dec.cells:Dec->List D
 | .mk neg coefF coef exp=>[.bool neg]++[SL coefF (coef.map (D.int .u32)) coef.length]++[.int .i64 exp]
def Dec.aC:List Dec->List D
 | []=>[]
 | x::r=>Dec.cells x++Dec.aC r
end
theorem Dec.bF(x:Dec):x.cells=[.bool x.neg]++[SL x.coefF (x.coef.map (D.int .u32)) x.coef.length]++[.int .i64 x.exp]:=by cases x;simp only[Dec.cells];rfl
theorem Dec.aK(x:Dec):x.cells.length=3:=by rw[Dec.bF];simp[]
theorem Dec.aD(x:Dec)(n:Nat):D.aD n x.cells=true:=by rw[Dec.bF];simp[D.cS,mK,mL,mO,mM,mS,jS]
theorem Dec.aF(x:Dec):D.aF x.cells=true:=by rw[Dec.bF];simp[D.cW,nC,nD,nG,nE,nH,kW]
theorem Dec.fz(x:Dec){H:aA}{n f:Nat}:bN (Go.AM.fz H n (f+1)) x.cells=some x.cells:=by rw[Dec.bF];simp[jB,bN,lA,nQ,nP,nR]
theorem Dec.load(x:Dec)(r:List D):aJ true 3 (x.cells++r)=some (.agg x.cells):=by simp[aJ,Dec.aK,List.take_append_of_le_length]
theorem Dec.pM(x:Dec):aJ true 3 x.cells=some (.agg x.cells):=by simpa using Dec.load x []
theorem Dec.take(x:Dec)(r:List D):(x.cells++r).take 3=x.cells:=by simp[Dec.aK,List.take_append_of_le_length]
theorem Dec.IW(x:Dec)(r:List D):aJ false 1 ((x.cells++r))=some (.bool x.neg):=by rw[Dec.bF];simp[aJ,List.drop_append]
theorem Dec.zFs(x:Dec):aJ false 1 (x.cells)=some (.bool x.neg):=by simpa using Dec.IW x []
theorem Dec.JB(x:Dec)(r:List D):aJ false 1 ((x.cells++r).drop 1)=some (SL x.coefF (x.coef.map (D.int .u32)) x.coef.length):=by rw[Dec.bF];simp[aJ,List.drop_append]
theorem Dec.HZ(x:Dec):aJ false 1 (x.cells.drop 1)=some (SL x.coefF (x.coef.map (D.int .u32)) x.coef.length):=by simpa using Dec.JB x []
theorem Dec.RX(x:Dec):aJ false 1 x.cells.tail=some (SL x.coefF (x.coef.map (D.int .u32)) x.coef.length):=by simpa using Dec.HZ x
theorem Dec.IZ(x:Dec)(r:List D):aJ false 1 ((x.cells++r).drop 2)=some (.int .i64 x.exp):=by rw[Dec.bF];simp[aJ,List.drop_append]
theorem Dec.zFv(x:Dec):aJ false 1 (x.cells.drop 2)=some (.int .i64 x.exp):=by simpa using Dec.IZ x []
def Dec.rest(l:List Dec)(k:Nat):List D:=(Dec.aC l).drop ((k+1)*3)
inductive Val where
 | mk (kind:Int) (num:Dec) (text:Bs) (listF:Nl) (list:List Val) (keysF:Nl) (keys:List (Bs))
def Val.kind:Val->Int | .mk x _ _ _ _ _ _=>x
def Val.num:Val->Dec | .mk _ x _ _ _ _ _=>x
def Val.text:Val->Bs | .mk _ _ x _ _ _ _=>x
def Val.listF:Val->Nl | .mk _ _ _ x _ _ _=>x
def Val.list:Val->List Val | .mk _ _ _ _ x _ _=>x
def Val.keysF:Val->Nl | .mk _ _ _ _ _ x _=>x
def Val.keys:Val->List (Bs) | .mk _ _ _ _ _ _ x=>x
mutual
def Val.cells:Val->List D
 | .mk kind num text listF list keysF keys=>[.int .i64 kind]++Dec.cells num++[.str text]++[SL listF (Val.aC list) list.length]++[SL keysF (keys.map D.str) keys.length]
def Val.aC:List Val->List D
 | []=>[]
 | x::r=>Val.cells x++Val.aC r
end
theorem Val.bF(x:Val):x.cells=[.int .i64 x.kind]++Dec.cells x.num++[.str x.text]++[SL x.listF (Val.aC x.list) x.list.length]++[SL x.keysF (x.keys.map D.str) x.keys.length]:=by cases x;simp only[Val.cells];rfl
theorem Val.aK(x:Val):x.cells.length=7:=by rw[Val.bF];simp[Dec.aK]
theorem Val.aD(x:Val)(n:Nat):D.aD n x.cells=true:=by rw[Val.bF];simp[D.cS,mK,mL,mO,mM,mS,jS,Dec.aD]
theorem Val.aF(x:Val):D.aF x.cells=true:=by rw[Val.bF];simp[D.cW,nC,nD,nG,nE,nH,kW,Dec.aF]
theorem Val.fz(x:Val){H:aA}{n f:Nat}:bN (Go.AM.fz H n (f+1)) x.cells=some x.cells:=by rw[Val.bF];simp[jB,bN,lA,nQ,nP,nR,Dec.fz]
theorem Val.load(x:Val)(r:List D):aJ true 7 (x.cells++r)=some (.agg x.cells):=by simp[aJ,Val.aK,List.take_append_of_le_length]
theorem Val.take(x:Val)(r:List D):(x.cells++r).take 7=x.cells:=by simp[Val.aK,List.take_append_of_le_length]
def Val.rest(l:List Val)(k:Nat):List D:=(Val.aC l).drop ((k+1)*7)
theorem Val.ind {P:Val->Prop}(h:∀v,(∀x∈v.list,P x)->P v):∀v,P v:=fun v=>Val.rec (motive_1:=P) (motive_2:=fun l=> ∀x∈l,P x) (fun _ _ _ _ _ _ _ ih=>h _ ih) (by simp) (fun x r h1 h2 y hy=>by rcases List.mem_cons.1 hy with rfl | hy;exact h1;exact h2 y hy) v
inductive Instr where
 | mk (op:Int) (a:Int) (b:Int)
def Instr.op:Instr->Int | .mk x _ _=>x
def Instr.a:Instr->Int | .mk _ x _=>x
def Instr.b:Instr->Int | .mk _ _ x=>x
mutual
def Instr.cells:Instr->List D
 | .mk op a b=>[.int .i64 op]++[.int .i64 a]++[.int .i64 b]
def Instr.aC:List Instr->List D
 | []=>[]
 | x::r=>Instr.cells x++Instr.aC r
end
theorem Instr.bF(x:Instr):x.cells=[.int .i64 x.op]++[.int .i64 x.a]++[.int .i64 x.b]:=by cases x;simp only[Instr.cells];rfl
theorem Instr.aK(x:Instr):x.cells.length=3:=by rw[Instr.bF];simp[]
theorem Instr.aD(x:Instr)(n:Nat):D.aD n x.cells=true:=by rw[Instr.bF];simp[D.cS,mK,mL,mO,mM,mS,jS]
theorem Instr.aF(x:Instr):D.aF x.cells=true:=by rw[Instr.bF];simp[D.cW,nC,nD,nG,nE,nH,kW]
theorem Instr.fz(x:Instr){H:aA}{n f:Nat}:bN (Go.AM.fz H n (f+1)) x.cells=some x.cells:=by rw[Instr.bF];simp[jB,bN,lA,nQ,nP,nR]
theorem Instr.load(x:Instr)(r:List D):aJ true 3 (x.cells++r)=some (.agg x.cells):=by simp[aJ,Instr.aK,List.take_append_of_le_length]
theorem Instr.take(x:Instr)(r:List D):(x.cells++r).take 3=x.cells:=by simp[Instr.aK,List.take_append_of_le_length]
def Instr.rest(l:List Instr)(k:Nat):List D:=(Instr.aC l).drop ((k+1)*3)
inductive Code where
 | mk (instrsF:Nl) (instrs:List Instr) (constsF:Nl) (consts:List Val)
def Code.instrsF:Code->Nl | .mk x _ _ _=>x
def Code.instrs:Code->List Instr | .mk _ x _ _=>x
def Code.constsF:Code->Nl | .mk _ _ x _=>x
def Code.consts:Code->List Val | .mk _ _ _ x=>x
mutual
def Code.cells:Code->List D
 | .mk instrsF instrs constsF consts=>[SL instrsF (Instr.aC instrs) instrs.length]++[SL constsF (Val.aC consts) consts.length]
def Code.aC:List Code->List D
 | []=>[]
 | x::r=>Code.cells x++Code.aC r
end
theorem Code.bF(x:Code):x.cells=[SL x.instrsF (Instr.aC x.instrs) x.instrs.length]++[SL x.constsF (Val.aC x.consts) x.consts.length]:=by cases x;simp only[Code.cells];rfl
theorem Code.aK(x:Code):x.cells.length=2:=by rw[Code.bF];simp[]
theorem Code.aD(x:Code)(n:Nat):D.aD n x.cells=true:=by rw[Code.bF];simp[D.cS,mK,mL,mO,mM,mS,jS]
theorem Code.aF(x:Code):D.aF x.cells=true:=by rw[Code.bF];simp[D.cW,nC,nD,nG,nE,nH,kW]
theorem Code.fz(x:Code){H:aA}{n f:Nat}:bN (Go.AM.fz H n (f+1)) x.cells=some x.cells:=by rw[Code.bF];simp[jB,bN,lA,nQ,nP,nR]
theorem Code.load(x:Code)(r:List D):aJ true 2 (x.cells++r)=some (.agg x.cells):=by simp[aJ,Code.aK,List.take_append_of_le_length]
theorem Code.take(x:Code)(r:List D):(x.cells++r).take 2=x.cells:=by simp[Code.aK,List.take_append_of_le_length]
def Code.rest(l:List Code)(k:Nat):List D:=(Code.aC l).drop ((k+1)*2)
inductive Core where
 | mk (kind:Int) (index:Int) (count:Int) (name:Bs) (value:Val) (kidsF:Nl) (kids:List Core)
def Core.kind:Core->Int | .mk x _ _ _ _ _ _=>x
def Core.index:Core->Int | .mk _ x _ _ _ _ _=>x
def Core.count:Core->Int | .mk _ _ x _ _ _ _=>x
def Core.name:Core->Bs | .mk _ _ _ x _ _ _=>x
def Core.value:Core->Val | .mk _ _ _ _ x _ _=>x
def Core.kidsF:Core->Nl | .mk _ _ _ _ _ x _=>x
def Core.kids:Core->List Core | .mk _ _ _ _ _ _ x=>x
mutual
def Core.cells:Core->List D
 | .mk kind index count name value kidsF kids=>[.int .i64 kind]++[.int .i64 index]++[.int .i64 count]++[.str name]++Val.cells value++[SL kidsF (Core.aC kids) kids.length]
def Core.aC:List Core->List D
 | []=>[]
 | x::r=>Core.cells x++Core.aC r
end
theorem Core.bF(x:Core):x.cells=[.int .i64 x.kind]++[.int .i64 x.index]++[.int .i64 x.count]++[.str x.name]++Val.cells x.value++[SL x.kidsF (Core.aC x.kids) x.kids.length]:=by cases x;simp only[Core.cells];rfl
theorem Core.aK(x:Core):x.cells.length=12:=by rw[Core.bF];simp[Val.aK]
theorem Core.aD(x:Core)(n:Nat):D.aD n x.cells=true:=by rw[Core.bF];simp[D.cS,mK,mL,mO,mM,mS,jS,Val.aD]
theorem Core.aF(x:Core):D.aF x.cells=true:=by rw[Core.bF];simp[D.cW,nC,nD,nG,nE,nH,kW,Val.aF]
theorem Core.fz(x:Core){H:aA}{n f:Nat}:bN (Go.AM.fz H n (f+1)) x.cells=some x.cells:=by rw[Core.bF];simp[jB,bN,lA,nQ,nP,nR,Val.fz]
theorem Core.load(x:Core)(r:List D):aJ true 12 (x.cells++r)=some (.agg x.cells):=by simp[aJ,Core.aK,List.take_append_of_le_length]
theorem Core.take(x:Core)(r:List D):(x.cells++r).take 12=x.cells:=by simp[Core.aK,List.take_append_of_le_length]
def Core.rest(l:List Core)(k:Nat):List D:=(Core.aC l).drop ((k+1)*12)
theorem Core.ind {P:Core->Prop}(h:∀v,(∀x∈v.kids,P x)->P v):∀v,P v:=fun v=>Core.rec (motive_1:=P) (motive_2:=fun l=> ∀x∈l,P x) (fun _ _ _ _ _ _ _ ih=>h _ ih) (by simp) (fun x r h1 h2 y hy=>by rcases List.mem_cons.1 hy with rfl | hy;exact h1;exact h2 y hy) v
end Go.AM
namespace Go.AM
def D5:Nat->List (AOper×Nat×Nat)->Bool
 | _,[]=>true
 | i,(o,lo,hi)::r=>(o.op.isE || !o.op.isL || oC hi (rS (i+1) r)) && D5 (i+1) r
noncomputable def uV(X:Ctx)(b:Nat):Nat->List (AOper×Nat×Nat)->List (Nat×aA)->Env->aA->Option (Env×aA)
 | _,[],_,e,H=>some (e,H)
 | i,(o,lo,hi)::r,past,e,H=>match bD X.G b (aU X) e H o with
  | some (d,H')=>if o.op.isE=true then uV X b (i+1) r ((i,H)::past) (bS e o.dst d) H' else
   if(o.op.isL=true->dR X.G b (aU X) e o d lo past=true)then uV X b (i+1) r past (bS e o.dst d) H' else none
  | none=>none
section
variable {X:Ctx}{b:Nat}{rnd:Option Nat}{K:List Fr}{Q:Ex->St->Prop}{e:Env}{H:aA}{dfs:List Nat}
theorem He:∀ {l:List (AOper×Nat×Nat)} {i:Nat} {past:List (Nat×aA)} {e:Env} {H:aA} {r:Env×aA},D5 i l=true->uV X b i l past e H=some r->∃fut,cV X.G b (aU X) i l past e H=some (r.1,r.2,fut)
 | [],_,_,_,_,_,_,h=>by cases h;exact⟨[],rfl⟩
 | (o,lo,hi)::l,i,past,e,H,r,hs,h=>by
  simp only[D5,Bool.and_eq_true]at hs;unfold uV at h;unfold cV
  cases ho:bD X.G b (aU X) e H o with
  | none=>rw[ho]at h;cases h
  | some x=>
   obtain⟨d,H'⟩:=x;rw[ho]at h;simp only at h ⊢;by_cases hE:o.op.isE=true
   ·rw[if_pos hE]at h ⊢
    obtain⟨fut,g⟩:=He hs.2 h;rw[g];exact⟨_,rfl⟩
   ·rw[if_neg hE]at h ⊢
    split at h
    ·rename_i hp
     obtain⟨fut,g⟩:=He hs.2 h;rw[g];simp only;by_cases hL:o.op.isL=true
     ·have hf:=E4 g
      simp only at hf;have h2:oC hi (rS (i+1) l)=true:=by simpa [hE,hL]using hs.1
      have h3:fQ X.G b (aU X) e o d hi fut=true:=Hb (by rw[hf];exact h2);rw[if_pos hL,hp hL,h3];exact⟨_,rfl⟩
     ·rw[if_neg hL];exact⟨_,rfl⟩
    ·cases h
def YG(X:Ctx)(b:Nat)(rnd:Option Nat)(i:Nat)(l:List (AOper×Nat×Nat))(past:List (Nat×aA))(K:List Fr)(e:Env)(H:aA)(dfs:List Nat)(Q:Ex->St->Prop)(Z:Prop):Prop:=match uV X b i l past e H with
 | some (e',H')=>YX X b rnd .normal K ⟨e',H',dfs⟩ Q
 | none=>Z
def Zk(X:Ctx)(b:Nat)(rnd:Option Nat)(l:List (AOper×Nat×Nat))(K:List Fr)(e:Env)(H:aA)(dfs:List Nat)(Q:Ex->St->Prop):Prop:=YS X b rnd (.dreg l) K ⟨e,H,dfs⟩ Q
theorem zN3 {l:List (AOper×Nat×Nat)}:sI X b rnd l K e H dfs Q=if D5 0 l=true then YG X b rnd 0 l [] K e H dfs Q (Zk X b rnd l K e H dfs Q)else Zk X b rnd l K e H dfs Q:=by
 split
 ·rename_i hs
  unfold YG Zk
  cases hr:uV X b 0 l [] e H with
  | none=>rfl
  | some r=>
   obtain⟨fut,g⟩:=He hs hr;unfold sI YS;rw[M7 (s:=⟨e,H,dfs⟩) g];rfl
 ·rfl
def Fc(X:Ctx)(b:Nat)(rnd:Option Nat)(i lo:Nat)(o:AOper)(x:rT)(r:List (AOper×Nat×Nat))(past:List (Nat×aA))(K:List Fr)(e:Env)(H:aA)(dfs:List Nat)(Q:Ex->St->Prop)(Z:Prop):Prop:=match x with
 | some (d,H')=>if o.op.isE=true then YG X b rnd (i+1) r ((i,H)::past) K (bS e o.dst d) H' dfs Q Z else
   if(o.op.isL=true->dR X.G b (aU X) e o d lo past=true)then YG X b rnd (i+1) r past K (bS e o.dst d) H' dfs Q Z else Z
 | none=>Z
variable {Z:Prop}{o:AOper}{r:List (AOper×Nat×Nat)}{d:D}{H':aA}{i lo hi:Nat}{past:List (Nat×aA)}
theorem zOn:YG X b rnd i [] past K e H dfs Q Z=YX X b rnd .normal K ⟨e,H,dfs⟩ Q:=rfl
theorem zOo:YG X b rnd i ((o,lo,hi)::r) past K e H dfs Q Z=Fc X b rnd i lo o (bD X.G b (aU X) e H o) r past K e H dfs Q Z:=by
 unfold YG Fc;simp only[uV]
 cases bD X.G b (aU X) e H o with
 | none=>rfl
 | some x=>
  obtain⟨d,H'⟩:=x;simp only;by_cases hE:o.op.isE=true
  ·simp only[if_pos hE];rfl
  ·simp only[if_neg hE]
   by_cases hP:(o.op.isL=true->dR X.G b (aU X) e o d lo past=true)
   ·simp only[if_pos hP];rfl
   ·simp only[if_neg hP]
theorem zOp:Fc X b rnd i lo o (some (d,H')) r past K e H dfs Q Z=if o.op.isE=true then YG X b rnd (i+1) r ((i,H)::past) K (bS e o.dst d) H' dfs Q Z else
  if o.op.isL=true then(if dR X.G b (aU X) e o d lo past=true then YG X b rnd (i+1) r past K (bS e o.dst d) H' dfs Q Z else Z)else YG X b rnd (i+1) r past K (bS e o.dst d) H' dfs Q Z:=by
 unfold Fc;simp only;by_cases hE:o.op.isE=true
 ·rw[if_pos hE,if_pos hE]
 ·rw[if_neg hE,if_neg hE]
  by_cases hL:o.op.isL=true
  ·rw[if_pos hL];simp[hL]
  ·rw[if_neg hL];simp[hL]
def Ha(x:rT)(d:D):Bool:=match x with
 | some (d',_)=>d'.beq d
 | none=>false
theorem WL:Ha (some (d,H)) d=true:=D.Bn d
section
variable {G:Nat->Option (List D)}{c:Cl}{j:Nat}
theorem WI:dR G b c e o d lo []=true:=rfl
theorem WJ:dR G b c e o d lo ((j,H)::past)=((decide (j<lo) || Ha (bD G b c e H o) d) && dR G b c e o d lo past):=by
 simp only[dR,sameAt];have:Nat.blt j lo=decide (j<lo):=by rw[Bool.eq_iff_iff];simp[Nat.blt_eq]
 rw[this];rfl
end
end
end Go.AM
namespace Go.AM
def mU(G:gT)(b:Nat)(c:Cl)(i:Nat)(H:aA):List (AOper×Nat×D×Env)->Bool
 | []=>true
 | (o,hi,d,e)::r=>(Nat.ble hi i || sameAt G b c e o d H) && mU G b c i H r
noncomputable def sR(X:Ctx)(b:Nat):Nat->List (AOper×Nat×Nat)->List (Nat×aA)->List (AOper×Nat×D×Env)->Env->aA->Option (Env×aA)
 | _,[],_,_,e,H=>some (e,H)
 | i,(o,lo,hi)::r,past,pend,e,H=>match bD X.G b (aU X) e H o with
  | some (d,H')=>if o.op.isE=true then(if mU X.G b (aU X) i H' pend=true then sR X b (i+1) r ((i,H)::past) pend (bS e o.dst d) H' else none)else
   if o.op.isL=true then(if dR X.G b (aU X) e o d lo past=true then sR X b (i+1) r past ((o,hi,d,e)::pend) (bS e o.dst d) H' else none)else sR X b (i+1) r past pend (bS e o.dst d) H'
  | none=>none
section
variable {X:Ctx}{b:Nat}{rnd:Option Nat}{K:List Fr}{Q:Ex->St->Prop}{e:Env}{H:aA}{dfs:List Nat}
theorem W7:∀ {l:List (AOper×Nat×Nat)} {i:Nat} {past:List (Nat×aA)} {pend:List (AOper×Nat×D×Env)} {e:Env} {H:aA} {r:Env×aA},sR X b i l past pend e H=some r->∃fut,cV X.G b (aU X) i l past e H=some (r.1,r.2,fut)∧∀x∈pend,fQ X.G b (aU X) x.2.2.2 x.1 x.2.2.1 x.2.1 fut=true
 | [],_,_,_,_,_,_,h=>by cases h;exact⟨[],rfl,fun _ _=>rfl⟩
 | (o,lo,hi)::l,i,past,pend,e,H,r,h=>by
  unfold sR at h;unfold cV
  cases ho:bD X.G b (aU X) e H o with
  | none=>rw[ho]at h;cases h
  | some x=>
   obtain⟨d,H'⟩:=x;rw[ho]at h;simp only at h ⊢;by_cases hE:o.op.isE=true
   ·rw[if_pos hE]at h ⊢
    split at h
    ·rename_i hp
     obtain⟨fut,g,q⟩:=W7 h;rw[g];refine⟨_,rfl,fun x hx=>?_⟩;have key:∀(l:List (AOper×Nat×D×Env)),mU X.G b (aU X) i H' l=true->∀x∈l,(Nat.ble x.2.1 i || sameAt X.G b (aU X) x.2.2.2 x.1 x.2.2.1 H')=true:=by
      intro l
      induction l with
      | nil=>intro _ x hx;cases hx
      | cons y r ih=>
       obtain⟨yo,yh,yd,ye⟩:=y;intro hs x hx;simp only[mU,Bool.and_eq_true]at hs;rcases List.mem_cons.1 hx with rfl | hx
       ·exact hs.1
       ·exact ih hs.2 x hx
     simp only[fQ,Bool.and_eq_true];exact⟨key _ hp x hx,q x hx⟩
    ·cases h
   ·rw[if_neg hE]at h ⊢
    by_cases hL:o.op.isL=true
    ·rw[if_pos hL]at h
     split at h
     ·rename_i hp
      obtain⟨fut,g,q⟩:=W7 h;rw[g];simp only;have h3:=q _ (List.mem_cons_self ..);simp only at h3;rw[if_pos hL,hp,h3];exact⟨_,rfl,fun x hx=>q x (List.mem_cons_of_mem _ hx)⟩
     ·cases h
    ·rw[if_neg hL]at h
     obtain⟨fut,g,q⟩:=W7 h;rw[g];simp only;rw[if_neg hL];exact⟨_,rfl,q⟩
def YH(X:Ctx)(b:Nat)(rnd:Option Nat)(i:Nat)(l:List (AOper×Nat×Nat))(past:List (Nat×aA))(pend:List (AOper×Nat×D×Env))(K:List Fr)(e:Env)(H:aA)(dfs:List Nat)(Q:Ex->St->Prop)(Z:Prop):Prop:=match sR X b i l past pend e H with
 | some (e',H')=>YX X b rnd .normal K ⟨e',H',dfs⟩ Q
 | none=>Z
theorem aQ {l:List (AOper×Nat×Nat)}:YS X b rnd (.dreg l) K ⟨e,H,dfs⟩ Q=YH X b rnd 0 l [] [] K e H dfs Q (sI X b rnd l K e H dfs Q):=by
 unfold YH sI
 cases hr:sR X b 0 l [] [] e H with
 | none=>rfl
 | some r=>
  obtain⟨fut,g,_⟩:=W7 hr;unfold YS;rw[M7 (s:=⟨e,H,dfs⟩) g];rfl
def B6(X:Ctx)(b:Nat)(rnd:Option Nat)(i lo hi:Nat)(o:AOper)(x:rT)(r:List (AOper×Nat×Nat))(past:List (Nat×aA))(pend:List (AOper×Nat×D×Env))(K:List Fr)(e:Env)(H:aA)(dfs:List Nat)(Q:Ex->St->Prop)(Z:Prop):Prop:=match x with
 | some (d,H')=>if o.op.isE=true then(if mU X.G b (aU X) i H' pend=true then YH X b rnd (i+1) r ((i,H)::past) pend K (bS e o.dst d) H' dfs Q Z else Z)else
   if o.op.isL=true then(if dR X.G b (aU X) e o d lo past=true then YH X b rnd (i+1) r past ((o,hi,d,e)::pend) K (bS e o.dst d) H' dfs Q Z else Z)else YH X b rnd (i+1) r past pend K (bS e o.dst d) H' dfs Q Z
 | none=>Z
variable {Z:Prop}{o:AOper}{r:List (AOper×Nat×Nat)}{d:D}{H':aA}{i lo hi:Nat}{past:List (Nat×aA)}{pend:List (AOper×Nat×D×Env)}
theorem aR:YH X b rnd i [] past pend K e H dfs Q Z=YX X b rnd .normal K ⟨e,H,dfs⟩ Q:=rfl
theorem aS:YH X b rnd i ((o,lo,hi)::r) past pend K e H dfs Q Z=B6 X b rnd i lo hi o (bD X.G b (aU X) e H o) r past pend K e H dfs Q Z:=by
 unfold YH B6;simp only[sR]
 cases bD X.G b (aU X) e H o with
 | none=>rfl
 | some x=>
  obtain⟨d,H'⟩:=x;simp only;by_cases hE:o.op.isE=true
  ·simp only[if_pos hE]
   by_cases hp:mU X.G b (aU X) i H' pend=true
   ·simp only[if_pos hp];rfl
   ·simp only[if_neg hp]
  ·simp only[if_neg hE]
   by_cases hL:o.op.isL=true
   ·simp only[if_pos hL]
    by_cases hp:dR X.G b (aU X) e o d lo past=true
    ·simp only[if_pos hp];rfl
    ·simp only[if_neg hp]
   ·simp only[if_neg hL];rfl
theorem aT:B6 X b rnd i lo hi o (some (d,H')) r past pend K e H dfs Q Z=if o.op.isE=true then(if mU X.G b (aU X) i H' pend=true then YH X b rnd (i+1) r ((i,H)::past) pend K (bS e o.dst d) H' dfs Q Z else Z)else
   if o.op.isL=true then(if dR X.G b (aU X) e o d lo past=true then YH X b rnd (i+1) r past ((o,hi,d,e)::pend) K (bS e o.dst d) H' dfs Q Z else Z)else YH X b rnd (i+1) r past pend K (bS e o.dst d) H' dfs Q Z:=rfl
theorem Fb {c:Prop} [Decidable c]{x y:rT}:B6 X b rnd i lo hi o (if c then x else y) r past pend K e H dfs Q Z=if c then B6 X b rnd i lo hi o x r past pend K e H dfs Q Z else B6 X b rnd i lo hi o y r past pend K e H dfs Q Z:=by split <;> rfl
section
variable {G:Nat->Option (List D)}{c:Cl}
theorem aO:mU G b c i H []=true:=rfl
theorem aP:mU G b c i H ((o,hi,d,e)::pend)=((decide (hi<=i) || Ha (bD G b c e H o) d) && mU G b c i H pend):=by
 simp only[mU,sameAt];have:Nat.ble hi i=decide (hi<=i):=by rw[Bool.eq_iff_iff];simp[Nat.ble_eq]
 rw[this];rfl
end
end
end Go.AM
namespace Go.AM
mutual
inductive Expr where
 | mk (kind:Int) (name:Bs) (text:Bs) (num:Dec) (kidsF:Nl) (kids:List Expr) (patsF:Nl) (pats:List Pat) (defsF:Nl) (defs:List Def) (at_:Int)
inductive Pat where
 | mk (kind:Int) (name:Bs) (keysF:Nl) (keys:List Expr) (patsF:Nl) (pats:List Pat)
inductive Def where
 | mk (name:Bs) (paramsF:Nl) (params:List (Bs)) (body:Expr)
end
def Expr.kind:Expr->Int | .mk x _ _ _ _ _ _ _ _ _ _=>x
def Expr.name:Expr->Bs | .mk _ x _ _ _ _ _ _ _ _ _=>x
def Expr.text:Expr->Bs | .mk _ _ x _ _ _ _ _ _ _ _=>x
def Expr.num:Expr->Dec | .mk _ _ _ x _ _ _ _ _ _ _=>x
def Expr.kidsF:Expr->Nl | .mk _ _ _ _ x _ _ _ _ _ _=>x
def Expr.kids:Expr->List Expr | .mk _ _ _ _ _ x _ _ _ _ _=>x
def Expr.patsF:Expr->Nl | .mk _ _ _ _ _ _ x _ _ _ _=>x
def Expr.pats:Expr->List Pat | .mk _ _ _ _ _ _ _ x _ _ _=>x
def Expr.defsF:Expr->Nl | .mk _ _ _ _ _ _ _ _ x _ _=>x
def Expr.defs:Expr->List Def | .mk _ _ _ _ _ _ _ _ _ x _=>x
def Expr.at_:Expr->Int | .mk _ _ _ _ _ _ _ _ _ _ x=>x
def Pat.kind:Pat->Int | .mk x _ _ _ _ _=>x
def Pat.name:Pat->Bs | .mk _ x _ _ _ _=>x
def Pat.keysF:Pat->Nl | .mk _ _ x _ _ _=>x
def Pat.keys:Pat->List Expr | .mk _ _ _ x _ _=>x
def Pat.patsF:Pat->Nl | .mk _ _ _ _ x _=>x
def Pat.pats:Pat->List Pat | .mk _ _ _ _ _ x=>x
def Def.name:Def->Bs | .mk x _ _ _=>x
def Def.paramsF:Def->Nl | .mk _ x _ _=>x
def Def.params:Def->List (Bs) | .mk _ _ x _=>x
def Def.body:Def->Expr | .mk _ _ _ x=>x
mutual
def Expr.cells:Expr->List D
 | .mk kind name text num kidsF kids patsF pats defsF defs at_=>[.int .i64 kind]++[.str name]++[.str text]++Dec.cells num++[SL kidsF (Expr.aC kids) kids.length]++[SL patsF (Pat.aC pats) pats.length]++[SL defsF (Def.aC defs) defs.length]++[.int .i64 at_]
def Pat.cells:Pat->List D
 | .mk kind name keysF keys patsF pats=>[.int .i64 kind]++[.str name]++[SL keysF (Expr.aC keys) keys.length]++[SL patsF (Pat.aC pats) pats.length]
def Def.cells:Def->List D
 | .mk name paramsF params body=>[.str name]++[SL paramsF (params.map D.str) params.length]++Expr.cells body
def Expr.aC:List Expr->List D
 | []=>[]
 | x::r=>Expr.cells x++Expr.aC r
def Pat.aC:List Pat->List D
 | []=>[]
 | x::r=>Pat.cells x++Pat.aC r
def Def.aC:List Def->List D
 | []=>[]
 | x::r=>Def.cells x++Def.aC r
end
theorem Expr.bF(x:Expr):x.cells=[.int .i64 x.kind]++[.str x.name]++[.str x.text]++Dec.cells x.num++[SL x.kidsF (Expr.aC x.kids) x.kids.length]++[SL x.patsF (Pat.aC x.pats) x.pats.length]++[SL x.defsF (Def.aC x.defs) x.defs.length]++[.int .i64 x.at_]:=by cases x;simp only[Expr.cells];rfl
theorem Pat.bF(x:Pat):x.cells=[.int .i64 x.kind]++[.str x.name]++[SL x.keysF (Expr.aC x.keys) x.keys.length]++[SL x.patsF (Pat.aC x.pats) x.pats.length]:=by cases x;simp only[Pat.cells];rfl
theorem Def.bF(x:Def):x.cells=[.str x.name]++[SL x.paramsF (x.params.map D.str) x.params.length]++Expr.cells x.body:=by cases x;simp only[Def.cells];rfl
theorem Expr.aK(x:Expr):x.cells.length=10:=by rw[Expr.bF];simp[Dec.aK]
theorem Pat.aK(x:Pat):x.cells.length=4:=by rw[Pat.bF];simp[]
theorem Def.aK(x:Def):x.cells.length=12:=by rw[Def.bF];simp[Expr.aK]
theorem Expr.aD(x:Expr)(n:Nat):D.aD n x.cells=true:=by rw[Expr.bF];simp[D.cS,mK,mL,mO,mM,mS,jS,Dec.aD]
theorem Expr.aF(x:Expr):D.aF x.cells=true:=by rw[Expr.bF];simp[D.cW,nC,nD,nG,nE,nH,kW,Dec.aF]
theorem Expr.fz(x:Expr){H:aA}{n f:Nat}:bN (Go.AM.fz H n (f+1)) x.cells=some x.cells:=by rw[Expr.bF];simp[jB,bN,lA,nQ,nP,nR,Dec.fz]
theorem Expr.load(x:Expr)(r:List D):aJ true 10 (x.cells++r)=some (.agg x.cells):=by simp[aJ,Expr.aK,List.take_append_of_le_length]
theorem Expr.pM(x:Expr):aJ true 10 x.cells=some (.agg x.cells):=by simpa using Expr.load x []
theorem Expr.take(x:Expr)(r:List D):(x.cells++r).take 10=x.cells:=by simp[Expr.aK,List.take_append_of_le_length]
theorem Expr.tG(x:Expr)(r:List D):aJ false 1 ((x.cells++r))=some (.int .i64 x.kind):=by rw[Expr.bF];simp[aJ,Dec.aK,List.drop_append]
theorem Expr.J3(x:Expr):aJ false 1 (x.cells)=some (.int .i64 x.kind):=by simpa using Expr.tG x []
theorem Expr.tF(x:Expr)(r:List D):aJ false 1 ((x.cells++r).drop 1)=some (.str x.name):=by rw[Expr.bF];simp[aJ,Dec.aK,List.drop_append]
theorem Expr.vP(x:Expr):aJ false 1 (x.cells.drop 1)=some (.str x.name):=by simpa using Expr.tF x []
theorem Expr.Gq(x:Expr):aJ false 1 x.cells.tail=some (.str x.name):=by simpa using Expr.vP x
theorem Expr.J8(x:Expr)(r:List D):aJ false 1 ((x.cells++r).drop 2)=some (.str x.text):=by rw[Expr.bF];simp[aJ,Dec.aK,List.drop_append]
theorem Expr.u3(x:Expr):aJ false 1 (x.cells.drop 2)=some (.str x.text):=by simpa using Expr.J8 x []
theorem Expr.K0(x:Expr)(r:List D):aJ true 3 ((x.cells++r).drop 3)=some (.agg x.num.cells):=by rw[Expr.bF];simp[aJ,Dec.aK,List.take_append_of_le_length,List.drop_append]
theorem Expr.Kw(x:Expr):aJ true 3 (x.cells.drop 3)=some (.agg x.num.cells):=by simpa using Expr.K0 x []
theorem Expr.IV(x:Expr)(r:List D):aJ false 1 ((x.cells++r).drop 3)=some (.bool x.num.neg):=by rw[Expr.bF,Dec.bF];simp[aJ,List.drop_append]
theorem Expr.zFr(x:Expr):aJ false 1 (x.cells.drop 3)=some (.bool x.num.neg):=by simpa using Expr.IV x []
theorem Expr.IX(x:Expr)(r:List D):aJ false 1 ((x.cells++r).drop 6)=some (SL x.kidsF (Expr.aC x.kids) x.kids.length):=by rw[Expr.bF];simp[aJ,Dec.aK,List.drop_append]
theorem Expr.zFt(x:Expr):aJ false 1 (x.cells.drop 6)=some (SL x.kidsF (Expr.aC x.kids) x.kids.length):=by simpa using Expr.IX x []
theorem Expr.J9(x:Expr)(r:List D):aJ false 1 ((x.cells++r).drop 7)=some (SL x.patsF (Pat.aC x.pats) x.pats.length):=by rw[Expr.bF];simp[aJ,Dec.aK,List.drop_append]
theorem Expr.Kv(x:Expr):aJ false 1 (x.cells.drop 7)=some (SL x.patsF (Pat.aC x.pats) x.pats.length):=by simpa using Expr.J9 x []
theorem Expr.JA(x:Expr)(r:List D):aJ false 1 ((x.cells++r).drop 8)=some (SL x.defsF (Def.aC x.defs) x.defs.length):=by rw[Expr.bF];simp[aJ,Dec.aK,List.drop_append]
theorem Expr.zFw(x:Expr):aJ false 1 (x.cells.drop 8)=some (SL x.defsF (Def.aC x.defs) x.defs.length):=by simpa using Expr.JA x []
theorem Expr.K1(x:Expr)(r:List D):aJ false 1 ((x.cells++r).drop 9)=some (.int .i64 x.at_):=by rw[Expr.bF];simp[aJ,Dec.aK,List.drop_append]
theorem Expr.Kx(x:Expr):aJ false 1 (x.cells.drop 9)=some (.int .i64 x.at_):=by simpa using Expr.K1 x []
def Expr.rest(l:List Expr)(k:Nat):List D:=(Expr.aC l).drop ((k+1)*10)
theorem Expr.dG {l:List Expr}{k:Nat}(hk:k<l.length):(Expr.aC l).drop (k*10)=l[k].cells++Expr.rest l k:=by
 unfold Expr.rest
 induction l generalizing k with
 | nil=>simp at hk
 | cons x r ih=>
  cases k with
  | zero=>simp[Expr.aC,List.drop_append,Expr.aK]
  | succ k=>
   have:=ih (k:=k) (by simpa using hk);simp only[Expr.aC,List.getElem_cons_succ,List.drop_append,Expr.aK];rw[show(k+1)*10-10=k*10 by omega,show(k+1+1)*10-10=(k+1)*10 by omega,List.drop_eq_nil_of_le (as:=x.cells) (by rw[Expr.aK];omega),List.drop_eq_nil_of_le (as:=x.cells) (by rw[Expr.aK];omega)];simpa using this
theorem Expr.bC(l:List Expr):(Expr.aC l).length=l.length*10:=by
 induction l with
 | nil=>rfl
 | cons x r ih=>simp only[Expr.aC,List.length_append,Expr.aK,ih,List.length_cons];omega
theorem Expr.iU(l r:List Expr):Expr.aC (l++r)=Expr.aC l++Expr.aC r:=by
 induction l with
 | nil=>rfl
 | cons x l ih=>simp[Expr.aC,ih]
theorem Expr.dQ(l:List Expr)(n:Nat):D.aD n (Expr.aC l)=true:=by
 induction l with
 | nil=>rfl
 | cons x l ih=>simp[Expr.aC,D.cS,Expr.aD,ih]
theorem Expr.dT(l:List Expr):D.aF (Expr.aC l)=true:=by
 induction l with
 | nil=>rfl
 | cons x l ih=>simp[Expr.aC,D.cW,Expr.aF,ih]
theorem Expr.eY(l:List Expr){H:aA}{n f:Nat}:bN (Go.AM.fz H n (f+1)) (Expr.aC l)=some (Expr.aC l):=by
 induction l with
 | nil=>rfl
 | cons x l ih=>simp[Expr.aC,jB,Expr.fz,ih]
theorem Pat.aD(x:Pat)(n:Nat):D.aD n x.cells=true:=by rw[Pat.bF];simp[D.cS,mK,mL,mO,mM,mS,jS]
theorem Pat.aF(x:Pat):D.aF x.cells=true:=by rw[Pat.bF];simp[D.cW,nC,nD,nG,nE,nH,kW]
theorem Pat.fz(x:Pat){H:aA}{n f:Nat}:bN (Go.AM.fz H n (f+1)) x.cells=some x.cells:=by rw[Pat.bF];simp[jB,bN,lA,nQ,nP,nR]
theorem Pat.load(x:Pat)(r:List D):aJ true 4 (x.cells++r)=some (.agg x.cells):=by simp[aJ,Pat.aK,List.take_append_of_le_length]
theorem Pat.pM(x:Pat):aJ true 4 x.cells=some (.agg x.cells):=by simpa using Pat.load x []
theorem Pat.take(x:Pat)(r:List D):(x.cells++r).take 4=x.cells:=by simp[Pat.aK,List.take_append_of_le_length]
theorem Pat.tG(x:Pat)(r:List D):aJ false 1 ((x.cells++r))=some (.int .i64 x.kind):=by rw[Pat.bF];simp[aJ,List.drop_append]
theorem Pat.J3(x:Pat):aJ false 1 (x.cells)=some (.int .i64 x.kind):=by simpa using Pat.tG x []
theorem Pat.tF(x:Pat)(r:List D):aJ false 1 ((x.cells++r).drop 1)=some (.str x.name):=by rw[Pat.bF];simp[aJ,List.drop_append]
theorem Pat.vP(x:Pat):aJ false 1 (x.cells.drop 1)=some (.str x.name):=by simpa using Pat.tF x []
theorem Pat.Gq(x:Pat):aJ false 1 x.cells.tail=some (.str x.name):=by simpa using Pat.vP x
theorem Pat.IY(x:Pat)(r:List D):aJ false 1 ((x.cells++r).drop 2)=some (SL x.keysF (Expr.aC x.keys) x.keys.length):=by rw[Pat.bF];simp[aJ,List.drop_append]
theorem Pat.zFu(x:Pat):aJ false 1 (x.cells.drop 2)=some (SL x.keysF (Expr.aC x.keys) x.keys.length):=by simpa using Pat.IY x []
theorem Pat.J9(x:Pat)(r:List D):aJ false 1 ((x.cells++r).drop 3)=some (SL x.patsF (Pat.aC x.pats) x.pats.length):=by rw[Pat.bF];simp[aJ,List.drop_append]
theorem Pat.Kv(x:Pat):aJ false 1 (x.cells.drop 3)=some (SL x.patsF (Pat.aC x.pats) x.pats.length):=by simpa using Pat.J9 x []
def Pat.rest(l:List Pat)(k:Nat):List D:=(Pat.aC l).drop ((k+1)*4)
theorem Pat.dG {l:List Pat}{k:Nat}(hk:k<l.length):(Pat.aC l).drop (k*4)=l[k].cells++Pat.rest l k:=by
 unfold Pat.rest
 induction l generalizing k with
 | nil=>simp at hk
 | cons x r ih=>
  cases k with
  | zero=>simp[Pat.aC,List.drop_append,Pat.aK]
  | succ k=>
   have:=ih (k:=k) (by simpa using hk);simp only[Pat.aC,List.getElem_cons_succ,List.drop_append,Pat.aK];rw[show(k+1)*4-4=k*4 by omega,show(k+1+1)*4-4=(k+1)*4 by omega,List.drop_eq_nil_of_le (as:=x.cells) (by rw[Pat.aK];omega),List.drop_eq_nil_of_le (as:=x.cells) (by rw[Pat.aK];omega)];simpa using this
theorem Pat.bC(l:List Pat):(Pat.aC l).length=l.length*4:=by
 induction l with
 | nil=>rfl
 | cons x r ih=>simp only[Pat.aC,List.length_append,Pat.aK,ih,List.length_cons];omega
theorem Pat.iU(l r:List Pat):Pat.aC (l++r)=Pat.aC l++Pat.aC r:=by
 induction l with
 | nil=>rfl
 | cons x l ih=>simp[Pat.aC,ih]
theorem Pat.dQ(l:List Pat)(n:Nat):D.aD n (Pat.aC l)=true:=by
 induction l with
 | nil=>rfl
 | cons x l ih=>simp[Pat.aC,D.cS,Pat.aD,ih]
theorem Pat.dT(l:List Pat):D.aF (Pat.aC l)=true:=by
 induction l with
 | nil=>rfl
 | cons x l ih=>simp[Pat.aC,D.cW,Pat.aF,ih]
theorem Pat.eY(l:List Pat){H:aA}{n f:Nat}:bN (Go.AM.fz H n (f+1)) (Pat.aC l)=some (Pat.aC l):=by
 induction l with
 | nil=>rfl
 | cons x l ih=>simp[Pat.aC,jB,Pat.fz,ih]
theorem Def.aD(x:Def)(n:Nat):D.aD n x.cells=true:=by rw[Def.bF];simp[D.cS,mK,mL,mO,mM,mS,jS,Expr.aD]
theorem Def.aF(x:Def):D.aF x.cells=true:=by rw[Def.bF];simp[D.cW,nC,nD,nG,nE,nH,kW,Expr.aF]
theorem Def.fz(x:Def){H:aA}{n f:Nat}:bN (Go.AM.fz H n (f+1)) x.cells=some x.cells:=by rw[Def.bF];simp[jB,bN,lA,nQ,nP,nR,Expr.fz]
theorem Def.load(x:Def)(r:List D):aJ true 12 (x.cells++r)=some (.agg x.cells):=by simp[aJ,Def.aK,List.take_append_of_le_length]
theorem Def.pM(x:Def):aJ true 12 x.cells=some (.agg x.cells):=by simpa using Def.load x []
theorem Def.take(x:Def)(r:List D):(x.cells++r).take 12=x.cells:=by simp[Def.aK,List.take_append_of_le_length]
theorem Def.tF(x:Def)(r:List D):aJ false 1 ((x.cells++r))=some (.str x.name):=by rw[Def.bF];simp[aJ,Expr.aK,List.drop_append]
theorem Def.vP(x:Def):aJ false 1 (x.cells)=some (.str x.name):=by simpa using Def.tF x []
theorem Def.IU(x:Def)(r:List D):aJ false 1 ((x.cells++r).drop 1)=some (SL x.paramsF (x.params.map D.str) x.params.length):=by rw[Def.bF];simp[aJ,Expr.aK,List.drop_append]
theorem Def.HY(x:Def):aJ false 1 (x.cells.drop 1)=some (SL x.paramsF (x.params.map D.str) x.params.length):=by simpa using Def.IU x []
theorem Def.RW(x:Def):aJ false 1 x.cells.tail=some (SL x.paramsF (x.params.map D.str) x.params.length):=by simpa using Def.HY x
theorem Def.JC(x:Def)(r:List D):aJ true 10 ((x.cells++r).drop 2)=some (.agg x.body.cells):=by rw[Def.bF];simp[aJ,Expr.aK,List.take_append_of_le_length,List.drop_append]
theorem Def.zFx(x:Def):aJ true 10 (x.cells.drop 2)=some (.agg x.body.cells):=by simpa using Def.JC x []
def Def.rest(l:List Def)(k:Nat):List D:=(Def.aC l).drop ((k+1)*12)
theorem Def.dG {l:List Def}{k:Nat}(hk:k<l.length):(Def.aC l).drop (k*12)=l[k].cells++Def.rest l k:=by
 unfold Def.rest
 induction l generalizing k with
 | nil=>simp at hk
 | cons x r ih=>
  cases k with
  | zero=>simp[Def.aC,List.drop_append,Def.aK]
  | succ k=>
   have:=ih (k:=k) (by simpa using hk);simp only[Def.aC,List.getElem_cons_succ,List.drop_append,Def.aK];rw[show(k+1)*12-12=k*12 by omega,show(k+1+1)*12-12=(k+1)*12 by omega,List.drop_eq_nil_of_le (as:=x.cells) (by rw[Def.aK];omega),List.drop_eq_nil_of_le (as:=x.cells) (by rw[Def.aK];omega)];simpa using this
inductive Token where
 | mk (kind:Int) (text:Bs) (num:Dec) (at_:Int)
def Token.kind:Token->Int | .mk x _ _ _=>x
def Token.text:Token->Bs | .mk _ x _ _=>x
def Token.num:Token->Dec | .mk _ _ x _=>x
def Token.at_:Token->Int | .mk _ _ _ x=>x
mutual
def Token.cells:Token->List D
 | .mk kind text num at_=>[.int .i64 kind]++[.str text]++Dec.cells num++[.int .i64 at_]
def Token.aC:List Token->List D
 | []=>[]
 | x::r=>Token.cells x++Token.aC r
end
theorem Token.bF(x:Token):x.cells=[.int .i64 x.kind]++[.str x.text]++Dec.cells x.num++[.int .i64 x.at_]:=by cases x;simp only[Token.cells];rfl
theorem Token.aK(x:Token):x.cells.length=6:=by rw[Token.bF];simp[Dec.aK]
theorem Token.aD(x:Token)(n:Nat):D.aD n x.cells=true:=by rw[Token.bF];simp[D.cS,mK,mL,mO,mM,mS,jS,Dec.aD]
theorem Token.aF(x:Token):D.aF x.cells=true:=by rw[Token.bF];simp[D.cW,nC,nD,nG,nE,nH,kW,Dec.aF]
theorem Token.fz(x:Token){H:aA}{n f:Nat}:bN (Go.AM.fz H n (f+1)) x.cells=some x.cells:=by rw[Token.bF];simp[jB,bN,lA,nQ,nP,nR,Dec.fz]
theorem Token.load(x:Token)(r:List D):aJ true 6 (x.cells++r)=some (.agg x.cells):=by simp[aJ,Token.aK,List.take_append_of_le_length]
theorem Token.pM(x:Token):aJ true 6 x.cells=some (.agg x.cells):=by simpa using Token.load x []
theorem Token.take(x:Token)(r:List D):(x.cells++r).take 6=x.cells:=by simp[Token.aK,List.take_append_of_le_length]
theorem Token.tG(x:Token)(r:List D):aJ false 1 ((x.cells++r))=some (.int .i64 x.kind):=by rw[Token.bF];simp[aJ,Dec.aK,List.drop_append]
theorem Token.J3(x:Token):aJ false 1 (x.cells)=some (.int .i64 x.kind):=by simpa using Token.tG x []
theorem Token.J8(x:Token)(r:List D):aJ false 1 ((x.cells++r).drop 1)=some (.str x.text):=by rw[Token.bF];simp[aJ,Dec.aK,List.drop_append]
theorem Token.u3(x:Token):aJ false 1 (x.cells.drop 1)=some (.str x.text):=by simpa using Token.J8 x []
theorem Token.RV(x:Token):aJ false 1 x.cells.tail=some (.str x.text):=by simpa using Token.u3 x
theorem Token.K0(x:Token)(r:List D):aJ true 3 ((x.cells++r).drop 2)=some (.agg x.num.cells):=by rw[Token.bF];simp[aJ,Dec.aK,List.take_append_of_le_length,List.drop_append]
theorem Token.Kw(x:Token):aJ true 3 (x.cells.drop 2)=some (.agg x.num.cells):=by simpa using Token.K0 x []
theorem Token.K1(x:Token)(r:List D):aJ false 1 ((x.cells++r).drop 5)=some (.int .i64 x.at_):=by rw[Token.bF];simp[aJ,Dec.aK,List.drop_append]
theorem Token.Kx(x:Token):aJ false 1 (x.cells.drop 5)=some (.int .i64 x.at_):=by simpa using Token.K1 x []
def Token.rest(l:List Token)(k:Nat):List D:=(Token.aC l).drop ((k+1)*6)
theorem Token.dG {l:List Token}{k:Nat}(hk:k<l.length):(Token.aC l).drop (k*6)=l[k].cells++Token.rest l k:=by
 unfold Token.rest
 induction l generalizing k with
 | nil=>simp at hk
 | cons x r ih=>
  cases k with
  | zero=>simp[Token.aC,List.drop_append,Token.aK]
  | succ k=>
   have:=ih (k:=k) (by simpa using hk);simp only[Token.aC,List.getElem_cons_succ,List.drop_append,Token.aK];rw[show(k+1)*6-6=k*6 by omega,show(k+1+1)*6-6=(k+1)*6 by omega,List.drop_eq_nil_of_le (as:=x.cells) (by rw[Token.aK];omega),List.drop_eq_nil_of_le (as:=x.cells) (by rw[Token.aK];omega)];simpa using this
theorem Token.bC(l:List Token):(Token.aC l).length=l.length*6:=by
 induction l with
 | nil=>rfl
 | cons x r ih=>simp only[Token.aC,List.length_append,Token.aK,ih,List.length_cons];omega
theorem Token.iU(l r:List Token):Token.aC (l++r)=Token.aC l++Token.aC r:=by
 induction l with
 | nil=>rfl
 | cons x l ih=>simp[Token.aC,ih]
theorem Token.dQ(l:List Token)(n:Nat):D.aD n (Token.aC l)=true:=by
 induction l with
 | nil=>rfl
 | cons x l ih=>simp[Token.aC,D.cS,Token.aD,ih]
theorem Token.dT(l:List Token):D.aF (Token.aC l)=true:=by
 induction l with
 | nil=>rfl
 | cons x l ih=>simp[Token.aC,D.cW,Token.aF,ih]
theorem Token.eY(l:List Token){H:aA}{n f:Nat}:bN (Go.AM.fz H n (f+1)) (Token.aC l)=some (Token.aC l):=by
 induction l with
 | nil=>rfl
 | cons x l ih=>simp[Token.aC,jB,Token.fz,ih]
inductive Note where
 | mk (kind:Int) (name:Bs) (at_:Int)
def Note.kind:Note->Int | .mk x _ _=>x
def Note.name:Note->Bs | .mk _ x _=>x
def Note.at_:Note->Int | .mk _ _ x=>x
mutual
def Note.cells:Note->List D
 | .mk kind name at_=>[.int .i64 kind]++[.str name]++[.int .i64 at_]
def Note.aC:List Note->List D
 | []=>[]
 | x::r=>Note.cells x++Note.aC r
end
theorem Note.bF(x:Note):x.cells=[.int .i64 x.kind]++[.str x.name]++[.int .i64 x.at_]:=by cases x;simp only[Note.cells];rfl
theorem Note.aK(x:Note):x.cells.length=3:=by rw[Note.bF];simp[]
theorem Note.aD(x:Note)(n:Nat):D.aD n x.cells=true:=by rw[Note.bF];simp[D.cS,mK,mL,mO,mM,mS,jS]
theorem Note.aF(x:Note):D.aF x.cells=true:=by rw[Note.bF];simp[D.cW,nC,nD,nG,nE,nH,kW]
theorem Note.fz(x:Note){H:aA}{n f:Nat}:bN (Go.AM.fz H n (f+1)) x.cells=some x.cells:=by rw[Note.bF];simp[jB,bN,lA,nQ,nP,nR]
theorem Note.load(x:Note)(r:List D):aJ true 3 (x.cells++r)=some (.agg x.cells):=by simp[aJ,Note.aK,List.take_append_of_le_length]
theorem Note.take(x:Note)(r:List D):(x.cells++r).take 3=x.cells:=by simp[Note.aK,List.take_append_of_le_length]
def Note.rest(l:List Note)(k:Nat):List D:=(Note.aC l).drop ((k+1)*3)
end Go.AM
