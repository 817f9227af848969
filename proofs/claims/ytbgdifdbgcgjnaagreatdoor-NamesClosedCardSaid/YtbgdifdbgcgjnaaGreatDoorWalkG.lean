/- Walks. -/
import Derived.Test.YtbgdifdbgcgjnaaGreatDoorWalkF
set_option linter.unusedVariables false
set_option linter.unusedSimpArgs false
set_option linter.unnecessarySimpa false
set_option maxRecDepth 100000
namespace Go.AM.T
section
variable {X:Ctx}
abbrev fX(l:List Int):List D:=l.map (D.int .u8)
theorem NI:∀l:List Int,∃s,jD (fX l)=some s∧s.length=l.length
 | []=>⟨[],rfl,rfl⟩
 | x::l=>by
  obtain⟨s,h1,h2⟩:=NI l;exact⟨UInt8.ofNat x.toNat::s,by simp only[fX,List.map_cons,jD];rw[show jD (List.map (D.int .u8) l)=some s from h1];rfl,by simp[h2]⟩
theorem Reverse(hX:CX X)(H:aA)(id:Nat)(l:List Int)(hid:id<H.length)(hr:H[id]? =some (.row 1 (fX l) false))(hl:(l.length:Int)<=1000000):
  ∃d H',cF X yH [.osl id l.length 0 l.length] H=some (d,H')∧(d=.tup []∧∃l',l'.length=l.length∧H'=H.set id (.row 1 (fX l') false)):=by
 refine zAl hX ?_;have w0:IntKind.i64.wrap ((l.length:Int)-1)=(l.length:Int)-1:=wI;simp[Q2,w0];refine cH (fun(q:Nat×List Int) e H'=>H'=H.set id (.row 1 (fX q.2) false)∧q.2.length=l.length∧q.1<=l.length∧e.get 0=.osl id l.length 0 l.length∧e.get 2=.int .i64 q.1∧e.get 3=.int .i64 ((l.length:Int)-1-q.1)) (fun q=>l.length-q.1) ?_ (0,l) (by
  simp;exact(D9 hr).symm)
 rintro⟨k,q⟩ e H' ⟨rfl,hq,hk,h0,h2,h3⟩ L ih;simp only at *;by_cases h:(k:Int)<(l.length:Int)-1-k
 ·have hk1:k<q.length:=by omega
  have hk1':k<l.length:=by omega
  obtain⟨j,hj⟩:∃j:Nat,(l.length:Int)-1-k=j:=⟨l.length-1-k,by omega⟩;rw[hj]at h h3;have hj1:j<q.length:=by omega
  have hj2:j<l.length:=by omega
  have hkj:k<j:=by omega
  have e1:IntKind.i64.wrap ((k:Int)+1)=((k+1:Nat):Int):=by rw[wrap_i64 (by omega) (by omega)];omega
  have e2:IntKind.i64.wrap ((j:Int)-1)=(j:Int)-1:=wI;have d1:aJ false 1 (List.drop k (fX q))=some (.int .u8 q[k]):=jN hk1;have d2:aJ false 1 (List.drop j (fX q))=some (.int .u8 q[j]):=jN hj1;have s1:List.take k (fX q)++D.int .u8 q[j]::List.drop (k+1) (fX q)=fX (q.set k q[j]):=by
   have:=CD (cs:=fX q) (i:=k) (x:=.int .u8 q[j]) (by simpa using hk1);simpa using this
  have s2:List.take j (fX (q.set k q[j]))++D.int .u8 q[k]::List.drop (j+1) (fX (q.set k q[j]))=fX ((q.set k q[j]).set j q[k]):=by
   have:=CD (cs:=fX (q.set k q[j])) (i:=j) (x:=.int .u8 q[k]) (by simpa using hj1);simpa using this
  simp only[fX]at d1 d2 s1 s2;have b1:k+1<=l.length:=by omega
  have b2:j+1<=l.length:=by omega
  simp[Ce,h0,h2,h3,hkj,hk1',hj2,zHp hid,hq,d1,d2,hid,s1, -List.map_set];rw[if_pos b1,if_pos b2,s2,e1,e2];refine ih (k+1,(q.set k q[j]).set j q[k]) _ _ (by simp only;omega) ?_;simp[h0,hq];omega
 ·simp[Ce,h0,h2,h3,h,aB]
  exact⟨q,hq,rfl⟩
theorem zJk {l:List Int}(hu:eP l):eS (cG l)<=10*l.length:=KY (Nat.lt_of_lt_of_le (IF hu) (ZM _))
theorem Print(hX:CX X)(H:aA)(f:Nl)(a:List Int)(ha:eP a)(hc:lM a=0):
  ∃d H',cF X Ji [SL f (cJ a) a.length] H=some (d,H')∧((∃s:Bs,d=.tup [.str s,.int .i64 0]∧(a≠ []->s.length=eS (cG a)))∧H'=H):=by
 have hl:a.length<=256:=by unfold lM at hc;split at hc <;> omega
 have hlast:a.getLast?≠some 0:=by
  unfold lM at hc;rw[if_neg (by omega)]at hc;split at hc
  ·cases hc
  ·assumption
 have hN:eS (cG a)<=2560:=by have:=zJk ha;omega
 have c1:=Z9 hX H f a (by omega);rw[hc]at c1;refine zAr hX ?_;simp[Sc,c1];refine cH (fun(q:Nl×List Int×List Int×Bool) e H'=>H'=H++[.row 1 (fX q.2.2.1) q.2.2.2]∧(q.2.2.2=true->q.2.2.1=[])∧eP q.2.1∧q.2.1.length<=256∧(q.2.1≠ []->0<cG q.2.1)∧q.2.2.1.length+eS (cG q.2.1)=eS (cG a)∧
  e.get 5=.osl H.length q.2.2.1.length 0 q.2.2.1.length∧e.get 6=SL q.1 (cJ q.2.1) q.2.1.length) (fun q=>cG q.2.1) ?_ (f,a,[],true) (by
   simp;exact⟨ha,hl,fun h=>IE ha h hlast⟩)
 rintro⟨g,l,cs,nl⟩ e H' ⟨rfl,hnl,hu,hll,hlp,hd,h5,h6⟩ L ih;simp only at *;by_cases hne:l=[]
 ·subst hne
  simp[cG,N4]at hd;by_cases hz:cs=[]
  ·subst hz
   simp[Cz,h5,h6,aB];simp at hd;intro h';have:=IE ha h' hlast;rw[N5 (by omega)]at hd;omega
  ·have hnl':nl=false:=by cases nl with
    | false=>rfl
    | true=>exact absurd (hnl rfl) hz
   subst hnl';have hcl:0<cs.length:=List.length_pos_iff.2 hz;obtain⟨d,H2,g1,rfl,l',g2,rfl⟩:=Reverse hX (H++[.row 1 (fX cs) false]) H.length cs (by simp) (by simp) (by omega);obtain⟨s,g3,g4⟩:=NI l';simp at g1 g3;have ht:List.take cs.length (List.map (D.int .u8) l')=List.map (D.int .u8) l':=List.take_of_length_le (by simp[g2]);simp[Cz,h5,h6,hz,g1,elems,g2,g3,ht,aB];intro _;omega
 ·have hpos:=hlp hne
  have hl0:0<l.length:=List.length_pos_iff.2 hne;have hsm:=fun H'=>small hX H' g l hu (by omega) 1000000000 (by omega) (by omega)
  have hq:=zJi (y:=1000000000) (by omega) hu;have hr:=KX (y:=1000000000) (by omega) hu;have hql:=Au l 1000000000;have hqu:=KW (y:=1000000000) (by omega) hu;have hm:=Gl (bQ l 1000000000).1 l.length;have htv:=BD (l:=(bQ l 1000000000).1) (n:=l.length) (by omega);have htp:=BE hqu (n:=l.length) (by omega);rw[List.take_of_length_le (l:=(bQ l 1000000000).1) (i:=l.length) (by omega),hq]at htv htp;simp at hsm;simp[Cz,h5,h6,hl0,hsm];generalize(bQ l 1000000000).2=r at *;generalize(bQ l 1000000000).1=q at *;generalize gI q l.length=m at *;have hr9:r<1000000000:=by omega
  have hdr:eS r<=9:=KY (by omega);refine cH (fun(t:Nat×Nat×List Int×Bool) e H'=>H'=H++[.row 1 (fX t.2.2.1) t.2.2.2]∧(t.2.2.2=true->t.2.2.1=[])∧t.1<=9∧t.2.1<1000000000∧(0<m->t.2.2.1.length=cs.length+t.1)∧(m=0->eS t.2.1+t.2.2.1.length=cs.length+eS r∧t.1+eS t.2.1<=9)∧
   e.get 5=.osl H.length t.2.2.1.length 0 t.2.2.1.length∧e.get 7=SL .nil (List.take m (cJ q)) m∧e.get 8=.int .u32 t.2.1∧e.get 9=.int .i64 t.1∧t.2.2.1.length<=cs.length+9) (fun t=>9-t.1) ?_ (0,r,cs,nl) (by simp[h5];exact⟨hnl,hr9,fun _=>⟨by omega,hdr⟩⟩)
  rintro⟨i,r',cs',nl'⟩ e' H'' ⟨rfl,hnl',hi,hr',hp1,hp2,k5,k7,k8,k9,hcl⟩ L' ih';simp only at *;have hml:(q.take m).length=m:=by rw[List.length_take];omega
  have fin:cs'.length+eS (cG (q.take m))=eS (cG a)->∀e'':Env,e''.get 5=.osl H.length cs'.length 0 cs'.length->e''.get 6=SL .nil (List.take m (List.map (D.int .u32) q)) m->_:=fun hf e'' j5 j6=>
   ih (.nil,q.take m,cs',nl') e'' (H++[.row 1 (fX cs') nl']) (by simp only;rw[htv];omega) ⟨rfl,hnl',hqu.take m,by simp only;omega,fun h'=>by
    simp only at h' ⊢;have:m≠0:=fun h0=>h' (List.length_eq_zero_iff.1 (by rw[hml];exact h0))
    have:=mt htp.2 this;rw[htv];omega,hf,j5,by simp only;rw[hml,RF];exact j6⟩
  have hlN:eS (cG l)=if m=0 then eS r else eS (cG l / 1000000000)+9:=by
   split
   ·rename_i h0
    have:=htp.1 h0;rw[hr];congr 1;omega
   ·rename_i h0
    have h0':=mt htp.2 h0;rw[← zJj (q:=cG l / 1000000000) (r:=r) (by omega) hr9];congr 1;omega
  have done:(i=9∨(m=0∧r'=0))->cs'.length+eS (cG (q.take m))=eS (cG a):=fun h'=>by
   rw[htv, ← hd,hlN];by_cases h0:m=0
   ·rw[if_pos h0]
    have g1:=hp2 h0;have g2:=htp.1 h0;rw[g2,N4];rcases h' with h' | ⟨_,h'⟩
    ·omega
    ·subst h';rw[N4]at g1;omega
   ·rw[if_neg h0]
    have g1:=hp1 (by omega);rcases h' with h' | ⟨h',_⟩
    ·omega
    ·omega
  by_cases ci:i<9
  ·have ci':(i:Int)<9:=by omega
   have w9:IntKind.i64.wrap ((i:Int)+1)=((i+1:Nat):Int):=by rw[wrap_i64 (by omega) (by omega)];omega
   have hdiv:IntKind.u32.wrap (Int.tdiv (r':Int) 10)=((r' / 10:Nat):Int):=by rw[show Int.tdiv (r':Int) 10=((r' / 10:Nat):Int) from by rw[Int.tdiv_eq_ediv_of_nonneg (by omega)];omega,wrap_u32 (by omega) (by omega)]
   have ap:∀v:Int,cR H.length (H++[Chunk.row 1 (fX cs') nl']) 1 1 (.osl H.length cs'.length 0 cs'.length) [D.int .u8 v] 1=some (.osl H.length (cs'.length+1*1) 0 (cs'.length+1),(H++[Chunk.row 1 (fX cs') nl']).set H.length (Chunk.row 1 (fX cs'++[D.int .u8 v]) false)):=fun v=>
    kB (cs:=fX cs') (nil:=nl') (by simp) (by simp) (by omega) (fun h=>by rw[hnl' h];rfl) (by unfold aX;omega) (by unfold aX;omega) BS (by omega)
   simp at ap;have next:(0<m∨0<r')->∀(v:Int) (e'':Env),e''.get 5=.osl H.length (cs'.length+1) 0 (cs'.length+1)->e''.get 7=SL .nil (List.take m (List.map (D.int .u32) q)) m->e''.get 8=.int .u32 ((r' / 10:Nat):Int)->e''.get 9=.int .i64 ((i+1:Nat):Int)->_:=fun hc v e'' j5 j7 j8 j9=>
    ih' (i+1,r' / 10,cs'++[v],false) e'' (H++[Chunk.row 1 (List.map (D.int .u8) cs'++[D.int .u8 v]) false]) (by simp only;omega) ⟨by simp,by simp,by simp only;omega,by simp only;omega,fun h'=>by have:=hp1 h';simp;omega,fun h'=>by
     have:=hp2 h';have hr0:r'≠0:=by omega
     rw[N5 hr0]at this;simp;omega,by simpa using j5,j7,j8,j9,by
     simp only[List.length_append,List.length_cons,List.length_nil];by_cases h0:m=0
     ·have:=hp2 h0
      have hr0:r'≠0:=by omega
      rw[N5 hr0]at this;omega
     ·have:=hp1 (by omega);omega⟩
   by_cases cm:0<m
   ·simp[Q6,k5,k7,k8,k9,ci',cm,z12,elems,ap,w9,hdiv]
    exact next (.inl cm) _ _ (by simp) (by simp[k7]) (by simp;rw[wrap_u32 (by omega) (by omega)]) (by simp)
   ·obtain rfl:m=0:=by omega
    by_cases cr:0<r'
    ·have cr':(0:Int)<r':=by omega
     simp[Q6,k5,k7,k8,k9,ci',cr',cr,z12,elems,ap,w9,hdiv];exact next (.inr cr) _ _ (by simp) (by simp[k7]) (by simp;rw[wrap_u32 (by omega) (by omega)]) (by simp)
    ·have cr':¬(0:Int)<r':=by omega
     simp[Q6,k5,k7,k8,k9,ci',cr',cr];exact fin (done (.inr ⟨rfl,by omega⟩)) _ (by simp[k5]) (by simp)
  ·have ci':¬(i:Int)<9:=by omega
   simp[Q6,k5,k7,k8,k9,ci'];exact fin (done (.inl (by omega))) _ (by simp[k5]) (by simp)
theorem zJt(hX:CX X)(H:aA)(f:Nl)(a:List Int)(ha:eP a)(hne:a≠ [])(hc:lM a=0):cF X Jz [SL f (cJ a) a.length] H=some (.int .i64 (eS (cG a)),H):=by
 obtain⟨d,H',g1,⟨s,rfl,g2⟩,rfl⟩:=Print hX H f a ha hc;have hpos:¬a.length=0:=fun h=>hne (List.length_eq_zero_iff.1 h)
 refine zLp hX ?_;simp[Ug,aB,g1,hne,g2 hne]
theorem zJu(hX:CX X)(H:aA)(d:Dec)(hw:d.wf):cF X Ka [.agg d.cells] H=some (.int .i64 (Ml d),H):=by
 refine zLq hX ?_;obtain⟨hu,hl⟩:=hw;have c1:=Z9 hX H d.coefF d.coef hl;unfold Ml;by_cases h0:lM d.coef=0
 ·by_cases h40:40<d.coef.length
  ·have h40':(40:Int)<d.coef.length:=by omega
   simp[tW,aB,c1,h0,h40,h40']
  ·have h40':¬(40:Int)<d.coef.length:=by omega
   by_cases he:d.coef=[]
   ·have c2:cF X vM [SL d.coefF [] 0] H=some (.int .i64 0,H):=by rw[he]at c1 h0;rw[h0]at c1;exact c1
    by_cases hn:d.neg=true
    ·simp[tW,aB,c2,h0,he,hn]
    ·by_cases hx:d.exp=0
     ·simp[tW,aB,c2,h0,he,hn,hx]
      exact he ▸ h0
     ·simp[tW,aB,c2,h0,he,hn,hx]
   ·obtain⟨d1,H1,g1,⟨q,m,rfl⟩,rfl⟩:=zJs hX H d.coefF d.coef hu he h0
    have g2:=zJt hX H1 d.coefF d.coef hu he h0;have hz:¬d.coef.length=0:=fun h=>he (List.length_eq_zero_iff.1 h)
    simp+contextual -implicitDefEqProofs [tW,aB,c1,h0,h40,h40',he,g1,g2];omega
 ·simp[tW,aB,c1,h0]
end
section
variable {X:Ctx}
def fv(a:Nat):Int:=if a<0x80 then 0xF0 else if a<0xC2 then 0xF1 else if a<0xE0 then 2 else if a=0xE0 then 0x13 else if a=0xED then 0x23 else if a<0xF0 then 3 else if a=0xF0 then 0x34 else if a<0xF4 then 4 else if a=0xF4 then 0x44 else 0xF1
def AY(l:List D)(a:Nat):Option Int:=match l.drop a with
 | .int .u8 n::_=>some n
 | _=>none
theorem zIc:(List.range 256).all (fun a=>AY L7 a == some (fv a))=true:=by decide+kernel
theorem tL {a:Nat}(h:a<256):aJ false 1 (List.drop a L7)=some (.int .u8 (fv a)):=by
 have:=List.all_eq_true.1 zIc a (List.mem_range.2 h);unfold AY at this;split at this
 ·rename_i n r hd
  rw[hd];simp at this;rw[this];rfl
 ·simp at this
theorem a1:eM .u8 2 7=2:=by decide+kernel
theorem a2:eM .u8 0x13 7=3:=by decide+kernel
theorem a3:eM .u8 0x23 7=3:=by decide+kernel
theorem a4:eM .u8 3 7=3:=by decide+kernel
theorem a5:eM .u8 0x34 7=4:=by decide+kernel
theorem a6:eM .u8 4 7=4:=by decide+kernel
theorem a7:eM .u8 0x44 7=4:=by decide+kernel
theorem s1:(2:Int).fdiv 16=0:=by decide+kernel
theorem s2:(0x13:Int).fdiv 16=1:=by decide+kernel
theorem s3:(0x23:Int).fdiv 16=2:=by decide+kernel
theorem s4:(3:Int).fdiv 16=0:=by decide+kernel
theorem s5:(0x34:Int).fdiv 16=3:=by decide+kernel
theorem s6:(4:Int).fdiv 16=0:=by decide+kernel
theorem s7:(0x44:Int).fdiv 16=4:=by decide+kernel
theorem w3:IntKind.i64.wrap 3=3:=by decide+kernel
theorem w2:IntKind.i64.wrap 2=2:=by decide+kernel
theorem w4:IntKind.i64.wrap 4=4:=by decide+kernel
def Of:Nat->Int:=fun a=>lL .i32 (Ok .i32 (IntKind.i32.wrap a) (Int.fdiv (IntKind.i32.wrap (IntKind.i32.wrap 0xF1*2147483648)) 2147483648)) (eM .i32 65533 (Int.fdiv (IntKind.i32.wrap (IntKind.i32.wrap 0xF1*2147483648)) 2147483648))
theorem zMX:(List.range 256).all (fun a=>Of a == 65533)=true:=by decide+kernel
theorem zMV {a:Nat}(h:a<256):Of a=65533:=by
 have:=List.all_eq_true.1 zMX a (List.mem_range.2 h);simpa using this
def mF(s:Bs)(d:D):Prop:=∃c n:Int,d=.tup [.int .i32 c,.int .i64 n]∧(cL s=0->c=65533∧n=1)∧(cL s≠0->0<=c∧n=cL s∧ ¬(c=65533∧n=1))
theorem cI {s:Bs}(h:cL s=0):mF s (.tup [.int .i32 65533,.int .i64 1]):=⟨_,_,rfl,by simp,fun h'=>absurd h h'⟩
theorem vT {s:Bs}{c:Int}{n:Nat}(h:cL s=n)(hn:2<=n)(hc:0<=c):mF s (.tup [.int .i32 c,.int .i64 n]):=
 ⟨_,_,rfl,fun h'=>by omega,fun _=>⟨hc,by rw[h],by omega⟩⟩
theorem jJ {n:Int}(h:0<=n){m:Int}(h':n<=m)(h2:m<1073741824):0<=IntKind.i32.wrap n∧IntKind.i32.wrap n<1073741824:=by
 rw[wrap_i32 h (by omega)];omega
theorem CF(hX:CX X)(H:aA)(a:UInt8)(r:Bs)(ha:128<=a.toNat)(hv:fv a.toNat=0xF1)(hd:cL (a::r)=0):∃d H',cF X nJ [.str (a::r)] H=some (d,H')∧(mF (a::r) d∧H'=H):=by
 refine sT hX ?_;have hlt:=dA a;have hf:=tL hlt;have hl:¬((r.length:Int)+1<1):=by omega
 have hb:=zMV hlt;unfold Of at hb;simp[bX,aB,hX.g_first,hf,hv,hl,IntKind.bits];rw[hb];exact⟨by omega,cI hd⟩
theorem VN(hX:CX X)(H:aA)(a:UInt8)(r:Bs)(ha:0xC2<=a.toNat∧a.toNat<0xE0):∃d H',cF X nJ [.str (a::r)] H=some (d,H')∧(mF (a::r) d∧H'=H):=by
 refine sT hX ?_;have hlt:=dA a;have hlt':(a.toNat:Int)<256:=by omega
 have hf:=tL hlt;have hv:fv a.toNat=2:=by unfold fv;repeat (first | rw[if_neg (by omega)] | rw[if_pos (by omega)])
 have hd:=fun r=>LC (a:=a) (by omega) (r:=r)
 cases r with
 | nil=>
  have h0:=hd ([]);simp at h0;simp[bX,aB,hX.g_first,hX.g_acc,hf,hv,hlt',IntKind.bits,a1,s1,w2,bT,cB];exact cI h0
 | cons b r=>
  have h0:=hd (b::r);simp only[nX]at h0;have l0:=dA b;have n1:¬(r.length:Int)+1+1<1:=by omega
  have n9:¬(r.length:Int)+1+1<2:=by omega
  by_cases t0:128<=b.toNat∧b.toNat<=191
  ·have p0:¬(b.toNat:Int)<128:=by omega
   have q0:¬191<(b.toNat:Int):=by omega
   rw[if_pos t0]at h0;simp[bX,aB,hX.g_first,hX.g_acc,hf,hv,hlt',IntKind.bits,a1,s1,w2,bT,cB,n9,n1,p0,q0];refine vT (n:=2) h0 (by omega) ?_;have z0:=gH (x:=a.toNat) (m:=31) (by omega);have z1:=gH (x:=b.toNat) (m:=63) (by omega);exact(jL (by rw[wrap_i32 (n:=eM .u8 a.toNat 31) (by omega) (by omega)];exact jJ (m:=1984) (by omega) (by omega) (by omega)) (by rw[wrap_i32 (by omega) (by omega)];omega)).1
  ·rw[if_neg (by omega)]at h0
   have p0:(b.toNat:Int)<128∨191<(b.toNat:Int):=by omega
   rcases p0 with p0 | p0
   ·simp[bX,aB,hX.g_first,hX.g_acc,hf,hv,hlt',IntKind.bits,a1,s1,w2,bT,cB,n9,n1,p0]
    exact cI h0
   ·have p0':¬(b.toNat:Int)<128:=by omega
    simp[bX,aB,hX.g_first,hX.g_acc,hf,hv,hlt',IntKind.bits,a1,s1,w2,bT,cB,n9,n1,p0,p0'];exact cI h0
theorem VM(hX:CX X)(H:aA)(a:UInt8)(r:Bs)(ha:a.toNat=0xE0):∃d H',cF X nJ [.str (a::r)] H=some (d,H')∧(mF (a::r) d∧H'=H):=by
 refine sT hX ?_;have hlt:=dA a;have hlt':(a.toNat:Int)<256:=by omega
 have hf:=tL hlt;have hv:fv a.toNat=19:=by unfold fv;repeat (first | rw[if_neg (by omega)] | rw[if_pos (by omega)])
 have hd:=fun r=>Aw (a:=a) (lo:=160) (hi:=191) (by omega) (by repeat (first | rw[if_neg (by omega)] | rw[if_pos (by omega)])) (by repeat (first | rw[if_neg (by omega)] | rw[if_pos (by omega)])) (r:=r)
 cases r with
 | nil=>
  have h0:=hd ([]);simp at h0;simp[bX,aB,hX.g_first,hX.g_acc,hf,hv,hlt',IntKind.bits,a2,s2,w3,bT,cB];exact cI h0
 | cons b r=>
  cases r with
  | nil=>
   have h0:=hd (b:: []);simp at h0;simp[bX,aB,hX.g_first,hX.g_acc,hf,hv,hlt',IntKind.bits,a2,s2,w3,bT,cB];exact cI h0
  | cons c r=>
   have h0:=hd (b::c::r);simp only[nX]at h0;have l0:=dA b;have l1:=dA c;have n1:¬(r.length:Int)+1+1+1<1:=by omega
   have n2:¬(r.length:Int)+1+1+1<2:=by omega
   have n9:¬(r.length:Int)+1+1+1<3:=by omega
   by_cases t0:160<=b.toNat∧b.toNat<=191
   ·have p0:¬(b.toNat:Int)<160:=by omega
    have q0:¬191<(b.toNat:Int):=by omega
    by_cases t1:128<=c.toNat∧c.toNat<=191
    ·have p1:¬(c.toNat:Int)<128:=by omega
     have q1:¬191<(c.toNat:Int):=by omega
     rw[if_pos ⟨t0,t1⟩]at h0;simp[bX,aB,hX.g_first,hX.g_acc,hf,hv,hlt',IntKind.bits,a2,s2,w3,bT,cB,n9,n1,n2,p0,q0,p1,q1];refine vT (n:=3) h0 (by omega) ?_;have z0:=gH (x:=a.toNat) (m:=15) (by omega);have z1:=gH (x:=b.toNat) (m:=63) (by omega);have z2:=gH (x:=c.toNat) (m:=63) (by omega);exact(jL (jL (by rw[wrap_i32 (n:=eM .u8 a.toNat 15) (by omega) (by omega)];exact jJ (m:=61440) (by omega) (by omega) (by omega)) (by rw[wrap_i32 (n:=eM .u8 b.toNat 63) (by omega) (by omega)];exact jJ (m:=4032) (by omega) (by omega) (by omega))) (by rw[wrap_i32 (by omega) (by omega)];omega)).1
    ·rw[if_neg (by omega)]at h0
     have p1:(c.toNat:Int)<128∨191<(c.toNat:Int):=by omega
     rcases p1 with p1 | p1
     ·simp[bX,aB,hX.g_first,hX.g_acc,hf,hv,hlt',IntKind.bits,a2,s2,w3,bT,cB,n9,n1,n2,p0,q0,p1]
      exact cI h0
     ·have p1':¬(c.toNat:Int)<128:=by omega
      simp[bX,aB,hX.g_first,hX.g_acc,hf,hv,hlt',IntKind.bits,a2,s2,w3,bT,cB,n9,n1,n2,p0,q0,p1,p1'];exact cI h0
   ·rw[if_neg (by omega)]at h0
    have p0:(b.toNat:Int)<160∨191<(b.toNat:Int):=by omega
    rcases p0 with p0 | p0
    ·simp[bX,aB,hX.g_first,hX.g_acc,hf,hv,hlt',IntKind.bits,a2,s2,w3,bT,cB,n9,n1,n2,p0]
     exact cI h0
    ·have p0':¬(b.toNat:Int)<160:=by omega
     simp[bX,aB,hX.g_first,hX.g_acc,hf,hv,hlt',IntKind.bits,a2,s2,w3,bT,cB,n9,n1,n2,p0,p0'];exact cI h0
theorem VK(hX:CX X)(H:aA)(a:UInt8)(r:Bs)(ha:a.toNat=0xED):∃d H',cF X nJ [.str (a::r)] H=some (d,H')∧(mF (a::r) d∧H'=H):=by
 refine sT hX ?_;have hlt:=dA a;have hlt':(a.toNat:Int)<256:=by omega
 have hf:=tL hlt;have hv:fv a.toNat=35:=by unfold fv;repeat (first | rw[if_neg (by omega)] | rw[if_pos (by omega)])
 have hd:=fun r=>Aw (a:=a) (lo:=128) (hi:=159) (by omega) (by repeat (first | rw[if_neg (by omega)] | rw[if_pos (by omega)])) (by repeat (first | rw[if_neg (by omega)] | rw[if_pos (by omega)])) (r:=r)
 cases r with
 | nil=>
  have h0:=hd ([]);simp at h0;simp[bX,aB,hX.g_first,hX.g_acc,hf,hv,hlt',IntKind.bits,a3,s3,w3,bT,cB];exact cI h0
 | cons b r=>
  cases r with
  | nil=>
   have h0:=hd (b:: []);simp at h0;simp[bX,aB,hX.g_first,hX.g_acc,hf,hv,hlt',IntKind.bits,a3,s3,w3,bT,cB];exact cI h0
  | cons c r=>
   have h0:=hd (b::c::r);simp only[nX]at h0;have l0:=dA b;have l1:=dA c;have n1:¬(r.length:Int)+1+1+1<1:=by omega
   have n2:¬(r.length:Int)+1+1+1<2:=by omega
   have n9:¬(r.length:Int)+1+1+1<3:=by omega
   by_cases t0:128<=b.toNat∧b.toNat<=159
   ·have p0:¬(b.toNat:Int)<128:=by omega
    have q0:¬159<(b.toNat:Int):=by omega
    by_cases t1:128<=c.toNat∧c.toNat<=191
    ·have p1:¬(c.toNat:Int)<128:=by omega
     have q1:¬191<(c.toNat:Int):=by omega
     rw[if_pos ⟨t0,t1⟩]at h0;simp[bX,aB,hX.g_first,hX.g_acc,hf,hv,hlt',IntKind.bits,a3,s3,w3,bT,cB,n9,n1,n2,p0,q0,p1,q1];refine vT (n:=3) h0 (by omega) ?_;have z0:=gH (x:=a.toNat) (m:=15) (by omega);have z1:=gH (x:=b.toNat) (m:=63) (by omega);have z2:=gH (x:=c.toNat) (m:=63) (by omega);exact(jL (jL (by rw[wrap_i32 (n:=eM .u8 a.toNat 15) (by omega) (by omega)];exact jJ (m:=61440) (by omega) (by omega) (by omega)) (by rw[wrap_i32 (n:=eM .u8 b.toNat 63) (by omega) (by omega)];exact jJ (m:=4032) (by omega) (by omega) (by omega))) (by rw[wrap_i32 (by omega) (by omega)];omega)).1
    ·rw[if_neg (by omega)]at h0
     have p1:(c.toNat:Int)<128∨191<(c.toNat:Int):=by omega
     rcases p1 with p1 | p1
     ·simp[bX,aB,hX.g_first,hX.g_acc,hf,hv,hlt',IntKind.bits,a3,s3,w3,bT,cB,n9,n1,n2,p0,q0,p1]
      exact cI h0
     ·have p1':¬(c.toNat:Int)<128:=by omega
      simp[bX,aB,hX.g_first,hX.g_acc,hf,hv,hlt',IntKind.bits,a3,s3,w3,bT,cB,n9,n1,n2,p0,q0,p1,p1'];exact cI h0
   ·rw[if_neg (by omega)]at h0
    have p0:(b.toNat:Int)<128∨159<(b.toNat:Int):=by omega
    rcases p0 with p0 | p0
    ·simp[bX,aB,hX.g_first,hX.g_acc,hf,hv,hlt',IntKind.bits,a3,s3,w3,bT,cB,n9,n1,n2,p0]
     exact cI h0
    ·have p0':¬(b.toNat:Int)<128:=by omega
     simp[bX,aB,hX.g_first,hX.g_acc,hf,hv,hlt',IntKind.bits,a3,s3,w3,bT,cB,n9,n1,n2,p0,p0'];exact cI h0
theorem VL(hX:CX X)(H:aA)(a:UInt8)(r:Bs)(ha:0xE0<a.toNat∧a.toNat<0xF0∧a.toNat≠0xED):∃d H',cF X nJ [.str (a::r)] H=some (d,H')∧(mF (a::r) d∧H'=H):=by
 refine sT hX ?_;have hlt:=dA a;have hlt':(a.toNat:Int)<256:=by omega
 have hf:=tL hlt;have hv:fv a.toNat=3:=by unfold fv;repeat (first | rw[if_neg (by omega)] | rw[if_pos (by omega)])
 have hd:=fun r=>Aw (a:=a) (lo:=128) (hi:=191) (by omega) (by repeat (first | rw[if_neg (by omega)] | rw[if_pos (by omega)])) (by repeat (first | rw[if_neg (by omega)] | rw[if_pos (by omega)])) (r:=r)
 cases r with
 | nil=>
  have h0:=hd ([]);simp at h0;simp[bX,aB,hX.g_first,hX.g_acc,hf,hv,hlt',IntKind.bits,a4,s4,w3,bT,cB];exact cI h0
 | cons b r=>
  cases r with
  | nil=>
   have h0:=hd (b:: []);simp at h0;simp[bX,aB,hX.g_first,hX.g_acc,hf,hv,hlt',IntKind.bits,a4,s4,w3,bT,cB];exact cI h0
  | cons c r=>
   have h0:=hd (b::c::r);simp only[nX]at h0;have l0:=dA b;have l1:=dA c;have n1:¬(r.length:Int)+1+1+1<1:=by omega
   have n2:¬(r.length:Int)+1+1+1<2:=by omega
   have n9:¬(r.length:Int)+1+1+1<3:=by omega
   by_cases t0:128<=b.toNat∧b.toNat<=191
   ·have p0:¬(b.toNat:Int)<128:=by omega
    have q0:¬191<(b.toNat:Int):=by omega
    by_cases t1:128<=c.toNat∧c.toNat<=191
    ·have p1:¬(c.toNat:Int)<128:=by omega
     have q1:¬191<(c.toNat:Int):=by omega
     rw[if_pos ⟨t0,t1⟩]at h0;simp[bX,aB,hX.g_first,hX.g_acc,hf,hv,hlt',IntKind.bits,a4,s4,w3,bT,cB,n9,n1,n2,p0,q0,p1,q1];refine vT (n:=3) h0 (by omega) ?_;have z0:=gH (x:=a.toNat) (m:=15) (by omega);have z1:=gH (x:=b.toNat) (m:=63) (by omega);have z2:=gH (x:=c.toNat) (m:=63) (by omega);exact(jL (jL (by rw[wrap_i32 (n:=eM .u8 a.toNat 15) (by omega) (by omega)];exact jJ (m:=61440) (by omega) (by omega) (by omega)) (by rw[wrap_i32 (n:=eM .u8 b.toNat 63) (by omega) (by omega)];exact jJ (m:=4032) (by omega) (by omega) (by omega))) (by rw[wrap_i32 (by omega) (by omega)];omega)).1
    ·rw[if_neg (by omega)]at h0
     have p1:(c.toNat:Int)<128∨191<(c.toNat:Int):=by omega
     rcases p1 with p1 | p1
     ·simp[bX,aB,hX.g_first,hX.g_acc,hf,hv,hlt',IntKind.bits,a4,s4,w3,bT,cB,n9,n1,n2,p0,q0,p1]
      exact cI h0
     ·have p1':¬(c.toNat:Int)<128:=by omega
      simp[bX,aB,hX.g_first,hX.g_acc,hf,hv,hlt',IntKind.bits,a4,s4,w3,bT,cB,n9,n1,n2,p0,q0,p1,p1'];exact cI h0
   ·rw[if_neg (by omega)]at h0
    have p0:(b.toNat:Int)<128∨191<(b.toNat:Int):=by omega
    rcases p0 with p0 | p0
    ·simp[bX,aB,hX.g_first,hX.g_acc,hf,hv,hlt',IntKind.bits,a4,s4,w3,bT,cB,n9,n1,n2,p0]
     exact cI h0
    ·have p0':¬(b.toNat:Int)<128:=by omega
     simp[bX,aB,hX.g_first,hX.g_acc,hf,hv,hlt',IntKind.bits,a4,s4,w3,bT,cB,n9,n1,n2,p0,p0'];exact cI h0
theorem VJ(hX:CX X)(H:aA)(a:UInt8)(r:Bs)(ha:a.toNat=0xF0):∃d H',cF X nJ [.str (a::r)] H=some (d,H')∧(mF (a::r) d∧H'=H):=by
 refine sT hX ?_;have hlt:=dA a;have hlt':(a.toNat:Int)<256:=by omega
 have hf:=tL hlt;have hv:fv a.toNat=52:=by unfold fv;repeat (first | rw[if_neg (by omega)] | rw[if_pos (by omega)])
 have hd:=fun r=>Ay (a:=a) (lo:=144) (hi:=191) (by omega) (by repeat (first | rw[if_neg (by omega)] | rw[if_pos (by omega)])) (by repeat (first | rw[if_neg (by omega)] | rw[if_pos (by omega)])) (r:=r)
 cases r with
 | nil=>
  have h0:=hd ([]);simp at h0;simp[bX,aB,hX.g_first,hX.g_acc,hf,hv,hlt',IntKind.bits,a5,s5,w4,bT,cB];exact cI h0
 | cons b r=>
  cases r with
  | nil=>
   have h0:=hd (b:: []);simp at h0;simp[bX,aB,hX.g_first,hX.g_acc,hf,hv,hlt',IntKind.bits,a5,s5,w4,bT,cB];exact cI h0
  | cons c r=>
   cases r with
   | nil=>
    have h0:=hd (b::c:: []);simp at h0;simp[bX,aB,hX.g_first,hX.g_acc,hf,hv,hlt',IntKind.bits,a5,s5,w4,bT,cB];exact cI h0
   | cons d r=>
    have h0:=hd (b::c::d::r);simp only[nX]at h0;have l0:=dA b;have l1:=dA c;have l2:=dA d;have n1:¬(r.length:Int)+1+1+1+1<1:=by omega
    have n2:¬(r.length:Int)+1+1+1+1<2:=by omega
    have n3:¬(r.length:Int)+1+1+1+1<3:=by omega
    have n9:¬(r.length:Int)+1+1+1+1<4:=by omega
    by_cases t0:144<=b.toNat∧b.toNat<=191
    ·have p0:¬(b.toNat:Int)<144:=by omega
     have q0:¬191<(b.toNat:Int):=by omega
     by_cases t1:128<=c.toNat∧c.toNat<=191
     ·have p1:¬(c.toNat:Int)<128:=by omega
      have q1:¬191<(c.toNat:Int):=by omega
      by_cases t2:128<=d.toNat∧d.toNat<=191
      ·have p2:¬(d.toNat:Int)<128:=by omega
       have q2:¬191<(d.toNat:Int):=by omega
       rw[if_pos ⟨t0,t1,t2⟩]at h0;simp[bX,aB,hX.g_first,hX.g_acc,hf,hv,hlt',IntKind.bits,a5,s5,w4,bT,cB,n9,n1,n2,n3,p0,q0,p1,q1,p2,q2];refine vT (n:=4) h0 (by omega) ?_;have z0:=gH (x:=a.toNat) (m:=7) (by omega);have z1:=gH (x:=b.toNat) (m:=63) (by omega);have z2:=gH (x:=c.toNat) (m:=63) (by omega);have z3:=gH (x:=d.toNat) (m:=63) (by omega);exact(jL (jL (jL (by rw[wrap_i32 (n:=eM .u8 a.toNat 7) (by omega) (by omega)];exact jJ (m:=1835008) (by omega) (by omega) (by omega)) (by rw[wrap_i32 (n:=eM .u8 b.toNat 63) (by omega) (by omega)];exact jJ (m:=258048) (by omega) (by omega) (by omega))) (by rw[wrap_i32 (n:=eM .u8 c.toNat 63) (by omega) (by omega)];exact jJ (m:=4032) (by omega) (by omega) (by omega))) (by rw[wrap_i32 (by omega) (by omega)];omega)).1
      ·rw[if_neg (by omega)]at h0
       have p2:(d.toNat:Int)<128∨191<(d.toNat:Int):=by omega
       rcases p2 with p2 | p2
       ·simp[bX,aB,hX.g_first,hX.g_acc,hf,hv,hlt',IntKind.bits,a5,s5,w4,bT,cB,n9,n1,n2,n3,p0,q0,p1,q1,p2]
        exact cI h0
       ·have p2':¬(d.toNat:Int)<128:=by omega
        simp[bX,aB,hX.g_first,hX.g_acc,hf,hv,hlt',IntKind.bits,a5,s5,w4,bT,cB,n9,n1,n2,n3,p0,q0,p1,q1,p2,p2'];exact cI h0
     ·rw[if_neg (by omega)]at h0
      have p1:(c.toNat:Int)<128∨191<(c.toNat:Int):=by omega
      rcases p1 with p1 | p1
      ·simp[bX,aB,hX.g_first,hX.g_acc,hf,hv,hlt',IntKind.bits,a5,s5,w4,bT,cB,n9,n1,n2,n3,p0,q0,p1]
       exact cI h0
      ·have p1':¬(c.toNat:Int)<128:=by omega
       simp[bX,aB,hX.g_first,hX.g_acc,hf,hv,hlt',IntKind.bits,a5,s5,w4,bT,cB,n9,n1,n2,n3,p0,q0,p1,p1'];exact cI h0
    ·rw[if_neg (by omega)]at h0
     have p0:(b.toNat:Int)<144∨191<(b.toNat:Int):=by omega
     rcases p0 with p0 | p0
     ·simp[bX,aB,hX.g_first,hX.g_acc,hf,hv,hlt',IntKind.bits,a5,s5,w4,bT,cB,n9,n1,n2,n3,p0]
      exact cI h0
     ·have p0':¬(b.toNat:Int)<144:=by omega
      simp[bX,aB,hX.g_first,hX.g_acc,hf,hv,hlt',IntKind.bits,a5,s5,w4,bT,cB,n9,n1,n2,n3,p0,p0'];exact cI h0
theorem VI(hX:CX X)(H:aA)(a:UInt8)(r:Bs)(ha:0xF0<a.toNat∧a.toNat<0xF4):∃d H',cF X nJ [.str (a::r)] H=some (d,H')∧(mF (a::r) d∧H'=H):=by
 refine sT hX ?_;have hlt:=dA a;have hlt':(a.toNat:Int)<256:=by omega
 have hf:=tL hlt;have hv:fv a.toNat=4:=by unfold fv;repeat (first | rw[if_neg (by omega)] | rw[if_pos (by omega)])
 have hd:=fun r=>Ay (a:=a) (lo:=128) (hi:=191) (by omega) (by repeat (first | rw[if_neg (by omega)] | rw[if_pos (by omega)])) (by repeat (first | rw[if_neg (by omega)] | rw[if_pos (by omega)])) (r:=r)
 cases r with
 | nil=>
  have h0:=hd ([]);simp at h0;simp[bX,aB,hX.g_first,hX.g_acc,hf,hv,hlt',IntKind.bits,a6,s6,w4,bT,cB];exact cI h0
 | cons b r=>
  cases r with
  | nil=>
   have h0:=hd (b:: []);simp at h0;simp[bX,aB,hX.g_first,hX.g_acc,hf,hv,hlt',IntKind.bits,a6,s6,w4,bT,cB];exact cI h0
  | cons c r=>
   cases r with
   | nil=>
    have h0:=hd (b::c:: []);simp at h0;simp[bX,aB,hX.g_first,hX.g_acc,hf,hv,hlt',IntKind.bits,a6,s6,w4,bT,cB];exact cI h0
   | cons d r=>
    have h0:=hd (b::c::d::r);simp only[nX]at h0;have l0:=dA b;have l1:=dA c;have l2:=dA d;have n1:¬(r.length:Int)+1+1+1+1<1:=by omega
    have n2:¬(r.length:Int)+1+1+1+1<2:=by omega
    have n3:¬(r.length:Int)+1+1+1+1<3:=by omega
    have n9:¬(r.length:Int)+1+1+1+1<4:=by omega
    by_cases t0:128<=b.toNat∧b.toNat<=191
    ·have p0:¬(b.toNat:Int)<128:=by omega
     have q0:¬191<(b.toNat:Int):=by omega
     by_cases t1:128<=c.toNat∧c.toNat<=191
     ·have p1:¬(c.toNat:Int)<128:=by omega
      have q1:¬191<(c.toNat:Int):=by omega
      by_cases t2:128<=d.toNat∧d.toNat<=191
      ·have p2:¬(d.toNat:Int)<128:=by omega
       have q2:¬191<(d.toNat:Int):=by omega
       rw[if_pos ⟨t0,t1,t2⟩]at h0;simp[bX,aB,hX.g_first,hX.g_acc,hf,hv,hlt',IntKind.bits,a6,s6,w4,bT,cB,n9,n1,n2,n3,p0,q0,p1,q1,p2,q2];refine vT (n:=4) h0 (by omega) ?_;have z0:=gH (x:=a.toNat) (m:=7) (by omega);have z1:=gH (x:=b.toNat) (m:=63) (by omega);have z2:=gH (x:=c.toNat) (m:=63) (by omega);have z3:=gH (x:=d.toNat) (m:=63) (by omega);exact(jL (jL (jL (by rw[wrap_i32 (n:=eM .u8 a.toNat 7) (by omega) (by omega)];exact jJ (m:=1835008) (by omega) (by omega) (by omega)) (by rw[wrap_i32 (n:=eM .u8 b.toNat 63) (by omega) (by omega)];exact jJ (m:=258048) (by omega) (by omega) (by omega))) (by rw[wrap_i32 (n:=eM .u8 c.toNat 63) (by omega) (by omega)];exact jJ (m:=4032) (by omega) (by omega) (by omega))) (by rw[wrap_i32 (by omega) (by omega)];omega)).1
      ·rw[if_neg (by omega)]at h0
       have p2:(d.toNat:Int)<128∨191<(d.toNat:Int):=by omega
       rcases p2 with p2 | p2
       ·simp[bX,aB,hX.g_first,hX.g_acc,hf,hv,hlt',IntKind.bits,a6,s6,w4,bT,cB,n9,n1,n2,n3,p0,q0,p1,q1,p2]
        exact cI h0
       ·have p2':¬(d.toNat:Int)<128:=by omega
        simp[bX,aB,hX.g_first,hX.g_acc,hf,hv,hlt',IntKind.bits,a6,s6,w4,bT,cB,n9,n1,n2,n3,p0,q0,p1,q1,p2,p2'];exact cI h0
     ·rw[if_neg (by omega)]at h0
      have p1:(c.toNat:Int)<128∨191<(c.toNat:Int):=by omega
      rcases p1 with p1 | p1
      ·simp[bX,aB,hX.g_first,hX.g_acc,hf,hv,hlt',IntKind.bits,a6,s6,w4,bT,cB,n9,n1,n2,n3,p0,q0,p1]
       exact cI h0
      ·have p1':¬(c.toNat:Int)<128:=by omega
       simp[bX,aB,hX.g_first,hX.g_acc,hf,hv,hlt',IntKind.bits,a6,s6,w4,bT,cB,n9,n1,n2,n3,p0,q0,p1,p1'];exact cI h0
    ·rw[if_neg (by omega)]at h0
     have p0:(b.toNat:Int)<128∨191<(b.toNat:Int):=by omega
     rcases p0 with p0 | p0
     ·simp[bX,aB,hX.g_first,hX.g_acc,hf,hv,hlt',IntKind.bits,a6,s6,w4,bT,cB,n9,n1,n2,n3,p0]
      exact cI h0
     ·have p0':¬(b.toNat:Int)<128:=by omega
      simp[bX,aB,hX.g_first,hX.g_acc,hf,hv,hlt',IntKind.bits,a6,s6,w4,bT,cB,n9,n1,n2,n3,p0,p0'];exact cI h0
theorem VH(hX:CX X)(H:aA)(a:UInt8)(r:Bs)(ha:a.toNat=0xF4):∃d H',cF X nJ [.str (a::r)] H=some (d,H')∧(mF (a::r) d∧H'=H):=by
 refine sT hX ?_;have hlt:=dA a;have hlt':(a.toNat:Int)<256:=by omega
 have hf:=tL hlt;have hv:fv a.toNat=68:=by unfold fv;repeat (first | rw[if_neg (by omega)] | rw[if_pos (by omega)])
 have hd:=fun r=>Ay (a:=a) (lo:=128) (hi:=143) (by omega) (by repeat (first | rw[if_neg (by omega)] | rw[if_pos (by omega)])) (by repeat (first | rw[if_neg (by omega)] | rw[if_pos (by omega)])) (r:=r)
 cases r with
 | nil=>
  have h0:=hd ([]);simp at h0;simp[bX,aB,hX.g_first,hX.g_acc,hf,hv,hlt',IntKind.bits,a7,s7,w4,bT,cB];exact cI h0
 | cons b r=>
  cases r with
  | nil=>
   have h0:=hd (b:: []);simp at h0;simp[bX,aB,hX.g_first,hX.g_acc,hf,hv,hlt',IntKind.bits,a7,s7,w4,bT,cB];exact cI h0
  | cons c r=>
   cases r with
   | nil=>
    have h0:=hd (b::c:: []);simp at h0;simp[bX,aB,hX.g_first,hX.g_acc,hf,hv,hlt',IntKind.bits,a7,s7,w4,bT,cB];exact cI h0
   | cons d r=>
    have h0:=hd (b::c::d::r);simp only[nX]at h0;have l0:=dA b;have l1:=dA c;have l2:=dA d;have n1:¬(r.length:Int)+1+1+1+1<1:=by omega
    have n2:¬(r.length:Int)+1+1+1+1<2:=by omega
    have n3:¬(r.length:Int)+1+1+1+1<3:=by omega
    have n9:¬(r.length:Int)+1+1+1+1<4:=by omega
    by_cases t0:128<=b.toNat∧b.toNat<=143
    ·have p0:¬(b.toNat:Int)<128:=by omega
     have q0:¬143<(b.toNat:Int):=by omega
     by_cases t1:128<=c.toNat∧c.toNat<=191
     ·have p1:¬(c.toNat:Int)<128:=by omega
      have q1:¬191<(c.toNat:Int):=by omega
      by_cases t2:128<=d.toNat∧d.toNat<=191
      ·have p2:¬(d.toNat:Int)<128:=by omega
       have q2:¬191<(d.toNat:Int):=by omega
       rw[if_pos ⟨t0,t1,t2⟩]at h0;simp[bX,aB,hX.g_first,hX.g_acc,hf,hv,hlt',IntKind.bits,a7,s7,w4,bT,cB,n9,n1,n2,n3,p0,q0,p1,q1,p2,q2];refine vT (n:=4) h0 (by omega) ?_;have z0:=gH (x:=a.toNat) (m:=7) (by omega);have z1:=gH (x:=b.toNat) (m:=63) (by omega);have z2:=gH (x:=c.toNat) (m:=63) (by omega);have z3:=gH (x:=d.toNat) (m:=63) (by omega);exact(jL (jL (jL (by rw[wrap_i32 (n:=eM .u8 a.toNat 7) (by omega) (by omega)];exact jJ (m:=1835008) (by omega) (by omega) (by omega)) (by rw[wrap_i32 (n:=eM .u8 b.toNat 63) (by omega) (by omega)];exact jJ (m:=258048) (by omega) (by omega) (by omega))) (by rw[wrap_i32 (n:=eM .u8 c.toNat 63) (by omega) (by omega)];exact jJ (m:=4032) (by omega) (by omega) (by omega))) (by rw[wrap_i32 (by omega) (by omega)];omega)).1
      ·rw[if_neg (by omega)]at h0
       have p2:(d.toNat:Int)<128∨191<(d.toNat:Int):=by omega
       rcases p2 with p2 | p2
       ·simp[bX,aB,hX.g_first,hX.g_acc,hf,hv,hlt',IntKind.bits,a7,s7,w4,bT,cB,n9,n1,n2,n3,p0,q0,p1,q1,p2]
        exact cI h0
       ·have p2':¬(d.toNat:Int)<128:=by omega
        simp[bX,aB,hX.g_first,hX.g_acc,hf,hv,hlt',IntKind.bits,a7,s7,w4,bT,cB,n9,n1,n2,n3,p0,q0,p1,q1,p2,p2'];exact cI h0
     ·rw[if_neg (by omega)]at h0
      have p1:(c.toNat:Int)<128∨191<(c.toNat:Int):=by omega
      rcases p1 with p1 | p1
      ·simp[bX,aB,hX.g_first,hX.g_acc,hf,hv,hlt',IntKind.bits,a7,s7,w4,bT,cB,n9,n1,n2,n3,p0,q0,p1]
       exact cI h0
      ·have p1':¬(c.toNat:Int)<128:=by omega
       simp[bX,aB,hX.g_first,hX.g_acc,hf,hv,hlt',IntKind.bits,a7,s7,w4,bT,cB,n9,n1,n2,n3,p0,q0,p1,p1'];exact cI h0
    ·rw[if_neg (by omega)]at h0
     have p0:(b.toNat:Int)<128∨143<(b.toNat:Int):=by omega
     rcases p0 with p0 | p0
     ·simp[bX,aB,hX.g_first,hX.g_acc,hf,hv,hlt',IntKind.bits,a7,s7,w4,bT,cB,n9,n1,n2,n3,p0]
      exact cI h0
     ·have p0':¬(b.toNat:Int)<128:=by omega
      simp[bX,aB,hX.g_first,hX.g_acc,hf,hv,hlt',IntKind.bits,a7,s7,w4,bT,cB,n9,n1,n2,n3,p0,p0'];exact cI h0
theorem zJr(hX:CX X)(H:aA)(s:Bs)(hs:s≠ []):∃d H',cF X Ih [.str s] H=some (d,H')∧(mF s d∧H'=H):=by
 obtain⟨a,r,rfl⟩:=List.exists_cons_of_ne_nil hs;by_cases ha:a.toNat<128
 ·refine GX hX ?_
  have h1:(a.toNat:Int)<128:=by omega
  simp[Bt,aB,h1];refine⟨_,_,rfl,fun h=>?_,fun _=>?_⟩
  ·unfold cL at h;simp[ha]at h
  ·rw[wrap_i32 (by omega) (by omega)]
   unfold cL;simp[ha];omega
 ·have hlow:∃d H',cF X nJ [.str (a::r)] H=some (d,H')∧(mF (a::r) d∧H'=H):=by
   by_cases c1:a.toNat<0xC2
   ·exact CF hX H a r (by omega) (by unfold fv;rw[if_neg (by omega),if_pos c1]) (by unfold cL;simp only;rw[if_neg (by omega),if_pos c1])
   by_cases c2:a.toNat<0xE0
   ·exact VN hX H a r (by omega)
   by_cases c3:a.toNat=0xE0
   ·exact VM hX H a r c3
   by_cases c4:a.toNat=0xED
   ·exact VK hX H a r c4
   by_cases c5:a.toNat<0xF0
   ·exact VL hX H a r (by omega)
   by_cases c6:a.toNat=0xF0
   ·exact VJ hX H a r c6
   by_cases c7:a.toNat<0xF4
   ·exact VI hX H a r (by omega)
   by_cases c8:a.toNat=0xF4
   ·exact VH hX H a r c8
   ·exact CF hX H a r (by omega) (by unfold fv;repeat (first | rw[if_neg (by omega)] | rw[if_pos (by omega)])) (by unfold cL;simp only;repeat (first | rw[if_neg (by omega)] | rw[if_pos (by omega)]))
  obtain⟨d,H',h1,h2,rfl⟩:=hlow;obtain⟨c,n,rfl,hc⟩:=h2;refine GX hX ?_;have h0:¬(a.toNat:Int)<128:=by omega
  simp[Bt,aB,h0,h1];exact⟨c,n,rfl,hc⟩
end
section
variable {X:Ctx}
theorem QD(hX:CX X)(H:aA)(s:Bs):cF X Ie [.str s] H=some (.func vG [] [.fptr [.str s]],H):=by
 refine zKr hX ?_;simp[Oq,aB,D.fA]
theorem WN(hX:CX X)(s:Bs)(hl:(s.length:Int)<=9223372036854775807)(l:Nat)(H0:aA)(H1:Nat->aA)(hlen:∀k,(H1 k).length=H0.length)
  (hy:∀(k:Nat) (c:Int),0<=c->aU X (.yield l) [.int .i64 k,.int .i32 c] H0=some (.bool true,H0))
  (hn:∀k:Nat,aU X (.yield l) [.int .i64 k,.int .i32 (-1)] H0=some (.bool false,H1 k)):
  aU X (.func vG [] [.fptr [.str s]]) [.yield l] H0=some (.tup [],if iH s=s.length then H0 else H1 (iH s)):=by
 refine zKq hX ?_;simp[Ot];refine cH (fun k e H'=>H'=H0∧k<=s.length∧e.get 0=.yield l∧e.get 1=.fptr [.str s]∧e.get 3=.int .i64 k∧iH s=k+iH (s.drop k)) (fun k=>s.length-k) ?_ 0 (by simp);rintro k e H' ⟨rfl,hk,h0,h1,h3,hd⟩ L ih;by_cases h:k<s.length
 ·have hne:s.drop k≠ []:=by intro h';have:=congrArg List.length h';simp at this;omega
  obtain⟨d,H2,g1,⟨c,n,rfl,g2,g3⟩,rfl⟩:=zJr hX H' (s.drop k) hne;by_cases hz:cL (s.drop k)=0
  ·obtain⟨rfl,rfl⟩:=g2 hz
   rw[U8 hz]at hd;simp at hd;have hne':¬k=s.length:=by omega
   simp[P2,h0,h1,h3,h,xQ (show k<=s.length by omega),g1,hn,aB,hd,hne'];exact List.take_of_length_le (by rw[hlen];omega)
  ·obtain⟨p1,p2,p3⟩:=g3 hz
   have hle:=Ax (s.drop k);simp at hle;rw[AU hz]at hd;have hc:¬(c=65533∧n=1):=p3;have hw:IntKind.i64.wrap ((k:Int)+n)=((k+cL (s.drop k):Nat):Int):=by rw[p2,wrap_i64 (by omega) (by omega)];omega
   by_cases c1:c=65533
   ·have n1:¬n=1:=fun hn1=>hc ⟨c1,hn1⟩
    subst c1;simp[P2,h0,h1,h3,h,xQ (show k<=s.length by omega),g1,hy,n1,hw];refine ih (k+cL (s.drop k)) _ _ (by omega) ?_;simp[h0,h1,hd];omega
   ·simp[P2,h0,h1,h3,h,xQ (show k<=s.length by omega),g1,hy _ _ p1,c1,hw]
    refine ih (k+cL (s.drop k)) _ _ (by omega) ?_;simp[h0,h1,hd];omega
 ·obtain rfl:k=s.length:=by omega
  have hb:iH []=0:=U8 rfl;simp[hb]at hd;simp[P2,h0,h1,h3,aB,hd]
abbrev xM(H:aA)(s:Bs):Env:=((((Env.nil.put 0 (D.str s)).put 2 (.ptr H.length 0)).put 3 (.ptr (H.length+1) 0)).put 6 (.str s)).put 7 (.func vG [] [.fptr [.str s]])
theorem QE(hX:CX X)(H:aA)(s:Bs)(hl:(s.length:Int)<=9223372036854775807):cF X Ig [.str s] H=some (.tup [.int .i64 (iH s),.int .i64 (if sM s then 0 else 61)],H):=by
 refine zKs hX ?_;simp[Ow,QD hX];have hr:=WN hX s hl (H.length+3) (H++[.box [.int .i64 0],.box [.int .i64 0],.dfr false,.loop ⟨xM H s,[8,9],sF,sE,.ready,none,H.length+2⟩])
  (fun k=>H++[.box [.int .i64 k],.box [.int .i64 61],.dfr false,.loop ⟨xM H s,[8,9],sF,sE,.done,some .ret,H.length+2⟩]) (by simp)
  (fun k c hc=>by
   have hc':¬c<0:=by omega
   refine qW (L:=⟨xM H s,[8,9],sF,sE,.ready,none,H.length+2⟩) (by simp) rfl rfl ?_;simp[sF,sE,Env.dX,hc',eA])
  (fun k=>by
   refine qW (L:=⟨xM H s,[8,9],sF,sE,.ready,none,H.length+2⟩) (by simp) rfl rfl ?_;simp[sF,sE,Env.dX,eA])
 by_cases ho:iH s=s.length
 ·rw[if_pos ho]at hr
  refine oR (H.length+2) (H.length+3) ⟨xM H s,[8,9],sF,sE,.ready,none,H.length+2⟩ (by simp) rfl (g:=vG) (pre:=[]) (caps:=[.fptr [.str s]]) (by simp) (by simpa using hr) (by simp) (by simp) ?_;simp[iO,aB,sM,ho]
 ·rw[if_neg ho]at hr
  refine oR (H.length+2) (H.length+3) ⟨xM H s,[8,9],sF,sE,.done,some .ret,H.length+2⟩ (by simp) rfl (g:=vG) (pre:=[]) (caps:=[.fptr [.str s]]) (by simp) (by simpa using hr) (by simp) (by simp) ?_;simp[iO,aB,sM,ho]
end
section
variable {X:Ctx}
def visit {σ α:Type}(f:σ->α->σ×Bool):σ->List α->σ×Bool
 | s,[]=>(s,true)
 | s,x::r=>if(f s x).2 then visit f (f s x).1 r else((f s x).1,false)
theorem jG {σ α:Type}(f:σ->α->σ×Bool):∀(s:σ) (a b:List α),visit f s (a++b)=if(visit f s a).2 then visit f (visit f s a).1 b else visit f s a
 | s,[],b=>by simp[visit]
 | s,x::r,b=>by
  simp only[List.cons_append,visit];split
  ·exact jG f _ r b
  ·simp
theorem U6 {σ α:Type}{f:σ->α->σ×Bool}{s0 s:σ}{l:List α}{j:Nat}(hj:j<l.length)(h:visit f s (l.drop j)=visit f s0 l):(if(f s l[j]).2 then visit f (f s l[j]).1 (l.drop (j+1))else((f s l[j]).1,false))=visit f s0 l:=by
 rw[List.drop_eq_getElem_cons hj,visit]at h;exact h
theorem iC {σ α:Type}{f:σ->α->σ×Bool}{ok:σ->Prop}{P:α->Prop}(h:∀s x,ok s->P x->(f s x).2=true->ok (f s x).1):∀(l:List α) (s:σ),ok s->(∀x∈l,P x)->(visit f s l).2=true->ok (visit f s l).1
 | [],s,hs,_=>fun _=>hs
 | x::r,s,hs,hp=>by
  have h1:=h s x hs (hp x (List.mem_cons_self ..));simp only[visit];split
  ·rename_i hb
   exact iC h r _ (h1 hb) fun z hz=>hp z (List.mem_cons_of_mem _ hz)
  ·simp
structure Stops(X:Ctx){σ α:Type}(c:α->D)(g:D)(HS:σ->aA)(f:σ->α->σ×Bool)(ok:σ->Prop)(P:α->Prop)(E:aA):Prop where
 call:∀(s:σ) (x:α),ok s->P x->aU X g [c x] (HS s++E)=some (.bool (!(f s x).2),HS (f s x).1++E)
 keep:∀(s:σ) (x:α),ok s->P x->(f s x).2=true->ok (f s x).1
variable {σ:Type}{id:Nat}{HS:σ->aA}{n:Nat}{ok:σ->Prop}
theorem zG7(hX:CX X){f:σ->Expr->σ×Bool}{P:Expr->Prop}(hlen:∀s,(HS s).length=n){E:aA}{g:D}(hg0:g≠ .undef)(hg:Stops X (fun x:Expr=>.agg x.cells) g HS f ok P E)(f0:Nl)(l:List (Expr))(hl:l.length<=10000000)(hP:∀x∈l,P x)(s:σ)(hs:ok s):∃d H',cF X Jd [SL f0 (Expr.aC l) l.length,g] (HS s++E)=some (d,H')∧(∃i:Int,d=.int .i64 i∧(0<=i↔(visit f s l).2=false)∧H'=HS (visit f s l).1++E):=by
 refine zAp hX ?_;have hok:∀H:aA,cM g H=some (g,H):=fun H=>nI hg0
 simp[Rf,hok];refine cH (fun(q:Nat×σ) e H'=>H'=HS q.2++E∧q.1<=l.length∧ok q.2∧e.get 0=SL f0 (Expr.aC l) l.length∧e.get 1=g∧e.get 7=.int .i64 l.length∧e.get 8=.int .i64 q.1∧visit f q.2 (l.drop q.1)=visit f s l) (fun q=>l.length-q.1) ?_ (0,s) (by simp[hs]);rintro⟨j,t⟩ e H' ⟨rfl,hj,ht,g0,g1,g7,g8,hq⟩ L ih;simp only at hj ht g8 hq ih;have htk:∀t':σ,List.take ((HS s).length+E.length) (HS t'++E)=HS t'++E:=fun t'=>List.take_of_length_le (by rw[List.length_append,hlen,hlen];exact Nat.le_refl _)
 by_cases h:j<l.length
 ·have h':(j:Int)<l.length:=by omega
  have w1:IntKind.i64.wrap ((j:Int)+1)=(j:Int)+1:=wI;have hdr:=Expr.dG h;have hc:=hg.call t l[j] ht (hP _ (List.getElem_mem h));have hk:=hg.keep t l[j] ht (hP _ (List.getElem_mem h));have hv:=U6 h hq;generalize(f t l[j]).1=t' at *
  cases hb:(f t l[j]).2 with
  | true=>
   rw[hb]at hc hv;simp only[if_true,Bool.not_true]at hc hv;simp[Ck,g0,g1,g7,g8,h,h',hdr,hok,hc,w1];refine ih (j+1,t') _ _ (by simp;omega) ?_;simp[g0,g1,g7,hk hb,hv];omega
  | false=>
   rw[hb]at hc hv;simp only[Bool.false_eq_true,if_false,Bool.not_false]at hc hv;simp[Ck,g0,g1,g7,g8,h,h',hdr,hok,hc,w1,htk, ← hv]
 ·obtain rfl:j=l.length:=by omega
  simp[visit]at hq;simp[Ck,g0,g1,g7,g8,htk, ← hq]
theorem Bd(hX:CX X){f:σ->Expr->σ×Bool}{P:Expr->Prop}(hlen:∀s,(HS s).length=n){E:aA}{g:D}(hg0:g≠ .undef)(hg:Stops X (fun x:Expr=>.agg x.cells) g HS f ok P E)(f0:Nl)(l:List (Expr))(hl:l.length<=10000000)(hP:∀x∈l,P x)(s:σ)(hs:ok s):cF X vK [SL f0 (Expr.aC l) l.length,g] (HS s++E)=some (.bool (!(visit f s l).2),HS (visit f s l).1++E):=by
 obtain⟨d,H',hc,i,rfl,hi,rfl⟩:=zG7 hX hlen hg0 hg f0 l hl hP s hs;have hok:∀H:aA,cM g H=some (g,H):=fun H=>nI hg0
 have htk:∀t':σ,List.take ((HS s).length+E.length) (HS t'++E)=HS t'++E:=fun t'=>List.take_of_length_le (by rw[List.length_append,hlen,hlen];exact Nat.le_refl _)
 refine zKV hX ?_
 cases hb:(visit f s l).2 with
 | true=>
  rw[hb]at hi;have hi':¬0<=i:=fun q=>by have:=hi.1 q;simp at this
  simp[Ct,hok,hc,hi',htk]
 | false=>
  rw[hb]at hi;have hi':0<=i:=hi.2 rfl;simp[Ct,hok,hc,hi',htk]
theorem zG6(hX:CX X){f:σ->Pat->σ×Bool}{P:Pat->Prop}(hlen:∀s,(HS s).length=n){E:aA}{g:D}(hg0:g≠ .undef)(hg:Stops X (fun x:Pat=>.agg x.cells) g HS f ok P E)(f0:Nl)(l:List (Pat))(hl:l.length<=10000000)(hP:∀x∈l,P x)(s:σ)(hs:ok s):∃d H',cF X Jc [SL f0 (Pat.aC l) l.length,g] (HS s++E)=some (d,H')∧(∃i:Int,d=.int .i64 i∧(0<=i↔(visit f s l).2=false)∧H'=HS (visit f s l).1++E):=by
 refine zAo hX ?_;have hok:∀H:aA,cM g H=some (g,H):=fun H=>nI hg0
 simp[Rd,hok];refine cH (fun(q:Nat×σ) e H'=>H'=HS q.2++E∧q.1<=l.length∧ok q.2∧e.get 0=SL f0 (Pat.aC l) l.length∧e.get 1=g∧e.get 7=.int .i64 l.length∧e.get 8=.int .i64 q.1∧visit f q.2 (l.drop q.1)=visit f s l) (fun q=>l.length-q.1) ?_ (0,s) (by simp[hs]);rintro⟨j,t⟩ e H' ⟨rfl,hj,ht,g0,g1,g7,g8,hq⟩ L ih;simp only at hj ht g8 hq ih;have htk:∀t':σ,List.take ((HS s).length+E.length) (HS t'++E)=HS t'++E:=fun t'=>List.take_of_length_le (by rw[List.length_append,hlen,hlen];exact Nat.le_refl _)
 by_cases h:j<l.length
 ·have h':(j:Int)<l.length:=by omega
  have w1:IntKind.i64.wrap ((j:Int)+1)=(j:Int)+1:=wI;have hdr:=Pat.dG h;have hc:=hg.call t l[j] ht (hP _ (List.getElem_mem h));have hk:=hg.keep t l[j] ht (hP _ (List.getElem_mem h));have hv:=U6 h hq;generalize(f t l[j]).1=t' at *
  cases hb:(f t l[j]).2 with
  | true=>
   rw[hb]at hc hv;simp only[if_true,Bool.not_true]at hc hv;simp[Cj,g0,g1,g7,g8,h,h',hdr,hok,hc,w1];refine ih (j+1,t') _ _ (by simp;omega) ?_;simp[g0,g1,g7,hk hb,hv];omega
  | false=>
   rw[hb]at hc hv;simp only[Bool.false_eq_true,if_false,Bool.not_false]at hc hv;simp[Cj,g0,g1,g7,g8,h,h',hdr,hok,hc,w1,htk, ← hv]
 ·obtain rfl:j=l.length:=by omega
  simp[visit]at hq;simp[Cj,g0,g1,g7,g8,htk, ← hq]
theorem Bc(hX:CX X){f:σ->Pat->σ×Bool}{P:Pat->Prop}(hlen:∀s,(HS s).length=n){E:aA}{g:D}(hg0:g≠ .undef)(hg:Stops X (fun x:Pat=>.agg x.cells) g HS f ok P E)(f0:Nl)(l:List (Pat))(hl:l.length<=10000000)(hP:∀x∈l,P x)(s:σ)(hs:ok s):cF X sX [SL f0 (Pat.aC l) l.length,g] (HS s++E)=some (.bool (!(visit f s l).2),HS (visit f s l).1++E):=by
 obtain⟨d,H',hc,i,rfl,hi,rfl⟩:=zG6 hX hlen hg0 hg f0 l hl hP s hs;have hok:∀H:aA,cM g H=some (g,H):=fun H=>nI hg0
 have htk:∀t':σ,List.take ((HS s).length+E.length) (HS t'++E)=HS t'++E:=fun t'=>List.take_of_length_le (by rw[List.length_append,hlen,hlen];exact Nat.le_refl _)
 refine zKU hX ?_
 cases hb:(visit f s l).2 with
 | true=>
  rw[hb]at hi;have hi':¬0<=i:=fun q=>by have:=hi.1 q;simp at this
  simp[Cs,hok,hc,hi',htk]
 | false=>
  rw[hb]at hi;have hi':0<=i:=hi.2 rfl;simp[Cs,hok,hc,hi',htk]
theorem zG2(hX:CX X){f:σ->Bs->σ×Bool}{P:Bs->Prop}(hlen:∀s,(HS s).length=n){E:aA}{g:D}(hg0:g≠ .undef)(hg:Stops X (fun x:Bs=>.str x) g HS f ok P E)(f0:Nl)(l:List (Bs))(hl:l.length<=10000000)(hP:∀x∈l,P x)(s:σ)(hs:ok s):∃d H',cF X Ja [SL f0 (l.map D.str) l.length,g] (HS s++E)=some (d,H')∧(∃i:Int,d=.int .i64 i∧(0<=i↔(visit f s l).2=false)∧H'=HS (visit f s l).1++E):=by
 refine zAm hX ?_;have hok:∀H:aA,cM g H=some (g,H):=fun H=>nI hg0
 simp[Qz,hok];refine cH (fun(q:Nat×σ) e H'=>H'=HS q.2++E∧q.1<=l.length∧ok q.2∧e.get 0=SL f0 (l.map D.str) l.length∧e.get 1=g∧e.get 7=.int .i64 l.length∧e.get 8=.int .i64 q.1∧visit f q.2 (l.drop q.1)=visit f s l) (fun q=>l.length-q.1) ?_ (0,s) (by simp[hs]);rintro⟨j,t⟩ e H' ⟨rfl,hj,ht,g0,g1,g7,g8,hq⟩ L ih;simp only at hj ht g8 hq ih;have htk:∀t':σ,List.take ((HS s).length+E.length) (HS t'++E)=HS t'++E:=fun t'=>List.take_of_length_le (by rw[List.length_append,hlen,hlen];exact Nat.le_refl _)
 by_cases h:j<l.length
 ·have h':(j:Int)<l.length:=by omega
  have w1:IntKind.i64.wrap ((j:Int)+1)=(j:Int)+1:=wI;have hdr:=jN (f:=D.str) h;have hc:=hg.call t l[j] ht (hP _ (List.getElem_mem h));have hk:=hg.keep t l[j] ht (hP _ (List.getElem_mem h));have hv:=U6 h hq;generalize(f t l[j]).1=t' at *
  cases hb:(f t l[j]).2 with
  | true=>
   rw[hb]at hc hv;simp only[if_true,Bool.not_true]at hc hv;simp[Ch,g0,g1,g7,g8,h,h',hdr,hok,hc,w1];refine ih (j+1,t') _ _ (by simp;omega) ?_;simp[g0,g1,g7,hk hb,hv];omega
  | false=>
   rw[hb]at hc hv;simp only[Bool.false_eq_true,if_false,Bool.not_false]at hc hv;simp[Ch,g0,g1,g7,g8,h,h',hdr,hok,hc,w1,htk, ← hv]
 ·obtain rfl:j=l.length:=by omega
  simp[visit]at hq;simp[Ch,g0,g1,g7,g8,htk, ← hq]
theorem zJD(hX:CX X){f:σ->Bs->σ×Bool}{P:Bs->Prop}(hlen:∀s,(HS s).length=n){E:aA}{g:D}(hg0:g≠ .undef)(hg:Stops X (fun x:Bs=>.str x) g HS f ok P E)(f0:Nl)(l:List (Bs))(hl:l.length<=10000000)(hP:∀x∈l,P x)(s:σ)(hs:ok s):cF X m6 [SL f0 (l.map D.str) l.length,g] (HS s++E)=some (.bool (!(visit f s l).2),HS (visit f s l).1++E):=by
 obtain⟨d,H',hc,i,rfl,hi,rfl⟩:=zG2 hX hlen hg0 hg f0 l hl hP s hs;have hok:∀H:aA,cM g H=some (g,H):=fun H=>nI hg0
 have htk:∀t':σ,List.take ((HS s).length+E.length) (HS t'++E)=HS t'++E:=fun t'=>List.take_of_length_le (by rw[List.length_append,hlen,hlen];exact Nat.le_refl _)
 refine zKS hX ?_
 cases hb:(visit f s l).2 with
 | true=>
  rw[hb]at hi;have hi':¬0<=i:=fun q=>by have:=hi.1 q;simp at this
  simp[Cq,hok,hc,hi',htk]
 | false=>
  rw[hb]at hi;have hi':0<=i:=hi.2 rfl;simp[Cq,hok,hc,hi',htk]
end
section
variable {X:Ctx}
mutual
def EB:Expr->Prop
 | .mk _ n t d _ ks _ ps _ ds _=>n.length<=2000000∧t.length<=1000000000000∧d.wf∧ks.length<=2000000∧sK ks∧bV ps<=4000000∧jF ps∧ds.length<=2000000∧xK ds∧True
def sK:List Expr->Prop
 | []=>True
 | e::r=>EB e∧sK r
def PB:Pat->Prop
 | .mk _ n _ ks _ ps=>n.length<=2000000∧ks.length<=2000000∧sK ks∧ps.length<=2000000∧jF ps
def jF:List Pat->Prop
 | []=>True
 | p::r=>PB p∧jF r
def DB:Def->Prop
 | .mk n _ l b=>n.length<=140737488355328∧l.length<=2000000∧(∀s∈l,s.length<=2000000)∧EB b
def xK:List Def->Prop
 | []=>True
 | d::r=>DB d∧xK r
end
theorem Fj:∀ {l:List Expr},sK l↔∀e∈l,EB e
 | []=>by simp[sK]
 | e::r=>by simp[sK,Fj (l:=r)]
theorem mH:∀ {l:List Pat},jF l↔∀e∈l,PB e
 | []=>by simp[jF]
 | e::r=>by simp[jF,mH (l:=r)]
theorem PI:∀ {l:List Def},xK l↔∀e∈l,DB e
 | []=>by simp[xK]
 | e::r=>by simp[xK,PI (l:=r)]
theorem xJ {e:Expr}:EB e↔e.name.length<=2000000∧e.text.length<=1000000000000∧e.num.wf∧e.kids.length<=2000000∧(∀x∈e.kids,EB x)∧bV e.pats<=4000000∧(∀x∈e.pats,PB x)∧e.defs.length<=2000000∧(∀x∈e.defs,DB x)∧True:=by
 cases e;rw[EB,Fj,mH,PI];rfl
mutual
theorem Zv {m:Int}:∀(e:Expr),aL m e->EB e
 | .mk _ n t d _ ks _ ps _ ds a,h=>by
  rw[aL]at h;rw[EB];exact⟨by omega,h.2.1,h.2.2.1,h.2.2.2.1,Zu ks h.2.2.2.2.1,h.2.2.2.2.2.1,Zp ps h.2.2.2.2.2.2.1,h.2.2.2.2.2.2.2.1,PH ds h.2.2.2.2.2.2.2.2.1,trivial⟩
theorem Zu {m:Int}:∀(l:List Expr),uD m l->sK l
 | [],_=>trivial
 | e::r,h=>⟨Zv e h.1,Zu r h.2⟩
theorem zOC {m:Int}:∀(p:Pat),fC m p->PB p
 | .mk _ n _ ks _ ps,h=>by
  rw[fC]at h;rw[PB];exact⟨by omega,h.2.1,Zu ks h.2.2.1,h.2.2.2.1,Zp ps h.2.2.2.2⟩
theorem Zp {m:Int}:∀(l:List Pat),mG m l->jF l
 | [],_=>trivial
 | p::r,h=>⟨zOC p h.1,Zp r h.2⟩
theorem zOH {m:Int}:∀(d:Def),uE m d->DB d
 | .mk n _ l b,h=>by
  rw[uE]at h;rw[DB];exact⟨by omega,h.2.1,h.2.2.1,Zv b h.2.2.2⟩
theorem PH {m:Int}:∀(l:List Def),C1 m l->xK l
 | [],_=>trivial
 | d::r,h=>⟨zOH d h.1,PH r h.2⟩
end
mutual
def dS:Pat->List Expr
 | .mk _ _ _ ks _ ps=>ks++iK ps
def iK:List Pat->List Expr
 | []=>[]
 | p::r=>dS p++iK r
end
theorem Ht(p:Pat):dS p=p.keys++iK p.pats:=by cases p;simp[dS,Pat.keys,Pat.pats]
theorem Fv {σ:Type}(f:σ->Expr->σ×Bool):∀(l:List Pat) (s:σ),visit (fun s p=>visit f s (dS p)) s l=visit f s (iK l)
 | [],s=>rfl
 | p::r,s=>by
  rw[iK,jG,visit];split
  ·exact Fv f r _
  ·rename_i h
   cases hv:visit f s (dS p)with
   | mk a b=>rw[hv]at h;simp at h;simp[h]
theorem Y8 {l:List Pat}{p:Pat}{x:Expr}(hp:p∈l)(hx:x∈dS p):x∈iK l:=by
 induction l with
 | nil=>simp at hp
 | cons q r ih=>
  rw[iK];rcases List.mem_cons.1 hp with rfl | hp
  ·exact List.mem_append_left _ hx
  ·exact List.mem_append_right _ (ih hp)
structure Vis(X:Ctx){σ:Type}(id:Nat)(HS:σ->aA)(n:Nat)(f:σ->Expr->σ×Bool)(ok:σ->Prop)(P:Expr->Prop):Prop where
 len:∀s,(HS s).length=n
 idn:id<n
 call:∀(s:σ) (x:Expr) (E:aA),ok s->P x->aU X (.yield id) [.agg x.cells] (HS s++E)=some (.bool (f s x).2,HS (f s x).1++E)
 keep:∀(s:σ) (x:Expr),ok s->P x->(f s x).2=true->ok (f s x).1
variable {σ:Type}{id:Nat}{HS:σ->aA}{n:Nat}{f:σ->Expr->σ×Bool}{ok:σ->Prop}{P:Expr->Prop}
theorem zAh(hX:CX X)(hv:Vis X id HS n f ok P)(E:aA)(k:Nat)(hE:E[k]? =some (.box [.yield id])):Stops X (fun x:Expr=>.agg x.cells) (.func G7 [] [.ptr (n+k) 0]) HS f ok P E:=⟨fun s x hs hx=>by
 have hc:=hv.call s x E hs hx;have hl:=hv.len s;have hl2:=hv.len (f s x).1;have hg:(HS s++E)[n+k]? =some (.box [.yield id]):=by rw[← hl,gJ];exact hE
 refine zKF hX ?_;generalize(f s x).1=s' at *;generalize(f s x).2=b at *;have ht:List.take ((HS s).length+E.length) (HS s'++E)=HS s'++E:=List.take_of_length_le (by rw[List.length_append,hl,hl2];exact Nat.le_refl _);simp[Qp,hg,hc,ht],hv.keep⟩
theorem zGk(hX:CX X)(hv:Vis X id HS n f ok P)(E:aA)(k:Nat)(hE:E[k]? =some (.box [.yield id])):Stops X (fun x:Expr=>.agg x.cells) (.func Ir [] [.ptr (n+k) 0]) HS f ok P E:=⟨fun s x hs hx=>by
 have hc:=hv.call s x E hs hx;have hl:=hv.len s;have hl2:=hv.len (f s x).1;have hg:(HS s++E)[n+k]? =some (.box [.yield id]):=by rw[← hl,gJ];exact hE
 refine zKy hX ?_;generalize(f s x).1=s' at *;generalize(f s x).2=b at *;have ht:List.take ((HS s).length+E.length) (HS s'++E)=HS s'++E:=List.take_of_length_le (by rw[List.length_append,hl,hl2];exact Nat.le_refl _);simp[Pt,hg,hc,ht],hv.keep⟩
set_option maxHeartbeats 1000000 in
theorem zGj(hX:CX X)(hv:Vis X id HS n f ok P):∀(k:Nat) (p:Pat),SizeOf.sizeOf p<=k->PB p->(∀x∈dS p,P x)->∀(s:σ) (E:aA),ok s->cF X l4 [.agg p.cells,.yield id] (HS s++E)=some (.bool (visit f s (dS p)).2,HS (visit f s (dS p)).1++E):=by
 intro k
 induction k with
 | zero=>intro p hp;cases p;simp at hp
 | succ k ih=>
  intro p hp hpo hP s E hs;have hpe:=Ht p;have hlen:p.keys.length<=2000000∧p.pats.length<=2000000∧∀q∈p.pats,PB q∧SizeOf.sizeOf q<=k:=by
   cases p
   rw[PB,mH]at hpo;refine⟨hpo.2.1,hpo.2.2.2.1,fun q hq=>⟨hpo.2.2.2.2 q hq,?_⟩⟩;simp only[Pat.pats]at hq;have:=List.sizeOf_lt_of_mem hq;simp at hp;omega
  obtain⟨hl1,hl2,hsub⟩:=hlen;have hP1:∀x∈p.keys,P x:=fun x hx=>hP x (by rw[hpe];exact List.mem_append_left _ hx)
  have hP2:∀q∈p.pats,∀x∈dS q,P x:=fun q hq x hx=>hP x (by rw[hpe];exact List.mem_append_right _ (Y8 hq hx))
  have hEk:(E++[Chunk.box [.yield id]])[E.length]? =some (.box [.yield id]):=by simp
  have h1:=Bd hX hv.len (E:=E++[.box [.yield id]]) (by simp) (zGk hX hv (E++[.box [.yield id]]) E.length hEk) p.keysF p.keys (by omega) hP1 s hs;have hk2:Stops X (fun x:Pat=>.agg x.cells) (.func Iq [] [.ptr (n+E.length) 0]) HS (fun s q=>visit f s (dS q)) ok (fun q=>q∈p.pats) (E++[.box [.yield id]]):=⟨fun t q ht hq=>by
   have hc:=ih q (hsub q hq).2 (hsub q hq).1 (hP2 q hq) t (E++[.box [.yield id]]) ht;have hl:=hv.len t;have hl2:=hv.len (visit f t (dS q)).1;have hg:(HS t++(E++[.box [.yield id]]))[n+E.length]? =some (.box [.yield id]):=by rw[← hl,gJ];exact hEk
   refine zKx hX ?_;generalize(visit f t (dS q)).1=t' at *;generalize(visit f t (dS q)).2=b at *;have htk:List.take ((HS t).length+(E.length+1)) (HS t'++(E++[.box [.yield id]]))=HS t'++(E++[.box [.yield id]]):=List.take_of_length_le (by rw[List.length_append,hl,hl2];simp);simp[Pr,hg,hc,htk],fun t q ht hq hb=>iC hv.keep _ t ht (hP2 q hq) hb⟩
  have h2:=fun hb=>Bc hX hv.len (E:=E++[.box [.yield id]]) (by simp) hk2 p.patsF p.pats (by omega) (fun q hq=>hq) (visit f s p.keys).1 (iC hv.keep _ s hs hP1 hb)
  rw[Fv]at h2;rw[hpe,jG];have hln:=hv.len s;have hst:∀H:aA,n+E.length<=H.length->storable (n+E.length) H (n+E.length) [.yield id]=true:=fun H h=>bG (Nat.le_refl _) (by have:=hv.idn;simp[Go.AM.D.aD,Go.AM.D.under];omega) (by simp[Go.AM.D.aF,Go.AM.D.one])
  refine zKz hX ?_;have htk:∀t':σ,List.take (n+E.length) (HS t'++(E++[.box [.yield id]]))=HS t'++E:=fun t'=>by
   rw[← List.append_assoc, ← hv.len t', ← List.length_append,List.take_left'];rfl
  cases hb:(visit f s p.keys).2 with
  | false=>
   rw[hb]at h1;simp only[Bool.not_false]at h1;simp[Bw,hln,hst,D.fA,h1,htk,hb]
  | true=>
   rw[hb]at h1;simp only[Bool.not_true]at h1;replace h2:=h2 hb;generalize(visit f s p.keys).1=s1 at *;simp[Bw,hln,hst,D.fA,h1,h2,htk]
def fF(e:Expr):List Expr:=e.kids++(iK e.pats++eL e.defs)
mutual
theorem ZV:∀(p:Pat),PB p->∀x∈dS p,EB x
 | .mk _ _ _ ks _ ps=>by
  intro h x hx;rw[PB,Fj]at h;rw[dS]at hx;rcases List.mem_append.1 hx with hx | hx
  ·exact h.2.2.1 x hx
  ·exact Hv ps h.2.2.2.2 x hx
theorem Hv:∀(l:List Pat),jF l->∀x∈iK l,EB x
 | []=>by simp[iK]
 | p::r=>by
  intro h x hx;rw[jF]at h;rw[iK]at hx;rcases List.mem_append.1 hx with hx | hx
  ·exact ZV p h.1 x hx
  ·exact Hv r h.2 x hx
end
theorem Z1 {e:Expr}(h:EB e):∀x∈fF e,EB x:=by
 intro x hx;have h':=xJ.1 h;rcases List.mem_append.1 hx with hx | hx
 ·exact h'.2.2.2.2.1 x hx
 ·rcases List.mem_append.1 hx with hx | hx
  ·exact Hv _ (mH.2 h'.2.2.2.2.2.2.1) x hx
  ·obtain⟨d,h1,rfl⟩:=O9 hx
   have:=h'.2.2.2.2.2.2.2.2.1 d h1
   cases d
   exact this.2.2.2
mutual
theorem ZU:∀(p:Pat),∀x∈dS p,SizeOf.sizeOf x<SizeOf.sizeOf p
 | .mk _ _ _ ks _ ps=>by
  intro x hx;rw[dS]at hx;rcases List.mem_append.1 hx with hx | hx
  ·have:=List.sizeOf_lt_of_mem hx;simp;omega
  ·have:=Hu ps x hx;simp;omega
theorem Hu:∀(l:List Pat),∀x∈iK l,SizeOf.sizeOf x<SizeOf.sizeOf l
 | []=>by simp[iK]
 | p::r=>by
  intro x hx;rw[iK]at hx;rcases List.mem_append.1 hx with hx | hx
  ·have:=ZU p x hx;simp;omega
  ·have:=Hu r x hx;simp;omega
end
theorem F7 {e x:Expr}(h:x∈fF e):SizeOf.sizeOf x<SizeOf.sizeOf e:=by
 obtain⟨k,n,t,d,kf,ks,pf,ps,df,ds,a⟩:=e;simp only[fF,Expr.kids,Expr.pats,Expr.defs]at h;rcases List.mem_append.1 h with h | h
 ·have:=List.sizeOf_lt_of_mem h;simp;omega
 ·rcases List.mem_append.1 h with h | h
  ·have:=Hu _ x h;simp;omega
  ·obtain⟨d,h1,rfl⟩:=O9 h
   have h2:=List.sizeOf_lt_of_mem h1;have:SizeOf.sizeOf d.body<SizeOf.sizeOf d:=by cases d;simp[Def.body];omega
   simp;omega
end
section
variable {X:Ctx}
variable {σ:Type}{id:Nat}{HS:σ->aA}{n:Nat}{f:σ->Expr->σ×Bool}{ok:σ->Prop}{P:Expr->Prop}
theorem zMq {l:List Def}{i:Nat}(h:i<l.length):eL (l.drop i)=l[i].body::eL (l.drop (i+1)):=by rw[List.drop_eq_getElem_cons h];rfl
theorem Od {l:List Def}{d:Def}(h:d∈l):d.body∈eL l:=by
 induction l with
 | nil=>simp at h
 | cons x r ih=>
  rcases List.mem_cons.1 h with rfl | h
  ·exact List.mem_cons_self ..
  ·exact List.mem_cons_of_mem _ (ih h)
set_option maxHeartbeats 2000000 in
theorem Zq(hX:CX X)(hv:Vis X id HS n f ok P){e:Expr}(he:EB e)(hP:∀x∈fF e,P x)(s:σ)(hs:ok s):aU X (.func lO [] [.fptr e.cells]) [.yield id] (HS s)=some (.tup [],HS (visit f s (fF e)).1):=by
 have he':=xJ.1 he;have hP1:∀x∈e.kids,P x:=fun x hx=>hP x (List.mem_append_left _ hx)
 have hP2:∀q∈e.pats,∀x∈dS q,P x:=fun q hq x hx=>hP x (List.mem_append_right _ (List.mem_append_left _ (Y8 hq hx)))
 have hP3:∀x∈eL e.defs,P x:=fun x hx=>hP x (List.mem_append_right _ (List.mem_append_right _ hx))
 have hEk:([Chunk.box [.yield id]]:aA)[0]? =some (.box [.yield id]):=rfl;have hst1:=zAh hX hv [.box [.yield id]] 0 hEk;have h1:=Bd hX hv.len (E:=[.box [.yield id]]) (by simp) hst1 e.kidsF e.kids (by have:=he'.2.2.2.1;omega) hP1 s hs;have hpl:=oZ e.pats;have hk2:Stops X (fun x:Pat=>.agg x.cells) (.func Iy [] [.ptr (n+0) 0]) HS (fun s q=>visit f s (dS q)) ok (fun q=>q∈e.pats) [.box [.yield id]]:=⟨fun t q ht hq=>by
  have hc:=zGj hX hv (SizeOf.sizeOf q) q (Nat.le_refl _) (he'.2.2.2.2.2.2.1 q hq) (hP2 q hq) t [.box [.yield id]] ht;have hl:=hv.len t;have hl2:=hv.len (visit f t (dS q)).1;have hg:(HS t++[.box [.yield id]])[n+0]? =some (.box [.yield id]):=by rw[← hl,gJ];rfl
  refine zKE hX ?_;generalize(visit f t (dS q)).1=t' at *;generalize(visit f t (dS q)).2=b at *;have htk:List.take ((HS t).length+1) (HS t'++[.box [.yield id]])=HS t'++[.box [.yield id]]:=List.take_of_length_le (by rw[List.length_append,hl,hl2];simp);simp only[Nat.add_zero]at hg;simp[Qn,hg,hc,htk],fun t q ht hq hb=>iC hv.keep _ t ht (hP2 q hq) hb⟩
 have hs1:=iC hv.keep _ s hs hP1;have h2:=fun hb=>Bc hX hv.len (E:=[.box [.yield id]]) (by simp) hk2 e.patsF e.pats (by have:=he'.2.2.2.2.2.1;omega) (fun q hq=>hq) (visit f s e.kids).1 (hs1 hb)
 have hs2:(visit f s e.kids).2=true->(visit (fun s q=>visit f s (dS q)) (visit f s e.kids).1 e.pats).2=true->ok (visit (fun s q=>visit f s (dS q)) (visit f s e.kids).1 e.pats).1:=fun hb=>iC (P:=fun q=>q∈e.pats) (fun t q ht hq hb=>iC hv.keep _ t ht (hP2 q hq) hb) _ _ (hs1 hb) fun q hq=>hq
 rw[Fv]at h2 hs2;have hln:=hv.len s;have hst:∀H:aA,n<=H.length->storable n H n [.yield id]=true:=fun H h=>bG (Nat.le_refl _) (by have:=hv.idn;simp[Go.AM.D.aD,Go.AM.D.under];omega) (by simp[Go.AM.D.aF,Go.AM.D.one])
 have htk:∀t':σ,List.take n (HS t'++[.box [.yield id]])=HS t':=fun t'=>by
  rw[← hv.len t',List.take_left'];rfl
 simp only[Nat.add_zero]at h1 h2;rw[fF,jG];refine zKG hX ?_
 cases hb:(visit f s e.kids).2 with
 | false=>
  rw[hb]at h1;simp only[Bool.not_false]at h1;simp[Q1,hln,hst,D.fA,h1,htk]
 | true=>
  rw[hb]at h1;simp only[Bool.not_true]at h1;replace h2:=h2 hb;replace hs2:=hs2 hb;clear hs1;rw[if_pos rfl,jG];generalize(visit f s e.kids).1=s1 at *
  cases hb2:(visit f s1 (iK e.pats)).2 with
  | false=>
   rw[hb2]at h2;simp only[Bool.not_false]at h2;simp[Q1,hln,hst,D.fA,h1,h2,htk]
  | true=>
   rw[hb2]at h2;simp only[Bool.not_true]at h2;replace hs2:=hs2 hb2;rw[if_pos rfl];generalize(visit f s1 (iK e.pats)).1=s2 at *;simp[Q1,hln,hst,D.fA,h1,h2];generalize hR:visit f s2 (eL e.defs)=R;have hcall:∀(t:σ) (x:Expr),ok t->P x->aU X (.func G7 [] [.ptr n 0]) [.agg x.cells] (HS t++[.box [.yield id]])=some (.bool (!(f t x).2),HS (f t x).1++[.box [.yield id]]):=hst1.call;have hdl:=he'.2.2.2.2.2.2.2.1;refine cH (fun(q:Nat×σ) v H'=>H'=HS q.2++[.box [.yield id]]∧q.1<=e.defs.length∧ok q.2∧v.get 3=.func G7 [] [.ptr n 0]∧v.get 18=SL e.defsF (Def.aC e.defs) e.defs.length∧v.get 19=.int .i64 e.defs.length∧v.get 20=.int .i64 q.1∧visit f q.2 (eL (e.defs.drop q.1))=R) (fun q=>e.defs.length-q.1) ?_ (0,s2) (by simp[hs2,hR]);clear hR;rintro⟨j,t⟩ v H' ⟨rfl,hj,ht,g3,g18,g19,g20,hq⟩ L ih;simp only at hj ht g20 hq ih;by_cases h:j<e.defs.length
   ·have h':(j:Int)<e.defs.length:=by omega
    have w1:IntKind.i64.wrap ((j:Int)+1)=(j:Int)+1:=wI;have hdr:=Def.dG h;have hPx:P e.defs[j].body:=hP3 _ (Od (List.getElem_mem h));have hc:=hcall t e.defs[j].body ht hPx;have hk:=hv.keep t e.defs[j].body ht hPx;rw[zMq h,visit]at hq;generalize(f t e.defs[j].body).1=t' at *
    cases hb3:(f t e.defs[j].body).2 with
    | true=>
     rw[hb3]at hc hq;simp only[if_true,Bool.not_true]at hc hq;simp[Cd,g3,g18,g19,g20,h,h',hdr,hc,w1];refine ih (j+1,t') _ _ (by simp;omega) ?_;simp[g3,g18,g19,hk hb3,hq];omega
    | false=>
     rw[hb3]at hc hq;simp only[Bool.false_eq_true,if_false,Bool.not_false]at hc hq;simp[Cd,g3,g18,g19,g20,h,h',hdr,hc,w1,htk, ← hq]
   ·obtain rfl:j=e.defs.length:=by omega
    simp[eL,visit]at hq;simp[Cd,g3,g18,g19,g20,htk, ← hq]
theorem Ng(hX:CX X)(e:Expr)(H:aA):cF X G8 [.agg e.cells] H=some (.func lO [] [.fptr e.cells],H):=by
 refine zKH hX ?_;simp[Qm,aB,D.fA]
end
section
variable {X:Ctx}
theorem AL {σ α:Type}(g:σ->α->σ):∀(l:List α) (s:σ),visit (fun s x=>(g s x,true)) s l=(l.foldl g s,true)
 | [],s=>rfl
 | x::r,s=>by rw[visit];exact AL g r (g s x)
theorem SA(hX:CX X):∀(k:Nat) (f:Nl) (l:List Pat),jF l->l.length<=4000000->k<=1000->∀H:aA,cF X c9 [SL f (Pat.aC l) l.length,.int .i64 k] H=some (.int .i64 (iL k l),H):=by
 intro k
 induction k with
 | zero=>
  intro f l hl hn _ H;refine MG hX ?_;simp[Bu];refine cH (fun(i:Nat) v H'=>H'=H∧i<=l.length∧v.get 1=.int .i64 0∧v.get 5=.int .i64 0∧v.get 8=SL f (Pat.aC l) l.length∧v.get 9=.int .i64 l.length∧v.get 10=.int .i64 i) (fun i=>l.length-i) ?_ 0 (by simp);rintro i v H' ⟨rfl,hi,g1,g5,g8,g9,g10⟩ L ih2;have w1:IntKind.i64.wrap ((i:Int)+1)=(i:Int)+1:=wI;by_cases h:i<l.length
  ·have h':(i:Int)<l.length:=by omega
   have hdr:=Pat.dG h;simp[P4,g1,g5,g8,g9,g10,h,h',hdr,w1];refine ih2 (i+1) _ _ (by omega) ?_;simp[g1,g5,g8,g9];omega
  ·obtain rfl:i=l.length:=by omega
   simp[P4,aB,g1,g5,g8,g9,g10,iL]
 | succ k ih=>
  intro f l hl hn hk H;refine MG hX ?_;simp[Bu];refine cH (fun(i:Nat) v H'=>H'=H∧i<=l.length∧v.get 1=.int .i64 ((k+1:Nat):Int)∧v.get 5=.int .i64 ((l.take i).foldl (fun n p=>max n (IntKind.i64.wrap (1+iL k p.pats))) 0)∧v.get 8=SL f (Pat.aC l) l.length∧v.get 9=.int .i64 l.length∧v.get 10=.int .i64 i) (fun i=>l.length-i) ?_ 0 (by simp);rintro i v H' ⟨rfl,hi,g1,g5,g8,g9,g10⟩ L ih2;have w1:IntKind.i64.wrap ((i:Int)+1)=(i:Int)+1:=wI;have w2:IntKind.i64.wrap (k:Int)=(k:Int):=wI;have hk1:(0:Int)<((k+1:Nat):Int):=by omega
  by_cases h:i<l.length
  ·have h':(i:Int)<l.length:=by omega
   have hdr:=Pat.dG h;have hp:PB l[i]:=(mH.1 hl) _ (List.getElem_mem h);have hps:jF l[i].pats∧l[i].pats.length<=2000000:=by
    generalize l[i]=q at hp
    cases q
    rw[PB]at hp;exact⟨hp.2.2.2.2,hp.2.2.2.1⟩
   have hc:=fun H=>ih l[i].patsF l[i].pats hps.1 (by omega) (by omega) H
   have hfo:=Lp (fun(n:Int) (p:Pat)=>max n (IntKind.i64.wrap (1+iL k p.pats))) 0 h;simp[P4,g1,g5,g8,g9,g10,h,h',hdr,hk1,w1,w2,hc];refine ih2 (i+1) _ _ (by omega) ?_;rw[hfo];simp[g1,g8,g9];omega
  ·obtain rfl:i=l.length:=by omega
   rw[List.take_length]at g5;simp[P4,aB,g1,g5,g8,g9,g10,iL]
def rV:Nat->Expr->Int
 | 0,_=>0
 | k+1,e=>IntKind.i64.wrap ((fF e).foldl (fun n x=>max n (rV k x)) (iL k e.pats)+1)
abbrev Mk(H:aA)(e:Expr)(k:Nat):Env:=(((((((((((((((Env.nil.put 0 (D.agg e.cells)).put 1 (D.int IntKind.i64 (↑k+1))).put 2 (D.fptr e.cells)).put 3 (D.fptr [D.int IntKind.i64 (↑k+1)])).put 4 (D.int IntKind.i64 0)).put 7 (D.int IntKind.i64 (↑k+1))).put 8 (D.bool false)).put 9 (D.fptr (List.drop 7 e.cells))).put 10 (SL e.patsF (Pat.aC e.pats) e.pats.length)).put 11 (D.int IntKind.i64 (↑k+1))).put 12 (D.int IntKind.i64 ↑k)).put 13 (D.int IntKind.i64 (iL k e.pats))).put 5 D.undef).put 5 (D.ptr (List.length H) 0)).put 14 (D.agg e.cells)).put 15 (D.func lO [] [D.fptr e.cells])
set_option maxHeartbeats 1000000 in
theorem SN(hX:CX X):∀(k:Nat) (e:Expr),EB e->k<=1000->∀H:aA,cF X l6 [.agg e.cells,.int .i64 k] H=some (.int .i64 (rV k e),H):=by
 intro k
 induction k with
 | zero=>
  intro e he _ H;refine MN hX ?_;simp[Cc,aB,rV]
 | succ k ih=>
  intro e he hk H;refine MN hX ?_;have he':=xJ.1 he;have hpl2:=oZ e.pats;have hpd:=SA hX k e.patsF e.pats (mH.2 he'.2.2.2.2.2.2.1) (by have:=he'.2.2.2.2.2.1;omega) (by omega);have w2:IntKind.i64.wrap (k:Int)=(k:Int):=wI;have hk0:¬((k:Int)+1=0):=by omega
  have hP:=Ng hX e;simp[Cc,w2,hk0,hpd,hP,aH];have hv:Vis X (H.length+2) (fun n:Int=>H++[.box [.int .i64 n],.dfr false,.loop ⟨Mk H e k,[16],Q0,P9,.ready,none,H.length+1⟩]) (H.length+3) (fun n x=>(max n (rV k x),true)) (fun _=>True) (EB):=by
   refine⟨fun s=>by simp,by omega,fun s x E _ hx=>?_,fun _ _ _ _ _=>trivial⟩;have hc:=fun H=>ih x hx (by omega) H
   refine qW (L:=⟨Mk H e k,[16],Q0,P9,.ready,none,H.length+1⟩) (by simp) rfl rfl ?_;simp[Q0,P9,Env.dX,eA,hc,w2,aH]
  have hr:=Zq hX hv he (Z1 he) (iL k e.pats) trivial;rw[AL]at hr;refine oR (H.length+1) (H.length+2) ⟨Mk H e k,[16],Q0,P9,.ready,none,H.length+1⟩ (by simp) rfl (g:=lO) (pre:=[]) (caps:=[.fptr e.cells]) (by simp) (by simpa using hr) (by simp) (by simp) ?_;simp[iO,aB,rV]
end
section
variable {X:Ctx}
theorem SS(hX:CX X){e:Expr}(he:EB e)(H:aA):cF X Iz [.agg e.cells] H=some (.int .i64 (rV 1000 e),H):=by
 have h:=SN hX 1000 e he (by omega) H;refine zKI hX ?_;simp only[Int.cast_ofNat_Int]at h;simp[Qt,aB,h]
def iJ(g:Expr->Int)(s:Int×Bool)(x:Expr):(Int×Bool)×Bool:=if 1048576<=s.1+g x then((s.1+g x,true),false)else((s.1+g x,false),true)
def dW:Nat->Expr->Int
 | 0,_=>1
 | k+1,e=>if(visit (iJ (dW k)) (1,false) (fF e)).1.2 then 1048576 else(visit (iJ (dW k)) (1,false) (fF e)).1.1
abbrev V5(H:aA)(e:Expr):Env:=((((((Env.nil.put 0 (D.agg e.cells)).put 1 (D.fptr e.cells)).put 2 (D.ptr (List.length H) 0)).put 3 D.undef).put 3 (D.ptr (List.length H+1) 0)).put 5 (D.agg e.cells)).put 6 (D.func lO [] [D.fptr e.cells])
def uM(H:aA)(e:Expr)(s:Int×Bool):aA:=H++[.box [.int .i64 (if s.2 then 1048576 else 0)],.box [.int .i64 s.1],.dfr false,.loop ⟨V5 H e,[7],wT,wS,if s.2 then .done else .ready,if s.2 then some .ret else none,H.length+2⟩]
theorem SQ (hX : CX X) : ∀ (k : Nat) (e : Expr), SizeOf.sizeOf e <= k -> EB e -> 1 <= dW k e ∧ dW k e <= 1048576 ∧ ∀ H : aA, cF X l8 [.agg e.cells] H = some (.int .i64 (dW k e), H) := by
  intro k
  induction k with
  | zero => intro e h; have : 0 < SizeOf.sizeOf e := by cases e; simp; omega
            omega
  | succ k ih =>
    intro e hk he
    have hsub : ∀ x ∈ fF e, SizeOf.sizeOf x <= k := fun x hx => by have := F7 hx; omega
    have hb : 1 <= dW (k + 1) e ∧ dW (k + 1) e <= 1048576 := by
      have : ∀ (l : List Expr), (∀ x ∈ l, 1 <= dW k x) -> ∀ s : Int × Bool, 1 <= s.1 -> s.1 <= 1048575 -> s.2 = false -> 1 <= (visit (iJ (dW k)) s l).1.1 ∧ ((visit (iJ (dW k)) s l).1.2 = false -> (visit (iJ (dW k)) s l).1.1 <= 1048575) := by
        intro l
        induction l with
        | nil => intro _ s h1 h2 h3; exact ⟨h1, fun _ => h2⟩
        | cons x r ih =>
          intro hl s h1 h2 h3
          have hx := hl x (List.mem_cons_self ..)
          simp only [visit, iJ]
          split
          · simp; omega
          · simp
            exact ih (fun z hz => hl z (List.mem_cons_of_mem _ hz)) _ (by simp; omega) (by simp; omega) rfl
      have h2 := this (fF e) (fun x hx => (ih x (hsub x hx) (Z1 he x hx)).1) (1, false) (by simp) (by simp) rfl
      simp only [dW]
      split
      · omega
      · rename_i h3
        have := h2.2 (by simpa using h3)
        omega
    refine ⟨hb.1, hb.2, fun H => ?_⟩
    clear hb
    have hP := Ng hX e
    refine zKC hX ?_
    simp [Qh, Env.dL, List.nil_append, List.append_nil, hP, aH]
    have hv : Vis X (H.length + 3) (uM H e) (H.length + 4) (iJ (dW k)) (fun s => s.2 = false ∧ 1 <= s.1 ∧ s.1 <= 1048575) (fun x => EB x ∧ SizeOf.sizeOf x <= k) := by
      refine ⟨fun s => by simp [uM], by omega, fun s x E hs hx => ?_, fun s x hs hx hb => ?_⟩
      · obtain ⟨h1, h2, hc⟩ := ih x hx.2 hx.1
        obtain ⟨n, b⟩ := s
        obtain ⟨rfl, hs1, hs2⟩ := hs
        simp only at hs1 hs2
        have w : IntKind.i64.wrap (n + dW k x) = n + dW k x := wrap_i64 (by omega) (by omega)
        refine qW (L := ⟨V5 H e, [7], wT, wS, .ready, none, H.length + 2⟩) (by simp [uM]) rfl rfl ?_
        by_cases hn : 1048576 <= n + dW k x
        · simp [wT, wS, Env.dX, eA, hc, aH, w, hn, iJ, uM]
        · simp [wT, wS, Env.dX, eA, hc, aH, w, hn, iJ, uM]
      · obtain ⟨h1, h2, hc⟩ := ih x hx.2 hx.1
        simp only [iJ] at hb ⊢
        split at hb
        · simp at hb
        · rw [if_neg (by assumption)]
          simp
          omega
    have hr := Zq hX hv he (fun x hx => ⟨Z1 he x hx, hsub x hx⟩) (1, false) (by simp)
    generalize hR : visit (iJ (dW k)) (1, false) (fF e) = R at hr
    obtain ⟨⟨n, b⟩, c⟩ := R
    cases b with
    | false =>
      refine oR (H.length + 2) (H.length + 3) ⟨V5 H e, [7], wT, wS, .ready, none, H.length + 2⟩ (by simp) rfl (g := lO) (pre := []) (caps := [.fptr e.cells]) (by simp) (by simpa [uM] using hr) (by simp) (by simp) ?_
      simp [iO, fO, oS, finish, aB, dW, hR, aH]
    | true =>
      refine oR (H.length + 2) (H.length + 3) ⟨V5 H e, [7], wT, wS, .done, some .ret, H.length + 2⟩ (by simp) rfl (g := lO) (pre := []) (caps := [.fptr e.cells]) (by simp) (by simpa [uM] using hr) (by simp) (by simp) ?_
      simp [iO, fO, oS, finish, aB, dW, hR, aH]
end
end Go.AM.T
