/- Walks. -/
import Derived.Test.YtbgdifdbgcgjnaaGreatDoorWalkC
set_option linter.unusedVariables false
set_option linter.unusedSimpArgs false
set_option linter.unnecessarySimpa false
set_option maxRecDepth 100000
namespace Go.AM.T
section
variable {X:Ctx}
theorem dA(a:UInt8):a.toNat<256:=a.toNat_lt
theorem nX {b:UInt8}:cont b=true↔128<=b.toNat∧b.toNat<=191:=by simp[cont]
theorem LC {a:UInt8}{r:Bs}(h:0xC2<=a.toNat∧a.toNat<0xE0):cL (a::r)=match r with | b::_=>if cont b then 2 else 0 | _=>0:=by
 unfold cL;simp only;rw[if_neg (by omega),if_neg (by omega),if_pos h.2];cases r <;> rfl
theorem Aw {a:UInt8}{r:Bs}{lo hi:Nat}(h:0xE0<=a.toNat∧a.toNat<0xF0)(hl:lo=if a.toNat=0xE0 then 0xA0 else 0x80)(hh:hi=if a.toNat=0xED then 0x9F else 0xBF):cL (a::r)=match r with | b::c::_=>if(lo<=b.toNat∧b.toNat<=hi)∧cont c then 3 else 0 | _=>0:=by
 unfold cL;simp only;rw[if_neg (by omega),if_neg (by omega),if_neg (by omega),if_pos h.2]
 cases r with
 | nil=>rfl
 | cons b r=>cases r with
  | nil=>rfl
  | cons c r=>
   subst hl hh;by_cases h1:a.toNat=0xE0
   ·simp[h1]
   ·by_cases h2:a.toNat=0xED
    ·simp[h2]
    ·simp[h1,h2,cont]
theorem Ay {a:UInt8}{r:Bs}{lo hi:Nat}(h:0xF0<=a.toNat∧a.toNat<0xF5)(hl:lo=if a.toNat=0xF0 then 0x90 else 0x80)(hh:hi=if a.toNat=0xF4 then 0x8F else 0xBF):cL (a::r)=match r with | b::c::d::_=>if(lo<=b.toNat∧b.toNat<=hi)∧cont c∧cont d then 4 else 0 | _=>0:=by
 unfold cL;simp only;rw[if_neg (by omega),if_neg (by omega),if_neg (by omega),if_neg (by omega),if_pos h.2]
 cases r with
 | nil=>rfl
 | cons b r=>cases r with
  | nil=>rfl
  | cons c r=>cases r with
   | nil=>rfl
   | cons d r=>
    subst hl hh;by_cases h1:a.toNat=0xF0
    ·simp[h1]
    ·by_cases h2:a.toNat=0xF4
     ·simp[h2]
     ·simp[h1,h2,cont]
theorem AU {s:Bs}(h:cL s≠0):iH s=cL s+iH (s.drop (cL s)):=by rw[iH,dif_neg h]
theorem U8 {s:Bs}(h:cL s=0):iH s=0:=by rw[iH,dif_pos h]
def gX(n:Nat):Bs:=
 if n<0x80 then [UInt8.ofNat n]else if n<0x800 then [UInt8.ofNat (0xC0+n / 64),UInt8.ofNat (0x80+n % 64)]else
 if n<0x10000 then [UInt8.ofNat (0xE0+n / 4096),UInt8.ofNat (0x80+n / 64 % 64),UInt8.ofNat (0x80+n % 64)]else
 [UInt8.ofNat (0xF0+n / 262144),UInt8.ofNat (0x80+n / 4096 % 64),UInt8.ofNat (0x80+n / 64 % 64),UInt8.ofNat (0x80+n % 64)]
def jX(n:Nat):Bool:=decide (n<=0x10ffff) && (decide (n<0xd800) || decide (0xdfff<n))
theorem xX(hX:CX X)(H:aA)(n:Nat):cF X Kn [.int .i64 n] H=some (.bool (jX n),H):=by
 refine zL6 hX ?_;have e1:((n:Int)<=1114111)=(n<=1114111):=by apply propext;omega
 have e2:((n:Int)<55296)=(n<55296):=by apply propext;omega
 have e3:((57343:Int)<n)=(57343<n):=by apply propext;omega
 simp+contextual -implicitDefEqProofs [Yl,aB,jX,e1,e2,e3]
theorem zU:∀s:Bs,jD (aZ s)=some s
 | []=>rfl
 | b::s=>by
  have:=zU s;simp only[aZ]at this;simp[aZ,jD,this]
theorem rD(s:Bs):(aZ s).length=s.length:=by simp[aZ]
theorem ofNat_toNat {n:Nat}(h:n<256):(UInt8.ofNat n).toNat=n:=by simp;omega
theorem uW(hX:CX X)(H:aA)(n:Nat)(hn:n<=0x10ffff):cF X I9 [.int .i64 n] H=some (.fsl (aZ (gX n)) (gX n).length,H):=by
 refine zL7 hX ?_;unfold gX;by_cases h1:n<128
 ·have h1':(n:Int)<128:=by omega
  simp(disch:=omega) [B2,aB,h1',h1,wrap_u8,z12,aZ,ofNat_toNat, -UInt8.toNat_ofNat']
 ·have h1':¬(n:Int)<128:=by omega
  by_cases h2:n<2048
  ·have h2':(n:Int)<2048:=by omega
   simp(disch:=omega) [B2,aB,h1',h1,h2,h2',AA,wrap_u8,wrap_i64,Int.tdiv_eq_ediv_of_nonneg,Int.tmod_eq_emod_of_nonneg,aZ];omega
  ·have h2':¬(n:Int)<2048:=by omega
   by_cases h3:n<65536
   ·have h3':(n:Int)<65536:=by omega
    simp(disch:=omega) [B2,aB,h1',h1,h2,h2',h3,h3',Zz,wrap_u8,wrap_i64,Int.tdiv_eq_ediv_of_nonneg,Int.tmod_eq_emod_of_nonneg,aZ];omega
   ·have h3':¬(n:Int)<65536:=by omega
    simp(disch:=omega) [B2,aB,h1',h1,h2,h2',h3,h3',Zy,wrap_u8,wrap_i64,Int.tdiv_eq_ediv_of_nonneg,Int.tmod_eq_emod_of_nonneg,aZ];omega
def U0(s:Bs)(d:D):Prop:=∃c:Int,d=.tup [.int .i64 c,.int .i64 (cL s)]
theorem lS {s:Bs}{c:Int}(h:cL s=0):U0 s (.tup [.int .i64 c,.int .i64 0]):=⟨c,by rw[h];rfl⟩
theorem rC {a:UInt8}{n:Nat}(h:n<256):UInt8.ofNat n=a↔n=a.toNat:=by
 constructor
 ·rintro rfl;exact(ofNat_toNat h).symm
 ·rintro rfl;simp
theorem zEE {a b:UInt8}{m:Nat}(h:192<=a.toNat∧a.toNat<224)(hm:m=(a.toNat-192)*64+b.toNat % 64):gX m=[a,b]↔194<=a.toNat∧128<=b.toNat∧b.toNat<=191:=by
 have lb:=dA b;unfold gX;by_cases h1:m<128
 ·rw[if_pos h1];simp;omega
 ·rw[if_neg h1,if_pos (by omega)]
  simp only[List.cons.injEq,and_true];rw[rC (by omega),rC (by omega)];omega
theorem zED {a b c:UInt8}{m:Nat}(h:224<=a.toNat∧a.toNat<240)(hm:m=((a.toNat-224)*64+b.toNat % 64)*64+c.toNat % 64):(jX m=true∧gX m=[a,b,c])↔((if a.toNat=0xE0 then 0xA0 else 0x80)<=b.toNat∧b.toNat<=(if a.toNat=0xED then 0x9F else 0xBF))∧cont c=true:=by
 have lb:=dA b;have lc:=dA c;unfold gX jX;simp only[Bool.and_eq_true,Bool.or_eq_true,decide_eq_true_eq,nX];by_cases h1:m<2048
 ·have:(if m<128 then [UInt8.ofNat m]else if m<2048 then [UInt8.ofNat (192+m / 64),UInt8.ofNat (128+m % 64)]else if m<65536 then [UInt8.ofNat (224+m / 4096),UInt8.ofNat (128+m / 64 % 64),UInt8.ofNat (128+m % 64)]else [UInt8.ofNat (240+m / 262144),UInt8.ofNat (128+m / 4096 % 64),UInt8.ofNat (128+m / 64 % 64),UInt8.ofNat (128+m % 64)])≠ [a,b,c]:=by
   split
   ·simp
   ·simp[h1]
  simp only[this,and_false,false_iff];split <;> split <;> omega
 ·rw[if_neg (by omega),if_neg h1,if_pos (by omega)]
  simp only[List.cons.injEq,and_true];rw[rC (by omega),rC (by omega),rC (by omega)];split <;> split <;> omega
theorem zEC {a b c d:UInt8}{m:Nat}(h:240<=a.toNat)(hm:m=(((a.toNat-240)*64+b.toNat % 64)*64+c.toNat % 64)*64+d.toNat % 64):(jX m=true∧gX m=[a,b,c,d])↔a.toNat<0xF5∧((if a.toNat=0xF0 then 0x90 else 0x80)<=b.toNat∧b.toNat<=(if a.toNat=0xF4 then 0x8F else 0xBF))∧cont c=true∧cont d=true:=by
 have la:=dA a;have lb:=dA b;have lc:=dA c;have ld:=dA d;unfold gX jX;simp only[Bool.and_eq_true,Bool.or_eq_true,decide_eq_true_eq,nX];by_cases h1:m<65536
 ·have:(if m<128 then [UInt8.ofNat m]else if m<2048 then [UInt8.ofNat (192+m / 64),UInt8.ofNat (128+m % 64)]else if m<65536 then [UInt8.ofNat (224+m / 4096),UInt8.ofNat (128+m / 64 % 64),UInt8.ofNat (128+m % 64)]else [UInt8.ofNat (240+m / 262144),UInt8.ofNat (128+m / 4096 % 64),UInt8.ofNat (128+m / 64 % 64),UInt8.ofNat (128+m % 64)])≠ [a,b,c,d]:=by
   split
   ·simp
   ·split
    ·simp
    ·simp[h1]
  simp only[this,and_false,false_iff];split <;> split <;> omega
 ·rw[if_neg (by omega),if_neg (by omega),if_neg h1]
  simp only[List.cons.injEq,and_true];by_cases h2:m<=1114111
  ·rw[rC (by omega),rC (by omega),rC (by omega),rC (by omega)]
   split <;> split <;> omega
  ·constructor
   ·intro h;omega
   ·intro h;exfalso
    revert h;split <;> split <;> omega
set_option maxHeartbeats 2000000 in
theorem FT(hX:CX X)(H:aA)(s:Bs):∃d H',cF X r9 [.str s] H=some (d,H')∧(U0 s d∧H'=H):=by
 refine zAt hX ?_
 cases s with
 | nil=>
  simp[kD,aB];exact lS rfl
 | cons a r=>
 have la:=dA a;have hr:¬(r.length:Int)+1<1:=by omega
 have hr0:¬(r.length:Int)+1=0:=by omega
 by_cases c1:a.toNat<192
 ·have g1:¬(240:Int)<=a.toNat:=by omega
  have g2:¬(224:Int)<=a.toNat:=by omega
  have g3:¬(192:Int)<=a.toNat:=by omega
  have hm:jX a.toNat=true:=by simp[jX];omega
  have ho:=uW hX H a.toNat (by omega);have ht:fD (a::r) none (some (.int .i64 1))=some (.str [a]):=D8 (s:=a::r) (k:=1) (by simp);simp(disch:=omega) [kD,xF,eT,List.getElem?_cons_zero,aB,wrap_i64,g1,g2,g3,hr,hr0,xX hX,hm,ho,elems,rD,zU,ht];by_cases c0:a.toNat<128
  ·have e1:gX a.toNat=[a]:=by unfold gX;rw[if_pos c0];simp
   have e2:cL (a::r)=1:=by unfold cL;simp only;rw[if_pos c0]
   rw[e1];simp[U0,e2]
  ·have e1:gX a.toNat≠ [a]:=by unfold gX;rw[if_neg c0,if_pos (by omega)];simp
   have e2:cL (a::r)=0:=by unfold cL;simp only;rw[if_neg c0,if_pos (by omega)]
   simp[U0,e1,e2]
 ·by_cases c2:a.toNat<224
  ·have g1:¬(240:Int)<=a.toNat:=by omega
   have g2:¬(224:Int)<=a.toNat:=by omega
   have g3:(192:Int)<=a.toNat:=by omega
   cases r with
   | nil=>
    simp(disch:=omega) [kD,List.getElem?_cons_zero,aB,wrap_i64,g1,g2,g3];exact lS (by unfold cL;simp only;(repeat' split) <;> first | rfl | omega)
   | cons b r=>
   have lb:=dA b;obtain⟨m,hm⟩:∃m:Nat,m=(a.toNat-192)*64+b.toNat % 64:=⟨_,rfl⟩;have hm':((a.toNat:Int)-192)*64+(b.toNat:Int) % 64=m:=by omega
   have hmay:jX m=true:=by simp[jX];omega
   have ho:=uW hX H m (by omega);have ht:fD (a::b::r) none (some (.int .i64 2))=some (.str [a,b]):=D8 (s:=a::b::r) (k:=2) (by simp);have hr2:¬(r.length:Int)+1+1<2:=by omega
   have hr3:¬(r.length:Int)+1+1=0:=by omega
   simp(disch:=omega) [kD,xF,eT,List.getElem?_cons_zero,List.getElem?_cons_succ,aB,wrap_i64,Int.tmod_eq_emod_of_nonneg,g1,g2,g3,hr2,hr3,hm',xX hX,hmay,ho,elems,rD,zU,ht];have hd:=LC (a:=a) (r:=b::r);have ho2:=zEE (a:=a) (b:=b) (by omega) hm;refine⟨fun h=>lS ?_,fun h=>⟨(m:Int),?_⟩⟩
   ·by_cases c3:194<=a.toNat
    ·rw[hd (by omega)]
     simp only[ite_eq_right_iff,nX];intro h';exact absurd (ho2.2 ⟨c3,h'⟩) h
    ·unfold cL;simp only;rw[if_neg (by omega),if_pos (by omega)]
   ·obtain⟨q1,q2⟩:=ho2.1 h
    rw[hd (by omega)];simp only;rw[if_pos (nX.2 q2)];rfl
  ·by_cases c3:a.toNat<240
   ·have g1:¬(240:Int)<=a.toNat:=by omega
    have g2:(224:Int)<=a.toNat:=by omega
    have hd:=fun r=>Aw (a:=a) (r:=r) (by omega) rfl rfl
    cases r with
    | nil=>
     simp(disch:=omega) [kD,List.getElem?_cons_zero,aB,wrap_i64,g1,g2];exact lS (by rw[hd])
    | cons b r=>
    cases r with
    | nil=>
     simp(disch:=omega) [kD,List.getElem?_cons_zero,aB,wrap_i64,g1,g2];exact lS (by rw[hd])
    | cons c r=>
    have lb:=dA b;have lc:=dA c;obtain⟨m,hm⟩:∃m:Nat,m=((a.toNat-224)*64+b.toNat % 64)*64+c.toNat % 64:=⟨_,rfl⟩;have hm':(((a.toNat:Int)-224)*64+(b.toNat:Int) % 64)*64+(c.toNat:Int) % 64=m:=by omega
    have ht:fD (a::b::c::r) none (some (.int .i64 3))=some (.str [a,b,c]):=D8 (s:=a::b::c::r) (k:=3) (by simp);have hr2:¬(r.length:Int)+1+1+1<3:=by omega
    have hr3:¬(r.length:Int)+1+1+1=0:=by omega
    have ho3:=zED (a:=a) (b:=b) (c:=c) (by omega) hm;have hd0:=hd (b::c::r);simp only at hd0
    cases hmay:jX m with
    | false=>
     rw[if_neg (fun q=>by have:=(ho3.2 q).1;rw[hmay]at this;cases this)]at hd0;simp(disch:=omega) [kD,xF,eT,List.getElem?_cons_zero,List.getElem?_cons_succ,aB,wrap_i64,Int.tmod_eq_emod_of_nonneg,g1,g2,hr2,hr3,hm',xX hX,hmay];exact lS hd0
    | true=>
     have ho:=uW hX H m (by simp[jX]at hmay;omega);simp(disch:=omega) [kD,xF,eT,List.getElem?_cons_zero,List.getElem?_cons_succ,aB,wrap_i64,Int.tmod_eq_emod_of_nonneg,g1,g2,hr2,hr3,hm',xX hX,hmay,ho,elems,rD,zU,ht];refine⟨fun h=>lS ?_,fun h=>⟨(m:Int),?_⟩⟩
     ·rw[if_neg (fun q=>h (ho3.2 q).2)]at hd0;exact hd0
     ·rw[if_pos (ho3.1 ⟨hmay,h⟩)]at hd0;rw[hd0];rfl
   ·have g1:(240:Int)<=a.toNat:=by omega
    have hd5:¬a.toNat<0xF5->∀r,cL (a::r)=0:=fun h r=>by unfold cL;simp only;rw[if_neg (by omega),if_neg (by omega),if_neg (by omega),if_neg (by omega),if_neg h]
    have hd:=fun(h:a.toNat<0xF5) r=>Ay (a:=a) (r:=r) (by omega) rfl rfl
    have hs:∀r,(∀b c d t,r≠b::c::d::t)->cL (a::r)=0:=fun r hr=>by
     by_cases h5:a.toNat<0xF5
     ·rw[hd h5]
      split
      ·rename_i b c d t;exact absurd rfl (hr b c d t)
      ·rfl
     ·exact hd5 h5 r
    cases r with
    | nil=>
     simp(disch:=omega) [kD,List.getElem?_cons_zero,aB,wrap_i64,g1];exact lS (hs _ (by simp))
    | cons b r=>
    cases r with
    | nil=>
     simp(disch:=omega) [kD,List.getElem?_cons_zero,aB,wrap_i64,g1];exact lS (hs _ (by simp))
    | cons c r=>
    cases r with
    | nil=>
     simp(disch:=omega) [kD,List.getElem?_cons_zero,aB,wrap_i64,g1];exact lS (hs _ (by simp))
    | cons d r=>
    have lb:=dA b;have lc:=dA c;have ld:=dA d;obtain⟨m,hm⟩:∃m:Nat,m=(((a.toNat-240)*64+b.toNat % 64)*64+c.toNat % 64)*64+d.toNat % 64:=⟨_,rfl⟩;have hm':((((a.toNat:Int)-240)*64+(b.toNat:Int) % 64)*64+(c.toNat:Int) % 64)*64+(d.toNat:Int) % 64=m:=by omega
    have ht:fD (a::b::c::d::r) none (some (.int .i64 4))=some (.str [a,b,c,d]):=D8 (s:=a::b::c::d::r) (k:=4) (by simp);have hr2:¬(r.length:Int)+1+1+1+1<4:=by omega
    have hr3:¬(r.length:Int)+1+1+1+1=0:=by omega
    have ho3:=zEC (a:=a) (b:=b) (c:=c) (d:=d) (by omega) hm;have hd0:cL (a::b::c::d::r)=if jX m=true∧gX m=[a,b,c,d]then 4 else 0:=by
     by_cases h5:a.toNat<0xF5
     ·rw[hd h5]
      simp only[ho3,h5,true_and]
     ·rw[hd5 h5,if_neg (fun q=>h5 (ho3.1 q).1)]
    cases hmay:jX m with
    | false=>
     rw[if_neg (fun q=>by have:=q.1;rw[hmay]at this;cases this)]at hd0;simp(disch:=omega) [kD,xF,eT,List.getElem?_cons_zero,List.getElem?_cons_succ,aB,wrap_i64,Int.tmod_eq_emod_of_nonneg,g1,hr2,hr3,hm',xX hX,hmay];exact lS hd0
    | true=>
     have ho:=uW hX H m (by simp[jX]at hmay;omega);simp(disch:=omega) [kD,xF,eT,List.getElem?_cons_zero,List.getElem?_cons_succ,aB,wrap_i64,Int.tmod_eq_emod_of_nonneg,g1,hr2,hr3,hm',xX hX,hmay,ho,elems,rD,zU,ht];refine⟨fun h=>lS ?_,fun h=>⟨(m:Int),?_⟩⟩
     ·rw[if_neg (fun q=>h q.2)]at hd0;exact hd0
     ·rw[if_pos ⟨hmay,h⟩]at hd0;rw[hd0];rfl
theorem YB(hX:CX X)(H:aA)(s:Bs)(hl:(s.length:Int)<=9223372036854775807):cF X Ko [.str s] H=some (.tup [.int .i64 (iH s),.int .i64 (if sM s then 0 else 61)],H):=by
 refine zL8 hX ?_;simp[Yp];refine cH (fun k e H'=>H'=H∧k<=s.length∧e.get 0=.str s∧e.get 4=.int .i64 k∧iH s=k+iH (s.drop k)) (fun k=>s.length-k) ?_ 0 (by simp);rintro k e H' ⟨rfl,hk,h0,h4,hd⟩ L ih;by_cases h:k<s.length
 ·obtain⟨d,H2,g1,⟨c,rfl⟩,rfl⟩:=FT hX H' (s.drop k)
  by_cases hz:cL (s.drop k)=0
  ·rw[U8 hz]at hd
   simp at hd;have hne':¬k=s.length:=by omega
   simp[Ep,h0,h4,h,xQ (show k<=s.length by omega),g1,aB,hd,hz,sM,hne']
  ·have hle:=Ax (s.drop k)
   simp at hle;rw[AU hz]at hd;have hw:IntKind.i64.wrap ((k:Int)+(cL (s.drop k):Nat))=((k+cL (s.drop k):Nat):Int):=by rw[wrap_i64 (by omega) (by omega)];omega
   simp[Ep,h0,h4,h,xQ (show k<=s.length by omega),g1,hz,hw];refine ih (k+cL (s.drop k)) _ _ (by omega) ?_;simp[h0,hd];omega
 ·obtain rfl:k=s.length:=by omega
  have hb:iH []=0:=U8 rfl;simp[hb]at hd;simp[Ep,h0,h4,aB,hd,sM]
end
section
variable {X:Ctx}
structure LS where
 s:Bs
 at_:Nat
 out:List Token
 on:Bool
 ops:List Int
 opn:Nat
 opb:Bool
 texts:Int
 bad:Int
 place:Int
abbrev LS.r0(x:LS):Chunk:=.row 6 (Token.aC x.out) x.on
abbrev LS.r1(x:LS):Chunk:=.row 1 (x.ops.map (D.int .i64)) x.opb
abbrev LS.bx(x:LS)(b:Nat):Chunk:=.box [.str x.s,.int .i64 x.at_,.osl b (x.out.length*6) 0 x.out.length,.osl (b+1) x.ops.length 0 x.opn,.int .i64 x.texts,.int .i64 x.bad,.int .i64 x.place]
theorem LS.O7 {s:Bs}{a:Nat}{o:List Token}{on:Bool}{ps:List Int}{pn:Nat}{pb:Bool}{t b q:Int}{k:Nat}:LS.bx ⟨s,a,o,on,ps,pn,pb,t,b,q⟩ k=.box [.str s,.int .i64 a,.osl k (o.length*6) 0 o.length,.osl (k+1) ps.length 0 pn,.int .i64 t,.int .i64 b,.int .i64 q]:=rfl
theorem LS.F2 {s:Bs}{a:Nat}{o:List Token}{on:Bool}{ps:List Int}{pn:Nat}{pb:Bool}{t b q:Int}:LS.r0 ⟨s,a,o,on,ps,pn,pb,t,b,q⟩=.row 6 (Token.aC o) on:=rfl
theorem LS.F1 {s:Bs}{a:Nat}{o:List Token}{on:Bool}{ps:List Int}{pn:Nat}{pb:Bool}{t b q:Int}:LS.r1 ⟨s,a,o,on,ps,pn,pb,t,b,q⟩=.row 1 (ps.map (D.int .i64)) pb:=rfl
theorem RR {H l:aA}{k:Nat}:(H++l).take (H.length+k)=H++l.take k:=by rw[List.take_length_add_append]
attribute [simp] LS.O7 LS.F2 LS.F1 RR
structure LS.good(x:LS):Prop where
 len:x.s.length<=65536
 at_:x.at_<=x.s.length+20
 toks:∀t∈x.out,TokOk x.s.length t
 outl:x.out.length<=8192
 on:x.on=true->x.out=[]
 opl:x.ops.length<=x.at_
 opn:x.opn<=x.ops.length
 opb:x.opb=true->x.ops=[]
structure LS.to(x y:LS):Prop where
 s:y.s=x.s
 at_:x.at_<=y.at_
 good:y.good
theorem LS.to.refl {x:LS}(h:x.good):x.to x:=⟨rfl,Nat.le_refl _,h⟩
theorem LS.to.trans {x y z:LS}(h:x.to y)(g:y.to z):x.to z:=⟨g.s.trans h.s,Nat.le_trans h.at_ g.at_,g.good⟩
def LS.fail(x:LS)(a e:Int):LS:=if x.bad=0 then { x with bad:=e,place:=a } else x
theorem LS.iI {x:LS}(h:x.good)(a e:Int):x.to (x.fail a e):=by
 unfold LS.fail;split
 ·exact⟨rfl,Nat.le_refl _,h.len,h.at_,h.toks,h.outl,h.on,h.opl,h.opn,h.opb⟩
 ·exact LS.to.refl h
theorem LS.M6(x:LS)(a e:Int):(x.fail a e).at_=x.at_:=by unfold LS.fail;split <;> rfl
theorem LS.wN {x:LS}(a:Int){e:Int}(he:e≠0):(x.fail a e).bad≠0:=by
 unfold LS.fail;split
 ·exact he
 ·assumption
theorem mW(hX:CX X){x:LS}(hg:x.good)(a e:Int)(G E:aA):cF X jW [.ptr (G.length+2) 0,.int .i64 a,.int .i64 e] (G++(x.r0::x.r1::x.bx G.length::E))=some (.tup [],G++((x.fail a e).r0::(x.fail a e).r1::(x.fail a e).bx G.length::E)):=by
 refine zLY hX ?_;unfold LS.fail;by_cases h:x.bad=0 <;> simp[Xu,aB,h]
def LS.push(x:LS)(t:Token):LS:= { x with out:=x.out++[t],on:=false }
def LS.add(x:LS)(t:Token):LS:=if x.bad=0 then(if x.out.length=8192 then x.fail t.at_ 3 else x.push t)else x
theorem LS.sO {x:LS}(h:x.good){t:Token}(ht:TokOk x.s.length t):x.to (x.add t):=by
 unfold LS.add;split
 ·split
  ·exact LS.iI h _ _
  ·have:=h.outl
   refine⟨rfl,Nat.le_refl _,h.len,h.at_,fun u hu=>?_,?_,fun q=>absurd q (by simp[LS.push]),h.opl,h.opn,h.opb⟩
   ·rcases List.mem_append.1 hu with q | q
    ·exact h.toks u q
    ·rw[List.mem_singleton.1 q];exact ht
   ·simp[LS.push];omega
 ·exact LS.to.refl h
theorem LS.sD(x:LS)(t:Token):(x.add t).at_=x.at_:=by
 unfold LS.add;split
 ·split
  ·exact LS.M6 _ _ _
  ·rfl
 ·rfl
theorem V1 {b i:Nat}{H:aA}{cs:List D}(h:i<b)(hu:D.aD (i+1) cs=true)(ho:D.aF cs=true):storable b H i cs=true:=by
 unfold storable;rw[if_pos h];simp[hu,ho]
theorem apT {b:Nat}{G:aA}{l:aA}{A:List Token}{nk:Bool}(t:Token)(hnk:nk=true->A=[])(hn:A.length<=2000000):cR b (G++(.row 6 (Token.aC A) nk::l)) 6 72 (.osl G.length (A.length*6) 0 A.length) t.cells 1=some (.osl G.length ((A.length+1)*6) 0 (A.length+1),G++(.row 6 (Token.aC (A++[t])) false::l)):=by
 rw[kB (hw:=A.length*6) (es:=6) (bytes:=72) (m:=1) (ys:=t.cells) (cs:=Token.aC A) (nil:=nk) (n:=A.length) (by simp) (by rw[Token.bC]) rfl (fun q=>by rw[hnk q];rfl) (by unfold aX;omega) (by unfold aX;omega) (aH (fun n=>Token.aD t n) (Token.aF t)) (by omega)];congr 2
 ·congr 1;omega
 ·rw[Token.iU];simp[Token.aC]
theorem Token.zM4(x:Token)(l:List D):(x.cells++l).drop 6=l:=List.drop_left' (by simp[Token.aK])
theorem rG(hX:CX X){x:LS}(hg:x.good)(t:Token)(G E:aA):cF X pK [.ptr (G.length+2) 0,.agg t.cells] (G++(x.r0::x.r1::x.bx G.length::E))=some (.tup [],G++((x.add t).r0::(x.add t).r1::(x.add t).bx G.length::E)):=by
 refine zL0 hX ?_;have hf:=fun a=>mW hX hg a 3 G E
 have hbad:=LS.wN (x:=x) t.at_ (e:=3) (by decide);unfold LS.add;by_cases h:x.bad=0
 ·by_cases h8:x.out.length=8192
  ·have h8':(x.out.length:Int)=8192:=by omega
   generalize hfx:x.fail t.at_ 3=y at *;have hf':=hf t.at_;rw[hfx]at hf';simp[T1,aB,h,h8,hf',hbad]
  ·have h8':¬(x.out.length:Int)=8192:=by omega
   have hst:∀(H:aA) (a n:Nat),storable (G.length+(E.length+1+1+1)) H (G.length+2) [.osl G.length a 0 n]=true:=fun H a n=>V1 (by omega) (by simp[Go.AM.D.aD,Go.AM.D.under];omega) (by simp[Go.AM.D.aF,Go.AM.D.one])
   have hap:=fun(b:Nat) (l:aA)=>apT (b:=b) (G:=G) (l:=l) t hg.on (by have:=hg.outl;omega)
   have hel:∀H:aA,elems H 6 (.fsl t.cells 1)=some (t.cells,1):=fun H=>by simp[elems,Token.aK]
   simp[T1,aB,h,h8,h8',hap,hel,LS.push,fW,Token.zM4,hst]
 ·simp[T1,aB,h]
end
section
variable {X:Ctx}
def fB(n:Int):Bool:=(decide (97<=n) && decide (n<=122)) || (decide (65<=n) && decide (n<=90)) || decide (n=95)
def jV(n:Int):Bool:=fB n || (decide (48<=n) && decide (n<=57))
theorem Hk(hX:CX X)(n:Int)(H:aA):cF X tC [.int .u8 n] H=some (.bool (fB n),H):=by
 refine zL1 hX ?_;unfold fB;by_cases h1:97<=n <;> by_cases h2:n<=122 <;> by_cases h3:65<=n <;> by_cases h4:n<=90 <;> by_cases h5:n=95 <;> simp[Xz,aB,h1,h2,h3,h4,h5]
theorem Hi(hX:CX X)(n:Int)(H:aA):cF X I6 [.int .u8 n] H=some (.bool (jV n),H):=by
 refine zLR hX ?_;have hb:=Hk hX n;unfold jV
 cases hb0:fB n <;> by_cases h1:48<=n <;> by_cases h2:n<=57 <;> simp[Xg,aB,hb,hb0,h1,h2]
def LS.ahead(x:LS)(k:Nat):Int:=if h:k<x.s.length then(x.s[k].toNat:Int)else 0
theorem Y2(hX:CX X){x:LS}(k:Nat)(G E:aA):cF X rL [.ptr (G.length+2) 0,.int .i64 k] (G++(x.r0::x.r1::x.bx G.length::E))=some (.int .u8 (x.ahead k),G++(x.r0::x.r1::x.bx G.length::E)):=by
 refine zLZ hX ?_;unfold LS.ahead;by_cases h:k<x.s.length
 ·have h':(k:Int)<x.s.length:=by omega
  simp[En,aB,h,h']
 ·have h':¬(k:Int)<x.s.length:=by omega
  simp[En,aB,h,h']
theorem uJ {s:Bs}{k i:Nat}(h1:k<=i)(h2:i<=s.length):fD s (some (.int .i64 (k:Int))) (some (.int .i64 (i:Int)))=some (.str ((s.take i).drop k)):=VS h2 h1
def iG:Bs->Bs
 | []=>[]
 | c::r=>if jV c.toNat then c::iG r else []
theorem AE:∀s,(iG s).length<=s.length
 | []=>by simp[iG]
 | c::r=>by have:=AE r;simp only[iG];split <;> simp <;> omega
theorem YQ(hX:CX X){x:LS}(hg:x.good)(k:Nat)(hk:k<=x.s.length)(G E:aA):cF X Ki [.ptr (G.length+2) 0,.int .i64 k] (G++(x.r0::x.r1::x.bx G.length::E))=some (.str (iG (x.s.drop k)),G++(x.r0::x.r1::x.bx G.length::E)):=by
 refine zLS hX ?_;have hlen:=hg.len;simp[Xi];refine cH (fun(i:Nat) e H'=>H'=G++(x.r0::x.r1::x.bx G.length::E)∧k<=i∧i<=x.s.length∧e.get 0=.ptr (G.length+2) 0∧e.get 1=.int .i64 k∧e.get 5=.int .i64 i∧iG (x.s.drop k)=(x.s.take i).drop k++iG (x.s.drop i)) (fun i=>x.s.length-i) ?_ k (by simp[hk]);rintro i e H' ⟨rfl,hi1,hi2,g0,g1,g5,hw⟩ L ih;have w1:IntKind.i64.wrap ((i:Int)+1)=(i:Int)+1:=wI;have hpt:=fun n H=>Hi hX n H
 by_cases h:i<x.s.length
 ·have h':(i:Int)<x.s.length:=by omega
  rw[List.drop_eq_getElem_cons h,iG]at hw
  cases hp:jV (x.s[i].toNat:Int)with
  | true=>
   rw[hp,if_pos rfl]at hw;simp[Em,g0,g1,g5,h,h',hpt,hp,w1];refine ih (i+1) _ _ (by omega) ?_;simp[g0,g1];refine⟨by omega,by omega,?_⟩;rw[hw,List.take_succ_eq_append_getElem h,List.drop_append_of_le_length (by simp;omega)];simp
  | false=>
   rw[hp,if_neg (by simp),List.append_nil]at hw;have hsl:fD x.s (some (.int .i64 k)) (some (.int .i64 i))=some (.str ((x.s.take i).drop k)):=uJ hi1 hi2;simp[Em,aB,g0,g1,g5,h,h',hpt,hp,hsl,hw]
 ·obtain rfl:i=x.s.length:=by omega
  simp[iG]at hw;have hsl:fD x.s (some (.int .i64 k)) (some (.int .i64 x.s.length))=some (.str (x.s.drop k)):=by rw[uJ hk (Nat.le_refl _),List.take_length]
  simp[Em,aB,g0,g1,g5,hsl,hw]
end
section
variable {X:Ctx}
theorem GB(hX:CX X)(t:Bs):∃b:Bool,∀H,cF X r7 [.str t] H=some (.bool b,H):=by
 obtain⟨l,hle⟩:∃l:List (Bs),l=[[116,101,120,116],[106,115,111,110],[98,97,115,101,54,52],[98,97,115,101,54,52,100],[117,114,105],[104,116,109,108],[99,115,118],[116,115,118],[115,104]]:=⟨_,rfl⟩;refine⟨decide (t∈l),fun H=>?_⟩;have hl:l.length=9:=by rw[hle];rfl
 have hd:(l.map D.str)=[.str [116,101,120,116],.str [106,115,111,110],.str [98,97,115,101,54,52],.str [98,97,115,101,54,52,100],.str [117,114,105],.str [104,116,109,108],.str [99,115,118],.str [116,115,118],.str [115,104]]:=by rw[hle];rfl
 have hn:∀H:aA,cF X Km [] H=some (.fsl (l.map D.str) 9,H):=fun H=>by
  rw[hd];refine zL5 hX ?_;simp[Yj,aB,AB]
 refine zL4 hX ?_;simp[Yg,hn];refine cH (fun(k:Nat) e H'=>H'=H∧k<=l.length∧e.get 0=.str t∧e.get 3=SL .full (l.map D.str) l.length∧e.get 4=.int .i64 k∧(t∈l↔t∈l.drop k)) (fun k=>l.length-k) ?_ 0 (by rw[hl];simp[SL]);have hb:l.length<=100:=by rw[hl];decide
 clear hd hle hl hn;rintro k e H' ⟨rfl,hk,g0,g3,g4,hc⟩ L ih;have w1:IntKind.i64.wrap ((k:Int)+1)=(k:Int)+1:=wI;by_cases h:k<l.length
 ·have h':(k:Int)<l.length:=by omega
  have hl1:aJ false 1 (List.drop k (l.map D.str))=some (.str l[k]):=by rw[List.drop_eq_getElem_cons (by simpa using h)];simp[aJ]
  by_cases q:l[k]=t
  ·have:t∈l:=q ▸ List.getElem_mem h
   simp[Eo,aB,g0,g3,g4,h,h',hl1,q,this]
  ·rw[List.drop_eq_getElem_cons h,List.mem_cons]at hc
   simp[Eo,g0,g3,g4,h,h',hl1,q,w1];refine ih (k+1) _ _ (by omega) ?_;simp[g0,g3];exact⟨by omega,hc.trans ⟨fun x=>x.resolve_left fun y=>q y.symm,.inr⟩⟩
 ·obtain rfl:k=l.length:=by omega
  simp at hc;simp[Eo,aB,g0,g3,g4,hc]
def LS.at'(x:LS)(k:Nat):LS:= { x with at_:=k }
theorem LS.jT {x:LS}(h:x.good){k:Nat}(h1:x.at_<=k)(h2:k<=x.s.length+20):x.to (x.at' k):=⟨rfl,h1,h.len,h2,h.toks,h.outl,h.on,Nat.le_trans h.opl h1,h.opn,h.opb⟩
def dJ(k:Int)(t:Bs)(a:Int):Token:=.mk k t dN a
theorem sN(k:Int)(t:Bs)(a:Int):(dJ k t a).cells=[.int .i64 k,.str t,.bool false,.nilsl,.int .i64 0,.int .i64 a]:=by simp[dJ,dN,Token.cells,Dec.cells,SL]
theorem uI {m k a:Int}{t:Bs}(ht:t.length<=1000000)(h0:0<=a)(h1:a<=m):TokOk m (dJ k t a):=⟨ht,rW,h0,h1⟩
def xI(X:Ctx)(f:Nat)(args:List D)(x:LS)(P:LS->Prop):Prop:=∃y:LS,x.to y∧P y∧∀G E:aA,cF X f (.ptr (G.length+2) 0::args) (G++(x.r0::x.r1::x.bx G.length::E))=some (.tup [],G++(y.r0::y.r1::y.bx G.length::E))
theorem Y0(hX:CX X){x:LS}(hg:x.good)(kind:Int)(from_ k:Nat)(h1:from_<=x.s.length)(h2:x.at_<=k)(h3:k<=x.s.length):xI X vN [.int .i64 kind,.int .i64 from_,.int .i64 k] x (fun y=>y.at_=k+(iG (x.s.drop k)).length):=by
 have hlen:=hg.len;have hw:=fun G E=>YQ hX hg k h3 G E
 have hwl:=AE (x.s.drop k);rw[List.length_drop]at hwl;generalize iG (x.s.drop k)=w at *;obtain⟨b,hb⟩:=GB hX w;obtain⟨n,hn⟩:∃n,n=k+w.length:=⟨_,rfl⟩;rw[← hn];have k1:=LS.jT hg (k:=n) (by omega) (by omega);have w1:IntKind.i64.wrap ((k:Int)+(w.length:Int))=(n:Int):=by rw[wrap_i64 (by omega) (by omega)];omega
 have key:∀y2:LS,x.to y2->y2.at_=n->(∀G E:aA,YS X (G++(x.r0::x.r1::x.bx G.length::E)).length none xE [] ⟨Env.nil.dL 0 [.ptr (G.length+2) 0,.int .i64 kind,.int .i64 from_,.int .i64 k],G++(x.r0::x.r1::x.bx G.length::E),[]⟩ (fO [] none (G++(x.r0::x.r1::x.bx G.length::E)).length (.tup [],G++((y2.add (dJ kind w from_)).r0::(y2.add (dJ kind w from_)).r1::(y2.add (dJ kind w from_)).bx G.length::E))))->xI X vN [.int .i64 kind,.int .i64 from_,.int .i64 k] x (fun y=>y.at_=n):=fun y2 k2 hy2 h=>by
  have ht:TokOk y2.s.length (dJ kind w from_):=uI (by omega) (by omega) (by rw[k2.s];omega);refine⟨_,k2.trans (LS.sO k2.good ht),by show(y2.add _).at_=n;rw[LS.sD,hy2],fun G E=>?_⟩;exact zLW hX (h G E)
 by_cases hq:64<w.length∨(kind=6∧b=false)
 ·have k2:=k1.trans (LS.iI k1.good from_ 31)
  have hf:=fun G E=>mW hX k1.good from_ 31 G E
  have ha:=fun G E=>rG hX k2.good (dJ kind w from_) G E
  refine key _ k2 (by rw[LS.M6];rfl) fun G E=>?_
  rw[sN]at ha;generalize((x.at' n).fail from_ 31).add (dJ kind w from_)=y3 at *;generalize(x.at' n).fail from_ 31=y2 at *;simp only[LS.at']at hf;by_cases h64:64<w.length
  ·have h64':(64:Int)<w.length:=by omega
   simp[xE,aB,hw,w1,h64,h64',hf,ha,fW]
  ·have h64':¬(64:Int)<w.length:=by omega
   obtain⟨rfl,rfl⟩:=hq.resolve_left h64;simp[xE,aB,hw,w1,h64,h64',hb,hf,ha,fW]
 ·have ha:=fun G E=>rG hX k1.good (dJ kind w from_) G E
  refine key _ k1 rfl fun G E=>?_
  rw[sN]at ha;generalize(x.at' n).add (dJ kind w from_)=y3 at *;simp only[LS.at']at ha;have h64:¬64<w.length:=fun h=>hq (Or.inl h)
  have h64':¬(64:Int)<w.length:=by omega
  by_cases h6:kind=6
  ·subst h6
   obtain rfl:b=true:=by
    cases b with
    | true=>rfl
    | false=>exact absurd (Or.inr ⟨rfl,rfl⟩) hq
   simp[xE,aB,hw,w1,h64,h64',hb,ha,fW]
  ·simp[xE,aB,hw,w1,h64,h64',h6,hb,ha,fW]
end
section
variable {X:Ctx}
def fY:List (Bs):=[[63,47,47],[47,47,61],[46,46],[124,61],[43,61],[45,61],[42,61],[47,61],[37,61],[61,61],[33,61],[60,61],[62,61],[47,47],[46],[91],[93],[40],[41],[123],[125],[124],[44],[58],[59],[61],[60],[62],[43],[45],[42],[47],[37],[63]]
theorem VX:fY.map D.str=[.str [63,47,47],.str [47,47,61],.str [46,46],.str [124,61],.str [43,61],.str [45,61],.str [42,61],.str [47,61],.str [37,61],.str [61,61],.str [33,61],.str [60,61],.str [62,61],.str [47,47],.str [46],.str [91],.str [93],.str [40],.str [41],.str [123],.str [125],.str [124],.str [44],.str [58],.str [59],.str [61],.str [60],.str [62],.str [43],.str [45],.str [42],.str [47],.str [37],.str [63]]:=rfl
theorem Gx:∀t∈fY,1<=t.length∧t.length<=3:=by decide
theorem GA(hX:CX X)(H:aA):cF X q8 [] H=some (.fsl (fY.map D.str) 34,H):=by
 rw[VX];refine zL3 hX ?_;simp[Ye,aB,AD]
def LS.hit(x:LS)(t:Bs):Bool:=decide (t.length<=x.s.length-x.at_) && decide ((x.s.take (x.at_+t.length)).drop x.at_=t)
def LS.signed(x:LS):LS:=match fY.find? x.hit with
 | some t=>(x.add (dJ 4 t x.at_)).at' (x.at_+t.length)
 | none=>x.fail x.at_ 32
theorem Hh(hX:CX X){x:LS}(hg:x.good)(hlt:x.at_<x.s.length):xI X Kj [] x (fun y=>y.bad≠0∨x.at_<y.at_):=by
 have hlen:=hg.len;have hone:∀t,fY.find? x.hit=some t->t∈fY∧x.hit t=true:=fun t h=>⟨List.mem_of_find?_eq_some h,List.find?_some h⟩
 refine⟨x.signed,?_,?_,fun G E=>?_⟩
 ·unfold LS.signed
  split
  ·rename_i t ht
   obtain⟨h1,h2⟩:=hone t ht;have:=Gx t h1;have k1:=LS.sO hg (t:=dJ 4 t x.at_) (uI (by omega) (by omega) (by omega));have k2:=LS.jT k1.good (k:=x.at_+t.length) (by rw[LS.sD];omega) (by rw[k1.s];omega);exact k1.trans k2
  ·exact LS.iI hg _ _
 ·unfold LS.signed
  split
  ·rename_i t ht
   obtain⟨h1,h2⟩:=hone t ht;have:=Gx t h1;exact Or.inr (by show _<x.at_+t.length;omega)
  ·exact Or.inl (LS.wN _ (by decide))
 refine zLU hX ?_;have hsg:=GA hX;have hf:=mW hX hg x.at_ 32 G E;simp[Xm,hsg];have h34:fY.length=34:=rfl;refine cH (fun(k:Nat) e H'=>H'=G++(x.r0::x.r1::x.bx G.length::E)∧k<=fY.length∧e.get 0=.ptr (G.length+2) 0∧e.get 2=SL .full (fY.map D.str) fY.length∧e.get 3=.int .i64 k∧(fY.drop k).find? x.hit=fY.find? x.hit) (fun k=>fY.length-k) ?_ 0 (by rw[h34];simp[SL]);have hok:=Gx;unfold LS.signed;generalize fY=l at *;rintro k e H' ⟨rfl,hk,g0,g2,g3,hc⟩ L ih;have w1:IntKind.i64.wrap ((k:Int)+1)=(k:Int)+1:=wI;by_cases h:k<l.length
 ·have h':(k:Int)<l.length:=by omega
  have hl1:aJ false 1 (List.drop k (l.map D.str))=some (.str l[k]):=by rw[List.drop_eq_getElem_cons (by simpa using h)];simp[aJ]
  have hlk:=hok _ (List.getElem_mem h);rw[List.drop_eq_getElem_cons h,List.find?_cons]at hc;generalize l[k]=t at *;have w2:IntKind.i64.wrap ((x.s.length:Int)-(x.at_:Int))=((x.s.length-x.at_:Nat):Int):=by rw[wrap_i64 (by omega) (by omega)];omega
  obtain⟨n,hn⟩:∃n,n=x.at_+t.length:=⟨_,rfl⟩;have w3:IntKind.i64.wrap ((x.at_:Int)+(t.length:Int))=(n:Int):=by rw[wrap_i64 (by omega) (by omega)];omega
  cases hh:x.hit t with
  | true=>
   rw[hh]at hc;simp only at hc;rw[← hc];simp only;have hh':=hh;unfold LS.hit at hh';simp only[Bool.and_eq_true,decide_eq_true_eq]at hh';rw[← hn]at hh' ⊢;have h1':(t.length:Int)<=((x.s.length-x.at_:Nat):Int):=by omega
   have hsl:fD x.s (some (.int .i64 x.at_)) (some (.int .i64 n))=some (.str t):=by rw[uJ (by omega) (by omega),hh'.2]
   have ha:=rG hX hg (dJ 4 t x.at_) G E;rw[sN]at ha;generalize hy:x.add (dJ 4 t x.at_)=y at *;have hya:y.at_=x.at_:=by rw[← hy,LS.sD]
   simp[S9,aB,g0,g2,g3,h,h',hl1,w2,w3,h1',hsl,ha,hya,fW,LS.at',aQ,aR,aS,aT,aO,aP, -aN]
  | false=>
   rw[hh]at hc;simp only at hc;unfold LS.hit at hh;rw[← hn]at hh;by_cases hle:t.length<=x.s.length-x.at_
   ·have h1':(t.length:Int)<=((x.s.length-x.at_:Nat):Int):=by omega
    have hne:(x.s.take n).drop x.at_≠t:=by
     intro q;simp[hle,q]at hh
    have hsl:fD x.s (some (.int .i64 x.at_)) (some (.int .i64 n))=some (.str ((x.s.take n).drop x.at_)):=uJ (by omega) (by omega);generalize(x.s.take n).drop x.at_=u at *;simp[S9,g0,g2,g3,h,h',hl1,w1,w2,w3,h1',hsl,hne];refine ih (k+1) _ _ (by omega) ?_;simp[g0,g2,hc];omega
   ·have h1':¬(t.length:Int)<=((x.s.length-x.at_:Nat):Int):=by omega
    simp[S9,g0,g2,g3,h,h',hl1,w1,w2,h1'];refine ih (k+1) _ _ (by omega) ?_;simp[g0,g2,hc];omega
 ·obtain rfl:k=l.length:=by omega
  simp at hc;rw[← hc];generalize x.fail x.at_ 32=y at *;simp[S9,aB,g0,g2,g3,hf]
end
section
variable {X:Ctx}
def nN(c:Int):Option Int:=if 48<=c∧c<=57 then some (c-48)else if 97<=c∧c<=102 then some (c-97+10)else if 65<=c∧c<=70 then some (c-65+10)else none
def LS.tH(x:LS):Nat->Nat->Nat->Option Nat
 | 0,_,n=>some n
 | k+1,i,n=>match nN (x.ahead i)with
  | some d=>x.tH k (i+1) (16*n+d.toNat)
  | none=>none
theorem zHk {c d:Int}(h:nN c=some d):0<=d∧d<16∧c≠0:=by
 unfold nN at h;split at h
 ·simp at h;omega
 ·split at h
  ·simp at h;omega
  ·split at h
   ·simp at h;omega
   ·simp at h
theorem LS.zNa {x:LS}{i:Nat}(h:x.ahead i≠0):i<x.s.length:=by
 unfold LS.ahead at h;split at h
 ·assumption
 ·exact absurd rfl h
theorem LS.JH {x:LS}:∀(k i n r:Nat),x.tH k i n=some r->(k≠0->i+k<=x.s.length)∧r<(n+1)*16 ^ k
 | 0,i,n,r,h=>by simp[LS.tH]at h;subst h;simp
 | k+1,i,n,r,h=>by
  rw[LS.tH]at h;split at h
  ·rename_i d hd
   obtain⟨h1,h2,h3⟩:=zHk hd;have hi:=LS.zNa h3;obtain⟨q1,q2⟩:=LS.JH k (i+1) _ r h;refine⟨fun _=>?_,Nat.lt_of_lt_of_le q2 ?_⟩
   ·rcases Nat.eq_zero_or_pos k with rfl | hk
    ·omega
    ·have:=q1 (by omega);omega
   ·rw[Nat.pow_succ,Nat.mul_comm (16 ^ k) 16, ← Nat.mul_assoc]
    exact Nat.mul_le_mul_right _ (by omega)
  ·simp at h
theorem LS.OA(x:LS)(i:Nat):0<=x.ahead i∧x.ahead i<256:=by
 unfold LS.ahead;split
 ·have:=(x.s[i]).toNat_lt;omega
 ·omega
set_option maxHeartbeats 1000000 in
theorem FY(hX:CX X){x:LS}(hg:x.good)(k:Nat)(hk:k<=1000000):∃(n:Nat) (b:Bool),(b=true->n<65536∧k+4<=x.s.length)∧∀G E:aA,cF X q7 [.ptr (G.length+2) 0,.int .i64 k] (G++(x.r0::x.r1::x.bx G.length::E))=some (.tup [.int .i64 n,.bool b],G++(x.r0::x.r1::x.bx G.length::E)):=by
 obtain⟨o,ho⟩:∃o,o=x.tH 4 k 0:=⟨_,rfl⟩;refine⟨o.getD 0,o.isSome,fun hb=>?_,fun G E=>?_⟩
 ·cases o with
  | none=>simp at hb
  | some r=>
   obtain⟨h1,h2⟩:=LS.JH 4 k 0 r ho.symm;exact⟨by simpa using h2,h1 (by decide)⟩
 refine zLX hX ?_;have hw4:IntKind.i64.wrap ((k:Int)+4)=(k:Int)+4:=wI;have hah:=fun j=>Y2 hX (x:=x) j G E
 simp[Xs];refine cH (fun(q:Nat×Nat×Nat) e H'=>H'=G++(x.r0::x.r1::x.bx G.length::E)∧q.1<=4∧q.2.1=k+q.1∧q.2.2<16 ^ q.1∧e.get 0=.ptr (G.length+2) 0∧e.get 1=.int .i64 k∧e.get 6=.int .i64 q.2.2∧e.get 7=.int .i64 q.2.1∧x.tH (4-q.1) q.2.1 q.2.2=o) (fun q=>4-q.1) ?_ (0,k,0) (by simp[ho]);rintro⟨j,i,n⟩ e H' ⟨rfl,hj,hi,hn,g0,g1,g6,g7,hc⟩ L ih;simp only at hj hi hn g6 g7 hc ih;have hp4:16 ^ j<=16 ^ 4:=Nat.pow_le_pow_right (by decide) hj;simp only[Nat.reducePow]at hp4;obtain⟨i1,hi1⟩:∃i1,i1=i+1:=⟨_,rfl⟩;have w1:IntKind.i64.wrap ((i:Int)+1)=(i1:Int):=by rw[wrap_i64 (by omega) (by omega)];omega
 by_cases h:j<4
 ·have h':(i:Int)<(k:Int)+4:=by omega
  have hb:=x.OA i;obtain⟨m,hm⟩:∃m,4-j=m+1:=⟨3-j,by omega⟩;have hm2:3-j=m:=by omega
  rw[hm,LS.tH]at hc;have hai:=hah i;generalize x.ahead i=c at *;have w16:IntKind.i64.wrap (16*(n:Int))=16*(n:Int):=wI;have hp1:16 ^ (j+1)=16*16 ^ j:=by rw[Nat.pow_succ,Nat.mul_comm]
  by_cases h0:48<=c∧c<=57
  ·have hd:nN c=some (c-48):=by unfold nN;rw[if_pos h0]
   rw[hd]at hc;obtain⟨N,hN⟩:∃N:Nat,N=16*n+(c-48).toNat:=⟨_,rfl⟩;simp only[← hN, ← hi1]at hc;have wu:IntKind.u8.wrap (c-48)=c-48:=wrap_u8 (by omega) (by omega);have wv:IntKind.i64.wrap (c-48)=c-48:=wI;have wa:IntKind.i64.wrap (16*(n:Int)+(c-48))=(N:Int):=by rw[wrap_i64 (by omega) (by omega)];omega
   simp[sH,g0,g1,g6,g7,h',hw4,hai,h0.1,h0.2,w16,wu,wv,wa,w1];refine ih (j+1,i1,N) _ _ (by simp;omega) ?_;simp[g0,g1];rw[hm2];refine⟨by omega,by omega,?_,hc⟩;rw[hp1];omega
  by_cases h1:97<=c∧c<=102
  ·have hd:nN c=some (c-97+10):=by unfold nN;rw[if_neg h0,if_pos h1]
   rw[hd]at hc;obtain⟨N,hN⟩:∃N:Nat,N=16*n+(c-97+10).toNat:=⟨_,rfl⟩;simp only[← hN, ← hi1]at hc;have wu:IntKind.u8.wrap (c-97)=c-97:=wrap_u8 (by omega) (by omega);have wv:IntKind.i64.wrap (c-97)=c-97:=wI;have wa:IntKind.i64.wrap (16*(n:Int)+(c-97))=16*(n:Int)+(c-97):=wI;have wb:IntKind.i64.wrap (16*(n:Int)+(c-97)+10)=(N:Int):=by rw[wrap_i64 (by omega) (by omega)];omega
   have e0:¬(48<=c)∨ ¬(c<=57):=by omega
   have u0:48<=c:=by omega
   have v0:¬c<=57:=by omega
   simp[sH,g0,g1,g6,g7,h',hw4,hai,u0,v0,h1.1,h1.2,w16,wu,wv,wa,wb,w1];refine ih (j+1,i1,N) _ _ (by simp;omega) ?_;simp[g0,g1];rw[hm2];refine⟨by omega,by omega,?_,hc⟩;rw[hp1];omega
  by_cases h2:65<=c∧c<=70
  ·have hd:nN c=some (c-65+10):=by unfold nN;rw[if_neg h0,if_neg h1,if_pos h2]
   rw[hd]at hc;obtain⟨N,hN⟩:∃N:Nat,N=16*n+(c-65+10).toNat:=⟨_,rfl⟩;simp only[← hN, ← hi1]at hc;have wu:IntKind.u8.wrap (c-65)=c-65:=wrap_u8 (by omega) (by omega);have wv:IntKind.i64.wrap (c-65)=c-65:=wI;have wa:IntKind.i64.wrap (16*(n:Int)+(c-65))=16*(n:Int)+(c-65):=wI;have wb:IntKind.i64.wrap (16*(n:Int)+(c-65)+10)=(N:Int):=by rw[wrap_i64 (by omega) (by omega)];omega
   have e0:¬(48<=c)∨ ¬(c<=57):=by omega
   have e1:¬(97<=c)∨ ¬(c<=102):=by omega
   have u0:48<=c:=by omega
   have v0:¬c<=57:=by omega
   have u1:¬97<=c:=by omega
   simp[sH,g0,g1,g6,g7,h',hw4,hai,u0,v0,u1,h2.1,h2.2,w16,wu,wv,wa,wb,w1];refine ih (j+1,i1,N) _ _ (by simp;omega) ?_;simp[g0,g1];rw[hm2];refine⟨by omega,by omega,?_,hc⟩;rw[hp1];omega
  have hd:nN c=none:=by unfold nN;rw[if_neg h0,if_neg h1,if_neg h2]
  rw[hd]at hc;simp only at hc;rw[← hc];by_cases a1:48<=c
  ·have a2:¬c<=57:=fun q=>h0 ⟨a1,q⟩
   by_cases a3:97<=c
   ·have a4:¬c<=102:=fun q=>h1 ⟨a3,q⟩
    have a5:65<=c:=by omega
    have a6:¬c<=70:=by omega
    simp[sH,aB,g0,g1,g6,g7,h',hw4,hai,a1,a2,a3,a4,a5,a6]
   ·by_cases a5:65<=c
    ·have a6:¬c<=70:=fun q=>h2 ⟨a5,q⟩
     simp[sH,aB,g0,g1,g6,g7,h',hw4,hai,a1,a2,a3,a5,a6]
    ·simp[sH,aB,g0,g1,g6,g7,h',hw4,hai,a1,a2,a3,a5]
  ·have a3:¬97<=c:=by omega
   have a5:¬65<=c:=by omega
   simp[sH,aB,g0,g1,g6,g7,h',hw4,hai,a1,a3,a5]
 ·obtain rfl:j=4:=by omega
  simp[LS.tH]at hc;have h':¬(i:Int)<(k:Int)+4:=by omega
  simp[sH,aB,g0,g1,g6,g7,h',hw4, ← hc]
end
section
variable {X:Ctx}
theorem yD(n:Nat):1<=(gX n).length∧(gX n).length<=4:=by
 unfold gX;split
 ·simp
 ·split
  ·simp
  ·split <;> simp
theorem B7 {f:Nl}{cs:List D}{n:Nat}(h:1<=n):SL f cs n=.fsl cs n:=by
 obtain⟨m,rfl⟩:∃m,n=m+1:=⟨n-1,by omega⟩;rfl
def Zt(X:Ctx)(x:LS):Prop:=∃(y:LS) (bs:Bs),x.to y∧(y.bad≠0∨x.at_<y.at_)∧bs.length<=4∧∀G E:aA,cF X Kk [.ptr (G.length+2) 0] (G++(x.r0::x.r1::x.bx G.length::E))=some (SL .nil (aZ bs) bs.length,G++(y.r0::y.r1::y.bx G.length::E))
theorem hT {c:Int}(h0:c≠34)(h1:c≠92)(h2:c≠47)(h3:c≠98)(h4:c≠102)(h5:c≠110)(h6:c≠114)(h7:c≠116){b:Nat}{K:List Fr}{Q:Ex->St->Prop}{H:aA}{env:Env}(g3:env.get 3=.str [34,92,47,98,102,110,114,116])(g5:env.get 5=.int .u8 c)(g6:env.get 6=.int .i64 0)(hk:∀env':Env,(∀k,k<6->env'.get k=env.get k)->YX X b none (.exit 0) K ⟨env',H,[]⟩ Q):YS X b none (.loop oH) K ⟨env,H,[]⟩ Q:=by
 have w:∀i:Int,0<=i->i<100->IntKind.i64.wrap i=i:=fun i h h'=>wrap_i64 (by omega) (by omega)
 simp[oH,eT,g3,g5,g6,h0,h1,h2,h3,h4,h5,h6,h7,w];refine hk _ fun k hk'=>?_
 have:k=0∨k=1∨k=2∨k=3∨k=4∨k=5:=by omega
 rcases this with rfl | rfl | rfl | rfl | rfl | rfl <;> simp
set_option maxHeartbeats 4000000 in
theorem YU(hX:CX X){x:LS}(hg:x.good)(hlt:x.at_<x.s.length):Zt X x:=by
 have hlen:=hg.len;have w:∀i:Int,0<=i->i<100->IntKind.i64.wrap i=i:=fun i h h'=>wrap_i64 (by omega) (by omega)
 obtain⟨a1,ha1⟩:∃a1,a1=x.at_+1:=⟨_,rfl⟩;have v1:IntKind.i64.wrap ((x.at_:Int)+1)=(a1:Int):=by rw[wrap_i64 (by omega) (by omega)];omega
 obtain⟨a2,ha2⟩:∃a2,a2=x.at_+2:=⟨_,rfl⟩;have v2:IntKind.i64.wrap ((x.at_:Int)+2)=(a2:Int):=by rw[wrap_i64 (by omega) (by omega)];omega
 obtain⟨a6,ha6⟩:∃a6,a6=x.at_+6:=⟨_,rfl⟩;have v6:IntKind.i64.wrap ((x.at_:Int)+6)=(a6:Int):=by rw[wrap_i64 (by omega) (by omega)];omega
 obtain⟨a7,ha7⟩:∃a7,a7=x.at_+7:=⟨_,rfl⟩;have v7:IntKind.i64.wrap ((x.at_:Int)+7)=(a7:Int):=by rw[wrap_i64 (by omega) (by omega)];omega
 obtain⟨a8,ha8⟩:∃a8,a8=x.at_+8:=⟨_,rfl⟩;have v8:IntKind.i64.wrap ((x.at_:Int)+8)=(a8:Int):=by rw[wrap_i64 (by omega) (by omega)];omega
 obtain⟨a12,ha12⟩:∃a12,a12=x.at_+12:=⟨_,rfl⟩;have v12:IntKind.i64.wrap ((x.at_:Int)+12)=(a12:Int):=by rw[wrap_i64 (by omega) (by omega)];omega
 have hah:=fun(G E:aA) (j:Nat)=>Y2 hX (x:=x) j G E
 have h1:=fun G E=>hah G E a1
 generalize hc:x.ahead a1=c at *;have simple:∀(o:UInt8),(∀G E:aA,YS X (G++(x.r0::x.r1::x.bx G.length::E)).length none eD [] ⟨Env.nil.dL 0 [.ptr (G.length+2) 0],G++(x.r0::x.r1::x.bx G.length::E),[]⟩ (fO [.tmp 2] none (G++(x.r0::x.r1::x.bx G.length::E)).length (.fsl [.int .u8 o.toNat] 1,G++((x.at' a2).r0::(x.at' a2).r1::(x.at' a2).bx G.length::E))))->Zt X x:=fun o h=>⟨x.at' a2,[o],LS.jT hg (by omega) (by omega),Or.inr (by show x.at_<a2;omega),by simp,fun G E=>gS hX (h G E)⟩
 by_cases c0:c=34
 ·refine simple 34 fun G E=>?_
  simp[eD,oH,eT,aB,v1,h1,c0,w,v2,z12,LS.at']
 by_cases c1:c=92
 ·refine simple 92 fun G E=>?_
  simp[eD,oH,eT,aB,v1,h1,c1,w,v2,z12,LS.at']
 by_cases c2:c=47
 ·refine simple 47 fun G E=>?_
  simp[eD,oH,eT,aB,v1,h1,c2,w,v2,z12,LS.at']
 by_cases c3:c=98
 ·refine simple 8 fun G E=>?_
  simp[eD,oH,eT,aB,v1,h1,c3,w,v2,z12,LS.at']
 by_cases c4:c=102
 ·refine simple 12 fun G E=>?_
  simp[eD,oH,eT,aB,v1,h1,c4,w,v2,z12,LS.at']
 by_cases c5:c=110
 ·refine simple 10 fun G E=>?_
  simp[eD,oH,eT,aB,v1,h1,c5,w,v2,z12,LS.at']
 by_cases c6:c=114
 ·refine simple 13 fun G E=>?_
  simp[eD,oH,eT,aB,v1,h1,c6,w,v2,z12,LS.at']
 by_cases c7:c=116
 ·refine simple 9 fun G E=>?_
  simp[eD,oH,eT,aB,v1,h1,c7,w,v2,z12,LS.at']
 obtain⟨n,ok,hn1,hx1⟩:=FY hX hg a2 (by omega);obtain⟨low,more,hn2,hx2⟩:=FY hX hg a8 (by omega);have h6:=fun G E=>hah G E a6
 have h7:=fun G E=>hah G E a7
 generalize x.ahead a6=d6 at *;generalize x.ahead a7=d7 at *;have hbd:=x.OA a1;have f8:=fun G E=>mW hX hg x.s.length 8 G E
 have f32:=fun G E=>mW hX hg x.at_ 32 G E
 have bad8:Zt X x∨ ¬x.s.length<=a1:=by
  by_cases hl:x.s.length<=a1
  ·refine Or.inl ⟨x.fail x.s.length 8,[],LS.iI hg _ _,Or.inl (LS.wN _ (by decide)),by simp,fun G E=>?_⟩
   have hl':(x.s.length:Int)<=(a1:Int):=by omega
   have hno:ok=false:=by
    cases ok with
    | false=>rfl
    | true=>have:=(hn1 rfl).2;omega
   have f8':=f8 G E;generalize x.fail x.s.length 8=y at *;refine gS hX ?_;simp[eD,v1,h1];refine hT c0 c1 c2 c3 c4 c5 c6 c7 ?_ ?_ ?_ fun env' j=>?_
   ·simp
   ·simp
   ·simp
   have j0:=j 0 (by decide);have j5:=j 5 (by decide);simp at j0 j5;simp[aB,j0,j5,v2,v6,v7,v8,hx1,hx2,h6,h7,hno,v1,hl,hl',f8',SL,aZ]
  ·exact Or.inr hl
 rcases bad8 with h | hl
 ·exact h
 have hl':¬(x.s.length:Int)<=(a1:Int):=by omega
 have f32y:x.to (x.fail x.at_ 32)∧(x.fail x.at_ 32).bad≠0:=⟨LS.iI hg _ _,LS.wN _ (by decide)⟩;have hi1:((55296:Int)<=(n:Int))=(55296<=n):=by apply propext;omega
 have hi2:((n:Int)<=56319)=(n<=56319):=by apply propext;omega
 have hi3:((n:Int)<=57343)=(n<=57343):=by apply propext;omega
 have hi4:((56320:Int)<=(low:Int))=(56320<=low):=by apply propext;omega
 have hi5:((low:Int)<=57343)=(low<=57343):=by apply propext;omega
 by_cases hu:c=117
 rotate_left
 ·have hno:=hu
  by_cases t_ok:ok=true
  rotate_left
  ·refine⟨x.fail x.at_ 32,[],f32y.1,Or.inl f32y.2,by simp,fun G E=>?_⟩
   have f32':=f32 G E;generalize x.fail x.at_ 32=y at *;refine gS hX ?_;simp[eD,v1,h1];refine hT c0 c1 c2 c3 c4 c5 c6 c7 ?_ ?_ ?_ fun env' j=>?_
   ·simp
   ·simp
   ·simp
   have j0:=j 0 (by decide);have j5:=j 5 (by decide);simp at j0 j5;simp[aB,j0,j5,v2,v6,v7,v8,hx1,hx2,h6,h7,hl,hl',v1,hi1,hi2,hi3,hi4,hi5,hu,t_ok,f32',SL,aZ]
  by_cases t_n1:55296<=n
  rotate_left
  ·refine⟨x.fail x.at_ 32,[],f32y.1,Or.inl f32y.2,by simp,fun G E=>?_⟩
   have f32':=f32 G E;generalize x.fail x.at_ 32=y at *;refine gS hX ?_;simp[eD,v1,h1];refine hT c0 c1 c2 c3 c4 c5 c6 c7 ?_ ?_ ?_ fun env' j=>?_
   ·simp
   ·simp
   ·simp
   have j0:=j 0 (by decide);have j5:=j 5 (by decide);simp at j0 j5;simp[aB,j0,j5,v2,v6,v7,v8,hx1,hx2,h6,h7,hl,hl',v1,hi1,hi2,hi3,hi4,hi5,hu,t_ok,t_n1,f32',SL,aZ]
  by_cases t_n2:n<=56319
  rotate_left
  ·refine⟨x.fail x.at_ 32,[],f32y.1,Or.inl f32y.2,by simp,fun G E=>?_⟩
   have f32':=f32 G E;generalize x.fail x.at_ 32=y at *;refine gS hX ?_;simp[eD,v1,h1];refine hT c0 c1 c2 c3 c4 c5 c6 c7 ?_ ?_ ?_ fun env' j=>?_
   ·simp
   ·simp
   ·simp
   have j0:=j 0 (by decide);have j5:=j 5 (by decide);simp at j0 j5;simp[aB,j0,j5,v2,v6,v7,v8,hx1,hx2,h6,h7,hl,hl',v1,hi1,hi2,hi3,hi4,hi5,hu,t_ok,t_n1,t_n2,f32',SL,aZ]
  by_cases t_d6:d6=92
  rotate_left
  ·refine⟨x.fail x.at_ 32,[],f32y.1,Or.inl f32y.2,by simp,fun G E=>?_⟩
   have f32':=f32 G E;generalize x.fail x.at_ 32=y at *;refine gS hX ?_;simp[eD,v1,h1];refine hT c0 c1 c2 c3 c4 c5 c6 c7 ?_ ?_ ?_ fun env' j=>?_
   ·simp
   ·simp
   ·simp
   have j0:=j 0 (by decide);have j5:=j 5 (by decide);simp at j0 j5;simp[aB,j0,j5,v2,v6,v7,v8,hx1,hx2,h6,h7,hl,hl',v1,hi1,hi2,hi3,hi4,hi5,hu,t_ok,t_n1,t_n2,t_d6,f32',SL,aZ]
  by_cases t_d7:d7=117
  rotate_left
  ·refine⟨x.fail x.at_ 32,[],f32y.1,Or.inl f32y.2,by simp,fun G E=>?_⟩
   have f32':=f32 G E;generalize x.fail x.at_ 32=y at *;refine gS hX ?_;simp[eD,v1,h1];refine hT c0 c1 c2 c3 c4 c5 c6 c7 ?_ ?_ ?_ fun env' j=>?_
   ·simp
   ·simp
   ·simp
   have j0:=j 0 (by decide);have j5:=j 5 (by decide);simp at j0 j5;simp[aB,j0,j5,v2,v6,v7,v8,hx1,hx2,h6,h7,hl,hl',v1,hi1,hi2,hi3,hi4,hi5,hu,t_ok,t_n1,t_n2,t_d6,t_d7,f32',SL,aZ]
  by_cases t_more:more=true
  rotate_left
  ·refine⟨x.fail x.at_ 32,[],f32y.1,Or.inl f32y.2,by simp,fun G E=>?_⟩
   have f32':=f32 G E;generalize x.fail x.at_ 32=y at *;refine gS hX ?_;simp[eD,v1,h1];refine hT c0 c1 c2 c3 c4 c5 c6 c7 ?_ ?_ ?_ fun env' j=>?_
   ·simp
   ·simp
   ·simp
   have j0:=j 0 (by decide);have j5:=j 5 (by decide);simp at j0 j5;simp[aB,j0,j5,v2,v6,v7,v8,hx1,hx2,h6,h7,hl,hl',v1,hi1,hi2,hi3,hi4,hi5,hu,t_ok,t_n1,t_n2,t_d6,t_d7,t_more,f32',SL,aZ]
  by_cases t_l1:56320<=low
  rotate_left
  ·refine⟨x.fail x.at_ 32,[],f32y.1,Or.inl f32y.2,by simp,fun G E=>?_⟩
   have f32':=f32 G E;generalize x.fail x.at_ 32=y at *;refine gS hX ?_;simp[eD,v1,h1];refine hT c0 c1 c2 c3 c4 c5 c6 c7 ?_ ?_ ?_ fun env' j=>?_
   ·simp
   ·simp
   ·simp
   have j0:=j 0 (by decide);have j5:=j 5 (by decide);simp at j0 j5;simp[aB,j0,j5,v2,v6,v7,v8,hx1,hx2,h6,h7,hl,hl',v1,hi1,hi2,hi3,hi4,hi5,hu,t_ok,t_n1,t_n2,t_d6,t_d7,t_more,t_l1,f32',SL,aZ]
  by_cases t_l2:low<=57343
  rotate_left
  ·refine⟨x.fail x.at_ 32,[],f32y.1,Or.inl f32y.2,by simp,fun G E=>?_⟩
   have f32':=f32 G E;generalize x.fail x.at_ 32=y at *;refine gS hX ?_;simp[eD,v1,h1];refine hT c0 c1 c2 c3 c4 c5 c6 c7 ?_ ?_ ?_ fun env' j=>?_
   ·simp
   ·simp
   ·simp
   have j0:=j 0 (by decide);have j5:=j 5 (by decide);simp at j0 j5;simp[aB,j0,j5,v2,v6,v7,v8,hx1,hx2,h6,h7,hl,hl',v1,hi1,hi2,hi3,hi4,hi5,hu,t_ok,t_n1,t_n2,t_d6,t_d7,t_more,t_l1,t_l2,f32',SL,aZ]
  refine⟨x.fail x.at_ 32,[],f32y.1,Or.inl f32y.2,by simp,fun G E=>?_⟩;have f32':=f32 G E;generalize x.fail x.at_ 32=y at *;refine gS hX ?_;simp[eD,v1,h1];refine hT c0 c1 c2 c3 c4 c5 c6 c7 ?_ ?_ ?_ fun env' j=>?_
  ·simp
  ·simp
  ·simp
  have j0:=j 0 (by decide);have j5:=j 5 (by decide);simp at j0 j5;simp[aB,j0,j5,v2,v6,v7,v8,hx1,hx2,h6,h7,hl,hl',v1,hi1,hi2,hi3,hi4,hi5,hu,t_ok,t_n1,t_n2,t_d6,t_d7,t_more,t_l1,t_l2,f32',SL,aZ]
 by_cases t_ok:ok=true
 rotate_left
 ·refine⟨x.fail x.at_ 32,[],f32y.1,Or.inl f32y.2,by simp,fun G E=>?_⟩
  have f32':=f32 G E;generalize x.fail x.at_ 32=y at *;refine gS hX ?_;simp[eD,v1,h1];refine hT c0 c1 c2 c3 c4 c5 c6 c7 ?_ ?_ ?_ fun env' j=>?_
  ·simp
  ·simp
  ·simp
  have j0:=j 0 (by decide);have j5:=j 5 (by decide);simp at j0 j5;simp[aB,j0,j5,v2,v6,v7,v8,hx1,hx2,h6,h7,hl,hl',v1,hi1,hi2,hi3,hi4,hi5,hu,t_ok,f32',SL,aZ]
 by_cases t_n1:55296<=n
 rotate_left
 ·refine⟨x.at' a6,gX n,LS.jT hg (by omega) (by omega),Or.inr (by show x.at_<a6;omega),(yD n).2,fun G E=>?_⟩
  have ho:=fun H=>uW hX H n (by have:=(hn1 t_ok).1;omega)
  rw[B7 (yD n).1];refine gS hX ?_;simp[eD,v1,h1];refine hT c0 c1 c2 c3 c4 c5 c6 c7 ?_ ?_ ?_ fun env' j=>?_
  ·simp
  ·simp
  ·simp
  have j0:=j 0 (by decide);have j5:=j 5 (by decide);simp at j0 j5;simp[aB,j0,j5,v2,v6,v7,v8,hx1,hx2,h6,h7,hl,hl',v1,hi1,hi2,hi3,hi4,hi5,hu,t_ok,t_n1,v6,ho,LS.at']
 by_cases t_n2:n<=56319
 rotate_left
 ·by_cases t_n3:n<=57343
  ·refine⟨x.fail x.at_ 32,[],f32y.1,Or.inl f32y.2,by simp,fun G E=>?_⟩
   have f32':=f32 G E;generalize x.fail x.at_ 32=y at *;refine gS hX ?_;simp[eD,v1,h1];refine hT c0 c1 c2 c3 c4 c5 c6 c7 ?_ ?_ ?_ fun env' j=>?_
   ·simp
   ·simp
   ·simp
   have j0:=j 0 (by decide);have j5:=j 5 (by decide);simp at j0 j5;simp[aB,j0,j5,v2,v6,v7,v8,hx1,hx2,h6,h7,hl,hl',v1,hi1,hi2,hi3,hi4,hi5,hu,t_ok,t_n1,t_n2,t_n3,f32',SL,aZ]
  ·refine⟨x.at' a6,gX n,LS.jT hg (by omega) (by omega),Or.inr (by show x.at_<a6;omega),(yD n).2,fun G E=>?_⟩
   have ho:=fun H=>uW hX H n (by have:=(hn1 t_ok).1;omega)
   rw[B7 (yD n).1];refine gS hX ?_;simp[eD,v1,h1];refine hT c0 c1 c2 c3 c4 c5 c6 c7 ?_ ?_ ?_ fun env' j=>?_
   ·simp
   ·simp
   ·simp
   have j0:=j 0 (by decide);have j5:=j 5 (by decide);simp at j0 j5;simp[aB,j0,j5,v2,v6,v7,v8,hx1,hx2,h6,h7,hl,hl',v1,hi1,hi2,hi3,hi4,hi5,hu,t_ok,t_n1,t_n2,t_n3,v6,ho,LS.at']
 have t_n3:n<=57343:=by omega
 by_cases t_d6:d6=92
 rotate_left
 ·refine⟨x.fail x.at_ 32,[],f32y.1,Or.inl f32y.2,by simp,fun G E=>?_⟩
  have f32':=f32 G E;generalize x.fail x.at_ 32=y at *;refine gS hX ?_;simp[eD,v1,h1];refine hT c0 c1 c2 c3 c4 c5 c6 c7 ?_ ?_ ?_ fun env' j=>?_
  ·simp
  ·simp
  ·simp
  have j0:=j 0 (by decide);have j5:=j 5 (by decide);simp at j0 j5;simp[aB,j0,j5,v2,v6,v7,v8,hx1,hx2,h6,h7,hl,hl',v1,hi1,hi2,hi3,hi4,hi5,hu,t_ok,t_n1,t_n2,t_n3,t_d6,f32',SL,aZ]
 by_cases t_d7:d7=117
 rotate_left
 ·refine⟨x.fail x.at_ 32,[],f32y.1,Or.inl f32y.2,by simp,fun G E=>?_⟩
  have f32':=f32 G E;generalize x.fail x.at_ 32=y at *;refine gS hX ?_;simp[eD,v1,h1];refine hT c0 c1 c2 c3 c4 c5 c6 c7 ?_ ?_ ?_ fun env' j=>?_
  ·simp
  ·simp
  ·simp
  have j0:=j 0 (by decide);have j5:=j 5 (by decide);simp at j0 j5;simp[aB,j0,j5,v2,v6,v7,v8,hx1,hx2,h6,h7,hl,hl',v1,hi1,hi2,hi3,hi4,hi5,hu,t_ok,t_n1,t_n2,t_n3,t_d6,t_d7,f32',SL,aZ]
 by_cases t_more:more=true
 rotate_left
 ·refine⟨x.fail x.at_ 32,[],f32y.1,Or.inl f32y.2,by simp,fun G E=>?_⟩
  have f32':=f32 G E;generalize x.fail x.at_ 32=y at *;refine gS hX ?_;simp[eD,v1,h1];refine hT c0 c1 c2 c3 c4 c5 c6 c7 ?_ ?_ ?_ fun env' j=>?_
  ·simp
  ·simp
  ·simp
  have j0:=j 0 (by decide);have j5:=j 5 (by decide);simp at j0 j5;simp[aB,j0,j5,v2,v6,v7,v8,hx1,hx2,h6,h7,hl,hl',v1,hi1,hi2,hi3,hi4,hi5,hu,t_ok,t_n1,t_n2,t_n3,t_d6,t_d7,t_more,f32',SL,aZ]
 by_cases t_l1:56320<=low
 rotate_left
 ·refine⟨x.fail x.at_ 32,[],f32y.1,Or.inl f32y.2,by simp,fun G E=>?_⟩
  have f32':=f32 G E;generalize x.fail x.at_ 32=y at *;refine gS hX ?_;simp[eD,v1,h1];refine hT c0 c1 c2 c3 c4 c5 c6 c7 ?_ ?_ ?_ fun env' j=>?_
  ·simp
  ·simp
  ·simp
  have j0:=j 0 (by decide);have j5:=j 5 (by decide);simp at j0 j5;simp[aB,j0,j5,v2,v6,v7,v8,hx1,hx2,h6,h7,hl,hl',v1,hi1,hi2,hi3,hi4,hi5,hu,t_ok,t_n1,t_n2,t_n3,t_d6,t_d7,t_more,t_l1,f32',SL,aZ]
 by_cases t_l2:low<=57343
 rotate_left
 ·refine⟨x.fail x.at_ 32,[],f32y.1,Or.inl f32y.2,by simp,fun G E=>?_⟩
  have f32':=f32 G E;generalize x.fail x.at_ 32=y at *;refine gS hX ?_;simp[eD,v1,h1];refine hT c0 c1 c2 c3 c4 c5 c6 c7 ?_ ?_ ?_ fun env' j=>?_
  ·simp
  ·simp
  ·simp
  have j0:=j 0 (by decide);have j5:=j 5 (by decide);simp at j0 j5;simp[aB,j0,j5,v2,v6,v7,v8,hx1,hx2,h6,h7,hl,hl',v1,hi1,hi2,hi3,hi4,hi5,hu,t_ok,t_n1,t_n2,t_n3,t_d6,t_d7,t_more,t_l1,t_l2,f32',SL,aZ]
 obtain⟨M,hM⟩:∃M,M=65536+(n-55296)*1024+(low-56320):=⟨_,rfl⟩;have wA:IntKind.i64.wrap ((n:Int)-55296)=(n:Int)-55296:=wI;have wB:IntKind.i64.wrap (((n:Int)-55296)*1024)=((n:Int)-55296)*1024:=wI;have wC:IntKind.i64.wrap (65536+((n:Int)-55296)*1024)=65536+((n:Int)-55296)*1024:=wI;have wD:IntKind.i64.wrap (65536+((n:Int)-55296)*1024+(low:Int))=65536+((n:Int)-55296)*1024+(low:Int):=wI;have wE:IntKind.i64.wrap (65536+((n:Int)-55296)*1024+(low:Int)-56320)=(M:Int):=by rw[wrap_i64 (by omega) (by omega)];omega
 refine⟨x.at' a12,gX M,LS.jT hg (by omega) (by omega),Or.inr (by show x.at_<a12;omega),(yD M).2,fun G E=>?_⟩;have ho:=fun H=>uW hX H M (by omega)
 rw[B7 (yD M).1];refine gS hX ?_;simp[eD,v1,h1];refine hT c0 c1 c2 c3 c4 c5 c6 c7 ?_ ?_ ?_ fun env' j=>?_
 ·simp
 ·simp
 ·simp
 have j0:=j 0 (by decide);have j5:=j 5 (by decide);simp at j0 j5;simp[aB,j0,j5,v2,v6,v7,v8,hx1,hx2,h6,h7,hl,hl',v1,hi1,hi2,hi3,hi4,hi5,hu,t_ok,t_n1,t_n2,t_n3,t_d6,t_d7,t_more,t_l1,t_l2,v12,wA,wB,wC,wD,wE,ho,LS.at']
end
section
variable {X:Ctx}
def LS.piece(x:LS)(bs:Bs)(a:Int):LS:=let x1:=if 16384<bs.length then x.fail a 5 else x;if bs=[]then x1 else x1.add (dJ 8 bs a)
theorem LS.BB {x:LS}(h:x.good){bs:Bs}(hb:bs.length<=1000000){a:Int}(h0:0<=a)(h1:a<=x.s.length):x.to (x.piece bs a)∧(x.piece bs a).at_=x.at_:=by
 have k1:x.to (if 16384<bs.length then x.fail a 5 else x)∧(if 16384<bs.length then x.fail a 5 else x).at_=x.at_:=by
  split
  ·exact⟨LS.iI h _ _,LS.M6 _ _ _⟩
  ·exact⟨LS.to.refl h,rfl⟩
 unfold LS.piece;simp only;generalize(if 16384<bs.length then x.fail a 5 else x)=x1 at *;split
 ·exact k1
 ·exact⟨k1.1.trans (LS.sO k1.1.good (uI hb h0 (by rw[k1.1.s];exact h1))),by rw[LS.sD];exact k1.2⟩
theorem FW(hX:CX X){x:LS}(hg:x.good){bs:Bs}{nl:Bool}(hnl:nl=true->bs=[])(hb:bs.length<=1000000)(a:Int)(G E:aA):cF X p9 [.ptr (G.length+2) 0,.osl (G.length+3) bs.length 0 bs.length,.int .i64 a] (G++(x.r0::x.r1::x.bx G.length:: .row 1 (aZ bs) nl::E))=some (.tup [],G++((x.piece bs a).r0::(x.piece bs a).r1::(x.piece bs a).bx G.length:: .row 1 (aZ bs) nl::E)):=by
 refine zLV hX ?_;have hf:=mW hX hg a 5 G (.row 1 (aZ bs) nl::E);have hbs:=zU bs;have hsl:=rD bs;have hg1:(if 16384<bs.length then x.fail a 5 else x).good:=by
  split
  ·exact(LS.iI hg _ _).good
  ·exact hg
 have ha:=rG hX hg1 (dJ 8 bs a) G (.row 1 (aZ bs) nl::E);rw[sN]at ha;have htk:List.take bs.length (aZ bs)=aZ bs:=List.take_of_length_le (by omega);unfold LS.piece;simp only;by_cases h1:16384<bs.length
 ·have h1':(16384:Int)<bs.length:=by omega
  have h2:bs≠ []:=by rintro rfl;simp at h1
  have h2':(0:Int)<bs.length:=by omega
  have h2'':0<bs.length:=by omega
  obtain rfl:nl=false:=by
   cases nl with
   | false=>rfl
   | true=>exact absurd (hnl rfl) h2
  simp only[h1,if_true]at ha ⊢;rw[if_neg h2];generalize(x.fail a 5).add (dJ 8 bs a)=y2 at *;generalize x.fail a 5=y1 at *;simp[T0,aB,h1,h1',h2,h2',h2'',hf,elems,hsl,htk,hbs,ha,fW]
 ·have h1':¬(16384:Int)<bs.length:=by omega
  simp only[h1,if_false]at ha ⊢;by_cases h2:bs=[]
  ·subst h2
   simp[T0,aB]
  ·rw[if_neg h2]
   have h2'':0<bs.length:=List.length_pos_iff.2 h2;have h2':(0:Int)<bs.length:=by omega
   obtain rfl:nl=false:=by
    cases nl with
    | false=>rfl
    | true=>exact absurd (hnl rfl) h2
   generalize x.add (dJ 8 bs a)=y2 at *;simp[T0,aB,h1,h1',h2,h2',h2'',elems,hsl,htk,hbs,ha,fW]
def LS.opened(x:LS):LS:= { x with ops:=x.ops.take x.opn++0::x.ops.drop (x.opn+1),opn:=x.opn+1,opb:=false }
theorem LS.zAE {x:LS}(h:x.opn<=x.ops.length):x.opened.ops.length=max x.ops.length (x.opn+1):=by
 simp[LS.opened];omega
theorem apO {b:Nat}{G:aA}{r0:Chunk}{l:aA}{A:List Int}{n:Nat}{nk:Bool}(hn:n<=A.length)(hnk:nk=true->A=[])(hl:A.length<=2000000):cR b (G++(r0:: .row 1 (A.map (D.int .i64)) nk::l)) 1 8 (.osl (G.length+1) A.length 0 n) [.int .i64 0] 1=some (.osl (G.length+1) (A.take n++0::A.drop (n+1)).length 0 (n+1),G++(r0:: .row 1 ((A.take n++0::A.drop (n+1)).map (D.int .i64)) false::l)):=by
 rcases Nat.lt_or_ge n A.length with h | h
 ·have hst:storable b (G++(r0:: .row 1 (A.map (D.int .i64)) nk::l)) (G.length+1) [.int .i64 0]=true:=aH (fun n=>by simp) (by simp)
  have hnk':nk=true->n=0:=fun q=>by rw[hnk q]at h;simp at h
  simp only[cR,gJ,List.getElem?_cons_succ,List.getElem?_cons_zero];rw[if_pos ⟨trivial,by simp,by omega,hnk',by unfold aX;omega,by unfold aX;omega,hst⟩,if_neg (by decide),if_neg (by omega),if_pos (by omega)];have e1:(A.take n++0::A.drop (n+1)).length=A.length:=by simp;omega
  rw[e1,xT];simp[splice]
 ·obtain rfl:n=A.length:=by omega
  rw[kB (hw:=A.length) (es:=1) (bytes:=8) (m:=1) (ys:=[.int .i64 0]) (cs:=A.map (D.int .i64)) (nil:=nk) (n:=A.length) (by simp) (by simp) (by omega) (fun q=>by rw[hnk q];rfl) (by unfold aX;omega) (by unfold aX;omega) (aH (fun n=>by simp) (by simp)) (by omega)];simp
end
section
variable {X:Ctx}
theorem Oj {b id n m:Nat}{H:aA}{A B:List D}{nk:Bool}(h:H[id]? =some (.row 1 A nk))(hA:A.length=n)(hB:B.length=m)(hn:nk=true->n=0)(hl:n+m<=100000000)(hu:∀k,D.aD k B=true)(ho:D.aF B=true):cR b H 1 1 (.osl id n 0 n) B m=some (.osl id (n+m) 0 (n+m),H.set id (.row 1 (A++B) (nk && decide (m=0)))):=by
 rcases Nat.eq_zero_or_pos m with rfl | hm
 ·have:B=[]:=List.eq_nil_of_length_eq_zero hB
  subst this;simp[cR,h,hA,aH hu ho,aX,D9 h];exact⟨hn,by omega⟩
 ·have hm0:m≠0:=by omega
  have:=kB (b:=b) (es:=1) (bytes:=1) (m:=m) h hA (by omega) hn (by unfold aX;omega) (by unfold aX;omega) (aH hu ho) hm0;rw[this];simp[hm0]
theorem BO(s:Bs)(n:Nat):D.aD n (aZ s)=true:=by
 induction s with
 | nil=>rfl
 | cons c r ih=>simp only[aZ,List.map_cons]at *;simp[ih]
theorem BP(s:Bs):D.aF (aZ s)=true:=by
 induction s with
 | nil=>rfl
 | cons c r ih=>simp only[aZ,List.map_cons]at *;simp[ih]
theorem BN(a b:Bs):aZ (a++b)=aZ a++aZ b:=by simp[aZ]
def LS.txt(x:LS)(v:Int):LS:= { x with texts:=v }
theorem LS.BA {x:LS}(h:x.good)(v:Int):x.to (x.txt v):=⟨rfl,Nat.le_refl _,h.len,h.at_,h.toks,h.outl,h.on,h.opl,h.opn,h.opb⟩
theorem LS.RL {x:LS}(h:x.good)(hl:x.ops.length+1<=x.at_):x.to x.opened:=by
 have hq:=LS.zAE h.opn;have:=h.opn;exact⟨rfl,Nat.le_refl _,h.len,h.at_,h.toks,h.outl,h.on,by rw[hq];show _<=x.at_;omega,by rw[hq];show x.opn+1<=_;omega,fun q=>absurd q (by simp[LS.opened])⟩
def LS.left(t:LS):Nat:=if t.bad=0 then t.s.length+21-t.at_ else 0
theorem LS.u9 {t u:LS}(h:t.bad=0)(hg:t.good)(hu:u.bad≠0):u.left<t.left:=by
 have:=hg.at_;unfold LS.left;rw[if_pos h,if_neg hu];omega
theorem LS.zA {t u:LS}(h:t.bad=0)(hs:u.s=t.s)(ha:t.at_<u.at_)(hu:u.good):u.left<t.left:=by
 have:=hu.at_;unfold LS.left;rw[if_pos h,hs];rw[hs]at this;split <;> omega
def zOx(X:Ctx)(t:LS)(bs:Bs)(nl:Bool)(fr:Nat):Prop:=∃y:LS,t.to y∧∀(G:aA) (env:Env),env.get 0=.ptr (G.length+2) 0->env.get 2=.int .i64 fr->env.get 3=.osl (G.length+3) bs.length 0 bs.length->YS X (G.length+3) none (.loop mD) [Fr.blk 0] ⟨env,G++[t.r0,t.r1,t.bx G.length,.row 1 (aZ bs) nl],[]⟩ (fO [] none (G.length+3) (.tup [],G++[y.r0,y.r1,y.bx G.length]))
set_option maxHeartbeats 4000000 in
theorem RN(hX:CX X):∀(n:Nat) (t:LS) (bs:Bs) (nl:Bool) (fr:Nat),(nl=true->bs=[])->t.good->fr<=t.s.length->(t.bad=0->bs.length<=4*t.at_)->t.left<=n->zOx X t bs nl fr:=by
 intro n
 induction n using Nat.strongRecOn with
 | ind n ih=>
  intro t bs nl fr hnl hg hfr hbl hn;have hlen:=hg.len;by_cases hb:t.bad=0
  rotate_left
  ·refine⟨t,LS.to.refl hg,fun G env g0 g2 g3=>?_⟩
   refine bA fun L hL=>?_
   simp[mD,aB,g0,g2,g3,hb]
  have hbl:=hbl hb;have hgat:=hg.at_;have hah:=fun(G E:aA) (j:Nat)=>Y2 hX (x:=t) j G E
  have hc:=fun G E=>hah G E t.at_
  obtain⟨a1,ha1⟩:∃a1,a1=t.at_+1:=⟨_,rfl⟩;have v1:IntKind.i64.wrap ((t.at_:Int)+1)=(a1:Int):=by rw[wrap_i64 (by omega) (by omega)];omega
  have hc1:=fun G E=>hah G E a1
  have hfl:=fun(a e:Int) (G E:aA)=>mW hX hg a e G E
  have hbad:∀(a e:Int),e≠0->∃y,t.to y∧(t.fail a e).to y∧∀(G:aA) (env:Env),env.get 0=.ptr (G.length+2) 0->env.get 2=.int .i64 fr->env.get 3=.osl (G.length+3) bs.length 0 bs.length->YS X (G.length+3) none (.loop mD) [Fr.blk 0] ⟨env,G++[(t.fail a e).r0,(t.fail a e).r1,(t.fail a e).bx G.length,.row 1 (aZ bs) nl],[]⟩ (fO [] none (G.length+3) (.tup [],G++[y.r0,y.r1,y.bx G.length])):=fun a e he=>by
   have hq:=LS.wN (x:=t) a he;have kf:=LS.iI hg a e;obtain⟨y,h1,h2⟩:=ih _ (Nat.lt_of_lt_of_le (LS.u9 hb hg hq) hn) (t.fail a e) bs nl fr hnl kf.good (by rw[kf.s];exact hfr) (fun h=>absurd h hq) (Nat.le_refl _);exact⟨y,kf.trans h1,h1,h2⟩
  by_cases hl:t.s.length<=t.at_
  ·obtain⟨y,h1,h1',h2⟩:=hbad t.s.length 8 (by decide)
   have hl':(t.s.length:Int)<=t.at_:=by omega
   refine⟨y,h1,fun G env g0 g2 g3=>?_⟩;have hf:=hfl t.s.length 8 G [.row 1 (aZ bs) nl];have hc':=hc G [.row 1 (aZ bs) nl];refine bA fun L hL=>?_
   generalize t.fail t.s.length 8=x at *;simp[mD,g0,g2,g3,hb,hc',hl,hl',hf,aQ,aR,aS,aT,aO,aP, -aN];rw[hL];exact h2 G _ (by simp[g0]) (by simp[g2]) (by simp[g3])
  have hl':¬(t.s.length:Int)<=t.at_:=by omega
  have k1:=LS.jT hg (k:=a1) (by omega) (by omega);generalize hcc:t.ahead t.at_=c at *;generalize hcc1:t.ahead a1=c1 at *;by_cases h34:c=34
  ·obtain⟨kp,kpa⟩:=LS.BB hg (bs:=bs) (a:=fr) (by omega) (by omega) (by omega)
   have hp:=fun G=>FW hX hg hnl (bs:=bs) (by omega) fr G []
   generalize t.piece bs fr=x1 at *;have ht:TokOk x1.s.length (dJ 11 [] x1.at_):=uI (by decide) (by omega) (by rw[kp.s,kpa];omega);have ka:=kp.trans (LS.sO kp.good ht);have haa:(x1.add (dJ 11 [] x1.at_)).at_=t.at_:=by rw[LS.sD,kpa]
   have ha:=fun G=>rG hX kp.good (dJ 11 [] x1.at_) G [.row 1 (aZ bs) nl]
   rw[sN,kpa]at ha;rw[kpa]at ka haa;generalize x1.add (dJ 11 [] t.at_)=x2 at *;have kt:=ka.trans (LS.jT ka.good (k:=a1) (by omega) (by rw[ka.s];omega));refine⟨(x2.at' a1).txt (IntKind.i64.wrap (x2.texts-1)),kt.trans (LS.BA kt.good _),fun G env g0 g2 g3=>?_⟩;have hc':=hc G [.row 1 (aZ bs) nl];refine bA fun L hL=>?_
   simp[mD,aB,g0,g2,g3,hb,hc',hl,hl',h34,hp,kpa,ha,haa,v1,fW,LS.at',LS.txt,aQ,aR,aS,aT,aO,aP, -aN]
  by_cases h92:c=92
  ·by_cases h40:c1=40
   ·obtain⟨a2,ha2⟩:∃a2,a2=t.at_+2:=⟨_,rfl⟩
    have v2:IntKind.i64.wrap ((t.at_:Int)+2)=(a2:Int):=by rw[wrap_i64 (by omega) (by omega)];omega
    obtain⟨kp,kpa⟩:=LS.BB hg (bs:=bs) (a:=fr) (by omega) (by omega) (by omega);have hp:=fun G=>FW hX hg hnl (bs:=bs) (by omega) fr G []
    generalize t.piece bs fr=x1 at *;have hfl1:=fun G=>mW hX kp.good x1.at_ 42 G [.row 1 (aZ bs) nl]
    obtain⟨x2,k2,k2a,hx2⟩:∃x2,t.to x2∧x2.at_=t.at_∧(x2=if x1.opn=48 then x1.fail x1.at_ 42 else x1):=⟨_,by split;exact kp.trans (LS.iI kp.good _ _);exact kp,by split;rw[LS.M6,kpa];exact kpa,rfl⟩;have ht:TokOk x2.s.length (dJ 9 [] x2.at_):=uI (by decide) (by omega) (by rw[k2.s,k2a];omega);have ka:=k2.trans (LS.sO k2.good ht);have haa:(x2.add (dJ 9 [] x2.at_)).at_=t.at_:=by rw[LS.sD,k2a]
    have ha:=fun G=>rG hX k2.good (dJ 9 [] x2.at_) G [.row 1 (aZ bs) nl]
    rw[sN,k2a]at ha;rw[k2a]at ka haa;generalize x2.add (dJ 9 [] t.at_)=x3 at *;have k4:=ka.trans (LS.jT ka.good (k:=a2) (by omega) (by rw[ka.s];omega));have k5:=k4.trans (LS.RL k4.good (by show x3.ops.length+1<=a2;have:=ka.good.opl;omega));refine⟨(x3.at' a2).opened,k5,fun G env g0 g2 g3=>?_⟩;have hc':=hc G [.row 1 (aZ bs) nl];have hc1':=hc1 G [.row 1 (aZ bs) nl];have h34':c≠34:=h34;have hap:=fun(b:Nat) (r0:Chunk) (l:aA)=>apO (b:=b) (G:=G) (r0:=r0) (l:=l) ka.good.opn ka.good.opb (by have:=ka.good.opl;omega)
    have hst:∀(H:aA) (a n:Nat),storable (G.length+3) H (G.length+2) [.osl (G.length+1) a 0 n]=true:=fun H a n=>V1 (by omega) (by simp[Go.AM.D.aD,Go.AM.D.under]) (by simp[Go.AM.D.aF,Go.AM.D.one])
    have hel:∀H:aA,elems H 1 (.fsl [.int .i64 0] 1)=some ([.int .i64 0],1):=fun H=>by simp[elems]
    subst h92 h40;refine bA fun L hL=>?_
    by_cases q48:x1.opn=48
    ·have q48':(x1.opn:Int)=48:=by omega
     rw[if_pos q48]at hx2;have hfl1':=hfl1 G;rw[kpa]at hfl1' hx2;rw[← hx2]at hfl1';simp[mD,aB,g0,g2,g3,hb,hc',hc1',hl,hl',v1,hp,kpa,q48,q48',hfl1',k2a,ha,haa,v2,fW,hel,hap,hst,LS.at',LS.opened,aQ,aR,aS,aT,aO,aP, -aN]
    ·have q48':¬(x1.opn:Int)=48:=by omega
     rw[if_neg q48]at hx2;subst hx2;simp[mD,aB,g0,g2,g3,hb,hc',hc1',hl,hl',v1,hp,kpa,q48,q48',ha,haa,v2,fW,hel,hap,hst,LS.at',LS.opened,aQ,aR,aS,aT,aO,aP, -aN]
   ·obtain⟨x1,es,ke,hpr,hel4,hce⟩:=YU hX hg (by omega)
    have hA:=rD bs;have hB:=rD es;have hbs0:nl=true->bs.length=0:=fun h=>by rw[hnl h];rfl
    obtain⟨y,h1,h2⟩:=ih x1.left (by
      refine Nat.lt_of_lt_of_le ?_ hn;rcases hpr with h | h
      ·exact LS.u9 hb hg h
      ·exact LS.zA hb ke.s h ke.good) x1 (bs++es) (nl && decide (es=[])) fr (fun h=>by
      simp at h;rw[hnl h.1,h.2];rfl) ke.good (by rw[ke.s];exact hfr) (fun h=>by
      have:=hpr.resolve_left (fun q=>q h);simp;omega) (Nat.le_refl _)
    refine⟨y,ke.trans h1,fun G env g0 g2 g3=>?_⟩;have hc':=hc G [.row 1 (aZ bs) nl];have hc1':=hc1 G [.row 1 (aZ bs) nl];have hce':=hce G [.row 1 (aZ bs) nl];have hel:∀H:aA,elems H 1 (SL .nil (aZ es) es.length)=some (aZ es,es.length):=fun H=>wO (by rw[hB];omega)
    have hap:=fun(b:Nat) (c0 c1 c2:Chunk)=>Oj (b:=b) (id:=G.length+3) (H:=G++[c0,c1,c2,.row 1 (aZ bs) nl]) (by simp) hA hB hbs0 (by omega) (BO es) (BP es)
    have h3:=h2 G;rw[BN,List.length_append]at h3;subst h92;refine bA fun L hL=>?_
    simp[mD,g0,g2,g3,hb,hc',hc1',hl,hl',v1,h40,hce',hel,hap,aQ,aR,aS,aT,aO,aP, -aN];rw[hL];refine h3 _ ?_ ?_ ?_
    ·simp[g0]
    ·simp[g2]
    ·simp
  by_cases h32:c<32
  ·obtain⟨y,h1,h1',h2⟩:=hbad t.at_ 32 (by decide)
   refine⟨y,h1,fun G env g0 g2 g3=>?_⟩;have hf:=hfl t.at_ 32 G [.row 1 (aZ bs) nl];have hc':=hc G [.row 1 (aZ bs) nl];refine bA fun L hL=>?_
   generalize t.fail t.at_ 32=x at *;simp[mD,g0,g2,g3,hb,hc',hl,hl',h34,h92,h32,hf,aQ,aR,aS,aT,aO,aP, -aN];rw[hL];exact h2 G _ (by simp[g0]) (by simp[g2]) (by simp[g3])
  obtain⟨a4,ha4⟩:∃a4,a4=t.at_+4:=⟨_,rfl⟩;have v4:IntKind.i64.wrap ((t.at_:Int)+4)=(a4:Int):=by rw[wrap_i64 (by omega) (by omega)];omega
  obtain⟨m,hm⟩:∃m,m=min t.s.length a4:=⟨_,rfl⟩;have hmin:min (t.s.length:Int) (a4:Int)=(m:Int):=by omega
  have hsl1:fD t.s (some (.int .i64 t.at_)) (some (.int .i64 m))=some (.str ((t.s.take m).drop t.at_)):=uJ (by omega) (by omega);have hfst:=fun H=>FT hX H ((t.s.take m).drop t.at_)
  have hdl:=Ax ((t.s.take m).drop t.at_);have hdl2:((t.s.take m).drop t.at_).length=m-t.at_:=by simp;omega
  rw[hdl2]at hdl;unfold U0 at hfst;generalize cL ((t.s.take m).drop t.at_)=d at *;obtain⟨an,han⟩:∃an,an=t.at_+d:=⟨_,rfl⟩;have vn:IntKind.i64.wrap ((t.at_:Int)+(d:Int))=(an:Int):=by rw[wrap_i64 (by omega) (by omega)];omega
  have hsl2:fD t.s (some (.int .i64 t.at_)) (some (.int .i64 an))=some (.str ((t.s.take an).drop t.at_)):=uJ (by omega) (by omega);have hel2:((t.s.take an).drop t.at_).length=d:=by simp;omega
  generalize hes:(t.s.take an).drop t.at_=es at *;have hA:=rD bs;have hB:=rD es;have hbs0:nl=true->bs.length=0:=fun h=>by rw[hnl h];rfl
  obtain⟨x1,hx1,k1',hx1a,hx1b⟩:∃x1,(x1=if d=0 then t.fail t.at_ 61 else t)∧t.to x1∧x1.at_=t.at_∧(d=0->x1.bad≠0):=⟨_,rfl,by split;exact LS.iI hg _ _;exact LS.to.refl hg,by split;exact LS.M6 _ _ _;rfl,fun h=>by rw[if_pos h];exact LS.wN _ (by decide)⟩;have k2:=k1'.trans (LS.jT k1'.good (k:=an) (by omega) (by rw[k1'.s];omega));obtain⟨y,h1,h2⟩:=ih (x1.at' an).left (by
    refine Nat.lt_of_lt_of_le ?_ hn;by_cases hd:d=0
    ·exact LS.u9 hb hg (hx1b hd)
    ·exact LS.zA hb k2.s (by show t.at_<an;omega) k2.good) (x1.at' an) (bs++es) (nl && decide (es=[])) fr (fun h=>by
    simp at h;rw[hnl h.1,h.2];rfl) k2.good (by rw[k2.s];exact hfr) (fun h=>by
    have hd:d≠0:=fun q=>hx1b q h
    show(bs++es).length<=4*an;rw[List.length_append];omega) (Nat.le_refl _)
  refine⟨y,k2.trans h1,fun G env g0 g2 g3=>?_⟩;have hc':=hc G [.row 1 (aZ bs) nl];obtain⟨dd,H',hfc,⟨cc,rfl⟩,rfl⟩:=hfst (G++[t.r0,t.r1,t.bx G.length,.row 1 (aZ bs) nl]);have hap:=fun(b:Nat) (c0 c1 c2:Chunk)=>Oj (b:=b) (id:=G.length+3) (H:=G++[c0,c1,c2,.row 1 (aZ bs) nl]) (by simp) hA hB hbs0 (by omega) (BO es) (BP es)
  have h3:=h2 G;rw[BN,List.length_append]at h3;refine bA fun L hL=>?_
  by_cases hd:d=0
  ·rw[if_pos hd]at hx1
   have hdT:(d=0)=True:=by simp[hd]
   have hf:=hfl t.at_ 61 G [.row 1 (aZ bs) nl];have hs1:x1.s=t.s:=k1'.s;rw[← hx1]at hf;simp only[LS.at',LS.O7,LS.F2,LS.F1,hs1]at h3;simp[mD,g0,g2,g3,hb,hc',hl,hl',h34,h92,h32,v4,hmin,hsl1,hfc,hdT,hf,hx1a,hs1,vn,hsl2,Oi,hap,LS.at',aQ,aR,aS,aT,aO,aP, -aN];rw[hL];refine h3 _ ?_ ?_ ?_
   ·simp[g0]
   ·simp[g2]
   ·simp
  ·rw[if_neg hd]at hx1
   subst hx1;simp only[LS.at',LS.O7,LS.F2,LS.F1,hb]at h3;simp[mD,g0,g2,g3,hb,hc',hl,hl',h34,h92,h32,v4,hmin,hsl1,hfc,hd,vn,hsl2,Oi,hap,LS.at',aQ,aR,aS,aT,aO,aP, -aN];rw[hL];refine h3 _ ?_ ?_ ?_
   ·simp[g0]
   ·simp[g2]
   ·simp
def Ff(X:Ctx)(f:Nat)(x:LS)(P:LS->Prop):Prop:=∃y:LS,x.to y∧P y∧∀G:aA,cF X f [.ptr (G.length+2) 0] (G++[x.r0,x.r1,x.bx G.length])=some (.tup [],G++[y.r0,y.r1,y.bx G.length])
theorem FV(hX:CX X){x:LS}(hg:x.good)(hle:x.at_<=x.s.length):Ff X p8 x (fun _=>True):=by
 obtain⟨y,h1,h2⟩:=RN hX _ x [] true x.at_ (by simp) hg hle (by simp) (Nat.le_refl _);refine⟨y,h1,trivial,fun G=>?_⟩;refine zLT hX ?_;simp[Xk];have h3:=h2 G;simp[aZ]at h3;refine h3 _ ?_ ?_ ?_
 ·simp
 ·simp
 ·simp
end
end Go.AM.T
