/- Walks. -/
import Derived.Test.YtbgdifdbgcgjnaaGreatDoorWalkE
import Derived.Test.YtbgdifdbgcgjnaaGreatDoorWalkA
import Derived.Test.YtbgdifdbgcgjnaaGreatDoorWalkD
set_option linter.unusedVariables false
set_option linter.unusedSimpArgs false
set_option linter.unnecessarySimpa false
set_option maxRecDepth 100000
namespace Go.AM.T
section
variable {X:Ctx}
theorem LS.zNc(x:LS)(t:Token):(x.add t).opn=x.opn:=by
 unfold LS.add;split
 ·split
  ·unfold LS.fail;split <;> rfl
  ·rfl
 ·rfl
theorem CE {C:List Int}{k:Nat}{v:Int}(h:k<C.length):List.take k (C.map (D.int .i64))++ .int .i64 v::List.drop (k+1) (C.map (D.int .i64))=(C.set k v).map (D.int .i64):=by
 rw[List.set_eq_take_append_cons_drop,if_pos h];simp
set_option maxHeartbeats 8000000 in
theorem YR(hX:CX X){x:LS}(hg:x.good)(hlt:x.at_<x.s.length):Ff X I7 x (fun y=>y.bad≠0∨x.at_<y.at_):=by
 have hlen:=hg.len;have hlt':(x.at_:Int)<x.s.length:=by omega
 obtain⟨a1,ha1⟩:∃a1,a1=x.at_+1:=⟨_,rfl⟩;have w1:IntKind.i64.wrap ((x.at_:Int)+1)=(a1:Int):=by rw[wrap_i64 (by omega) (by omega)];omega
 have hah:=fun(G E:aA)=>Y2 hX (x:=x) a1 G E
 have hbg:=fun n H=>Hk hX n H
 generalize x.ahead a1=nx at *;have k1:=LS.jT hg (k:=a1) (by omega) (by omega);have lift:∀(f:Nat) (args:List D),xI X f args x (fun y=>y.bad≠0∨x.at_<y.at_)->(∀(y:LS) (G:aA),cF X f (.ptr (G.length+2) 0::args) (G++[x.r0,x.r1,x.bx G.length])=some (.tup [],G++[y.r0,y.r1,y.bx G.length])->YS X (G++[x.r0,x.r1,x.bx G.length]).length none eO [] ⟨Env.nil.dL 0 [.ptr (G.length+2) 0],G++[x.r0,x.r1,x.bx G.length],[]⟩ (fO [] none (G++[x.r0,x.r1,x.bx G.length]).length (.tup [],G++[y.r0,y.r1,y.bx G.length])))->Ff X I7 x (fun y=>y.bad≠0∨x.at_<y.at_):=fun f args ⟨y,h1,h2,h3⟩ h=>⟨y,h1,h2,fun G=>rZ hX (h y G (h3 G []))⟩
 by_cases n0:(x.s[x.at_].toNat:Int)=32
 ·refine⟨x.at' a1,k1,Or.inr (by show x.at_<a1;omega),fun G=>?_⟩
  refine rZ hX ?_;simp[eO,aB,hlt,hlt',w1,hah,hbg,n0,LS.at',aQ,aR,aS,aT,aO,aP, -aN]
 by_cases n1:(x.s[x.at_].toNat:Int)=9
 ·refine⟨x.at' a1,k1,Or.inr (by show x.at_<a1;omega),fun G=>?_⟩
  refine rZ hX ?_;simp[eO,aB,hlt,hlt',w1,hah,hbg,n0,n1,LS.at',aQ,aR,aS,aT,aO,aP, -aN]
 by_cases n2:(x.s[x.at_].toNat:Int)=10
 ·refine⟨x.at' a1,k1,Or.inr (by show x.at_<a1;omega),fun G=>?_⟩
  refine rZ hX ?_;simp[eO,aB,hlt,hlt',w1,hah,hbg,n0,n1,n2,LS.at',aQ,aR,aS,aT,aO,aP, -aN]
 by_cases n3:(x.s[x.at_].toNat:Int)=13
 ·refine⟨x.at' a1,k1,Or.inr (by show x.at_<a1;omega),fun G=>?_⟩
  refine rZ hX ?_;simp[eO,aB,hlt,hlt',w1,hah,hbg,n0,n1,n2,n3,LS.at',aQ,aR,aS,aT,aO,aP, -aN]
 by_cases n4:(x.s[x.at_].toNat:Int)=35
 ·have hce:=zMj (f:=x.s.length) hlt (by rw[n4];decide) (by omega)
  have hce2:=(Nz (s:=x.s) x.s.length x.at_).2 (by omega);refine⟨x.at' (nZ x.s x.s.length x.at_),LS.jT hg (by omega) (by omega),Or.inr hce,fun G=>?_⟩;refine rZ hX ?_;have hpl:=fun(env:Env) (K:List Fr) (Q:Ex->St->Prop)=>ZP hX hlen (G:=G) (K:=K) (Q:=Q) x.s.length x.at_ env (by omega) (by omega)
  simp only[LS.at']at hpl ⊢;simp[eO,hlt,hlt',w1,hah,hbg,n0,n1,n2,n3,n4,aQ,aR,aS,aT,aO,aP, -aN];refine hpl _ _ _ ?_ fun env'=>?_
  ·simp
  ·simp[aB]
 cases hbe:fB (x.s[x.at_].toNat:Int)with
 | true=>
  refine lift _ _ (by
   obtain⟨y,h1,h2,h3⟩:=Y0 hX hg 1 x.at_ x.at_ (by omega) (Nat.le_refl _) (by omega);refine⟨y,h1,Or.inr ?_,h3⟩;have hw:iG (x.s.drop x.at_)=x.s[x.at_]::iG (x.s.drop (x.at_+1)):=by
    rw[List.drop_eq_getElem_cons hlt,iG];unfold jV;rw[hbe];simp
   have h2':y.at_=x.at_+(iG (x.s.drop x.at_)).length:=h2;rw[hw]at h2';simp at h2';omega) fun y G hcall=>?_
  simp[eO,aB,hlt,hlt',w1,hah,hbg,n0,n1,n2,n3,n4,hbe,hcall,aQ,aR,aS,aT,aO,aP, -aN]
 | false=>
 by_cases m0:(x.s[x.at_].toNat:Int)=46∧fB nx=true
 ·obtain⟨m0a,m0b⟩:=m0
  have hb46:fB 46=false:=by decide
  refine lift _ _ (by
   obtain⟨y,h1,h2,h3⟩:=Y0 hX hg 2 x.at_ a1 (by omega) (by omega) (by omega);refine⟨y,h1,Or.inr ?_,h3⟩;have h2':y.at_=a1+(iG (x.s.drop a1)).length:=h2;omega) fun y G hcall=>?_
  simp[eO,aB,hlt,hlt',w1,hah,hbg,hb46,m0a,m0b,hcall,aQ,aR,aS,aT,aO,aP, -aN]
 by_cases m1:(x.s[x.at_].toNat:Int)=36∧fB nx=true
 ·obtain⟨m1a,m1b⟩:=m1
  have hb36:fB 36=false:=by decide
  refine lift _ _ (by
   obtain⟨y,h1,h2,h3⟩:=Y0 hX hg 5 x.at_ a1 (by omega) (by omega) (by omega);refine⟨y,h1,Or.inr ?_,h3⟩;have h2':y.at_=a1+(iG (x.s.drop a1)).length:=h2;omega) fun y G hcall=>?_
  simp[eO,aB,hlt,hlt',w1,hah,hbg,hb36,m1a,m1b,hcall,aQ,aR,aS,aT,aO,aP, -aN]
 by_cases m2:(x.s[x.at_].toNat:Int)=64∧fB nx=true
 ·obtain⟨m2a,m2b⟩:=m2
  have hb64:fB 64=false:=by decide
  refine lift _ _ (by
   obtain⟨y,h1,h2,h3⟩:=Y0 hX hg 6 x.at_ a1 (by omega) (by omega) (by omega);refine⟨y,h1,Or.inr ?_,h3⟩;have h2':y.at_=a1+(iG (x.s.drop a1)).length:=h2;omega) fun y G hcall=>?_
  simp[eO,aB,hlt,hlt',w1,hah,hbg,hb64,m2a,m2b,hcall,aQ,aR,aS,aT,aO,aP, -aN]
 by_cases hdg:48<=(x.s[x.at_].toNat:Int)∧(x.s[x.at_].toNat:Int)<=57
 ·obtain⟨d1,d2⟩:=hdg
  have e1:¬(x.s[x.at_].toNat:Int)=46:=by omega
  have e2:¬(x.s[x.at_].toNat:Int)=36:=by omega
  have e3:¬(x.s[x.at_].toNat:Int)=64:=by omega
  refine lift _ _ (YT hX hg (by unfold eZ;rw[dif_pos hlt];simp;omega)) fun y G hcall=>?_
  simp[eO,aB,hlt,hlt',w1,hah,hbg,n0,n1,n2,n3,n4,hbe,e1,e2,e3,d1,d2,hcall,aQ,aR,aS,aT,aO,aP, -aN]
 have done1:∀y:LS,x.to y->a1<=y.at_->(∀G:aA,YS X (G++[x.r0,x.r1,x.bx G.length]).length none eO [] ⟨Env.nil.dL 0 [.ptr (G.length+2) 0],G++[x.r0,x.r1,x.bx G.length],[]⟩ (fO [] none (G++[x.r0,x.r1,x.bx G.length]).length (.tup [],G++[y.r0,y.r1,y.bx G.length])))->Ff X I7 x (fun y=>y.bad≠0∨x.at_<y.at_):=fun y h1 h2 h=>⟨y,h1,Or.inr (by omega),fun G=>rZ hX (h G)⟩
 by_cases hq34:(x.s[x.at_].toNat:Int)=34
 ·have hb34:fB 34=false:=by decide
  have ka:=LS.sO hg (t:=dJ 7 [] x.at_) (uI (by decide) (by omega) (by omega));have haa:=LS.sD x (dJ 7 [] x.at_);have ha:=fun G=>rG hX hg (dJ 7 [] x.at_) G []
  rw[sN]at ha;generalize x.add (dJ 7 [] x.at_)=x1 at *;have kb:=ka.trans (LS.jT ka.good (k:=a1) (by omega) (by rw[ka.s];omega));have kc:=kb.trans (LS.BA kb.good (IntKind.i64.wrap (x1.texts+1)));obtain⟨y,h1, -,h3⟩:=FV hX kc.good (by show a1<=_;rw[kc.s];omega);refine done1 y (kc.trans h1) h1.at_ fun G=>?_
  have h3':=h3 G;simp only[LS.at',LS.txt]at h3';simp[eO,aB,hlt,hlt',w1,hah,hbg,hb34,hq34,ha,haa,h3',fW,LS.at',LS.txt,aQ,aR,aS,aT,aO,aP, -aN]
 have hcl:∀on1:Nat,x.opn=on1+1->∃h:on1<x.ops.length,True:=fun on1 h=>⟨by have:=hg.opn;omega,trivial⟩
 by_cases hq41:(x.s[x.at_].toNat:Int)=41∧∃(on1:Nat) (h:on1<x.ops.length),x.opn=on1+1∧x.ops[on1]=0
 ·obtain⟨h41,on1,hon,hopn,hz⟩:=hq41
  have hb41:fB 41=false:=by decide
  have hop:0<x.opn:=by omega
  have hop':(0:Int)<x.opn:=by omega
  have wo:IntKind.i64.wrap ((x.opn:Int)-1)=(on1:Int):=by rw[wrap_i64 (by omega) (by have:=hg.opn;have:=hg.opl;have:=hg.at_;omega)];omega
  have hlo:on1<x.opn:=by omega
  have hlo':(on1:Int)<x.opn:=by omega
  have hld:=J5 hon;rw[hz]at hld;have hopb:x.opb=false:=by
   cases hq:x.opb with
   | false=>rfl
   | true=>have hq2:=hg.opb hq;rw[hq2]at hon;simp at hon
  have hro:xW (some x.r1)=some (x.ops.map (D.int .i64)):=by
   unfold LS.r1;rw[hopb];rfl
  have hll:(x.ops.map (D.int .i64)).length=x.ops.length:=List.length_map ..;have ka:=LS.sO hg (t:=dJ 10 [] x.at_) (uI (by decide) (by omega) (by omega));have haa:=LS.sD x (dJ 10 [] x.at_);have hao:=LS.zNc x (dJ 10 [] x.at_);have ha:=fun G=>rG hX hg (dJ 10 [] x.at_) G []
  rw[sN]at ha;generalize x.add (dJ 10 [] x.at_)=x1 at *;have kb:=ka.trans (LS.jT ka.good (k:=a1) (by omega) (by rw[ka.s];omega));have kc:=kb.trans (LS.RM kb.good);obtain⟨y,h1, -,h3⟩:=FV hX kc.good (by show a1<=_;rw[kc.s];omega);refine done1 y (kc.trans h1) h1.at_ fun G=>?_
  have h3':=h3 G;have hx1o:x1.opn-1=on1:=by omega
  simp only[LS.at',LS.closed,hx1o]at h3';have hsl:=fun(hw:Nat)=>Gw (id:=G.length+1) (hw:=hw) (off:=0) (n:=x.opn) (m:=on1) (by omega)
  have hst:=fun(H:aA) (a:Nat)=>(V1 (b:=G.length+3) (i:=G.length+2) (H:=H) (cs:=[.osl (G.length+1) a 0 on1]) (by omega) (by simp[Go.AM.D.aD,Go.AM.D.under]) (by simp[Go.AM.D.aF,Go.AM.D.one]))
  simp[eO,aB,hlt,hlt',w1,hah,hbg,hb41,h41,hop,hop',wo,hlo,hlo',hld,hro,ha,haa,hao,hsl,hst,h3',fW,LS.at',LS.closed,aQ,aR,aS,aT,aO,aP, -aN]
 by_cases hA:(x.s[x.at_].toNat:Int)=40∧0<x.opn
 ·obtain⟨h40,hpo⟩:=hA
  have hb40:fB 40=false:=by decide
  obtain⟨on1,hopn⟩:∃on1,x.opn=on1+1:=⟨x.opn-1,by omega⟩;have hon:on1<x.ops.length:=by have:=hg.opn;omega
  have hop:0<x.opn:=by omega
  have hop':(0:Int)<x.opn:=by omega
  have wo:IntKind.i64.wrap ((x.opn:Int)-1)=(on1:Int):=by rw[wrap_i64 (by omega) (by have:=hg.opn;have:=hg.opl;have:=hg.at_;omega)];omega
  have hlo:on1<x.opn:=by omega
  have hlo':(on1:Int)<x.opn:=by omega
  have hld:=J5 hon;have hopb:x.opb=false:=by
   cases hq:x.opb with
   | false=>rfl
   | true=>have hq2:=hg.opb hq;rw[hq2]at hon;simp at hon
  have hro:xW (some x.r1)=some (x.ops.map (D.int .i64)):=by
   unfold LS.r1;rw[hopb];rfl
  have hro2:x.r1=.row 1 (x.ops.map (D.int .i64)) false:=by
   unfold LS.r1;rw[hopb]
  have hx1o:x.opn-1=on1:=by omega
  have hspl:=fun v=>CE (C:=x.ops) (v:=v) hon
  have hon1:on1+1<=x.ops.length:=by omega
  have kb:=LS.BC hg (IntKind.i64.wrap (x.ops[on1]+1));obtain⟨y,h1,h2,h3⟩:=Hh hX kb.good (by rw[kb.s];exact hlt);refine⟨y,kb.trans h1,h2,fun G=>rZ hX ?_⟩;have h3':=h3 G [];simp only[LS.bump,LS.O7,LS.F2,LS.F1,List.map_set,List.length_set,hx1o,hopb]at h3';have hst:=fun(H:aA)=>aH (b:=G.length+3) (H:=H) (id:=G.length+1) (vs:=[.int .i64 (IntKind.i64.wrap (x.ops[on1]+1))]) (fun n=>by simp) (by simp)
  simp[eO,aB,hlt,hlt',w1,hah,hbg,hb40,h40,hop,hop',wo,hlo,hlo',hld,hro,hspl,hst,hon1,h3',LS.bump,aQ,aR,aS,aT,aO,aP, -aN]
 by_cases hB:(x.s[x.at_].toNat:Int)=41∧0<x.opn
 ·obtain⟨h41,hpo⟩:=hB
  have hb41:fB 41=false:=by decide
  obtain⟨on1,hopn⟩:∃on1,x.opn=on1+1:=⟨x.opn-1,by omega⟩;have hon:on1<x.ops.length:=by have:=hg.opn;omega
  have hop:0<x.opn:=by omega
  have hop':(0:Int)<x.opn:=by omega
  have wo:IntKind.i64.wrap ((x.opn:Int)-1)=(on1:Int):=by rw[wrap_i64 (by omega) (by have:=hg.opn;have:=hg.opl;have:=hg.at_;omega)];omega
  have hlo:on1<x.opn:=by omega
  have hlo':(on1:Int)<x.opn:=by omega
  have hld:=J5 hon;have hopb:x.opb=false:=by
   cases hq:x.opb with
   | false=>rfl
   | true=>have hq2:=hg.opb hq;rw[hq2]at hon;simp at hon
  have hro:xW (some x.r1)=some (x.ops.map (D.int .i64)):=by
   unfold LS.r1;rw[hopb];rfl
  have hro2:x.r1=.row 1 (x.ops.map (D.int .i64)) false:=by
   unfold LS.r1;rw[hopb]
  have hx1o:x.opn-1=on1:=by omega
  have hspl:=fun v=>CE (C:=x.ops) (v:=v) hon
  have hon1:on1+1<=x.ops.length:=by omega
  have hz:¬x.ops[on1]=0:=fun q=>hq41 ⟨h41,on1,hon,hopn,q⟩
  have kb:=LS.BC hg (IntKind.i64.wrap (x.ops[on1]-1));obtain⟨y,h1,h2,h3⟩:=Hh hX kb.good (by rw[kb.s];exact hlt);refine⟨y,kb.trans h1,h2,fun G=>rZ hX ?_⟩;have h3':=h3 G [];simp only[LS.bump,LS.O7,LS.F2,LS.F1,List.map_set,List.length_set,hx1o,hopb]at h3';have hst:=fun(H:aA)=>aH (b:=G.length+3) (H:=H) (id:=G.length+1) (vs:=[.int .i64 (IntKind.i64.wrap (x.ops[on1]-1))]) (fun n=>by simp) (by simp)
  simp[eO,aB,hlt,hlt',w1,hah,hbg,hb41,h41,hop,hop',wo,hlo,hlo',hld,hz,hro,hspl,hst,hon1,h3',LS.bump,aQ,aR,aS,aT,aO,aP, -aN]
 refine lift _ _ (Hh hX hg hlt) fun y G hcall=>?_
 by_cases p0:(x.s[x.at_].toNat:Int)=46
 ·have hb46:fB 46=false:=by decide
  have hnx:fB nx=false:=by
   cases hh:fB nx with
   | false=>rfl
   | true=>exact absurd ⟨p0,hh⟩ m0
  by_cases hop:0<x.opn
  ·have hop':(0:Int)<x.opn:=by omega
   simp[eO,aB,hlt,hlt',w1,hah,hbg,hb46,p0,hnx,hop,hop',hcall,aQ,aR,aS,aT,aO,aP, -aN]
  ·have hop':¬(0:Int)<x.opn:=by omega
   simp[eO,aB,hlt,hlt',w1,hah,hbg,hb46,p0,hnx,hop,hop',hcall,aQ,aR,aS,aT,aO,aP, -aN]
 by_cases p1:(x.s[x.at_].toNat:Int)=36
 ·have hb36:fB 36=false:=by decide
  have hnx:fB nx=false:=by
   cases hh:fB nx with
   | false=>rfl
   | true=>exact absurd ⟨p1,hh⟩ m1
  by_cases hop:0<x.opn
  ·have hop':(0:Int)<x.opn:=by omega
   simp[eO,aB,hlt,hlt',w1,hah,hbg,hb36,p1,hnx,hop,hop',hcall,aQ,aR,aS,aT,aO,aP, -aN]
  ·have hop':¬(0:Int)<x.opn:=by omega
   simp[eO,aB,hlt,hlt',w1,hah,hbg,hb36,p1,hnx,hop,hop',hcall,aQ,aR,aS,aT,aO,aP, -aN]
 by_cases p2:(x.s[x.at_].toNat:Int)=64
 ·have hb64:fB 64=false:=by decide
  have hnx:fB nx=false:=by
   cases hh:fB nx with
   | false=>rfl
   | true=>exact absurd ⟨p2,hh⟩ m2
  by_cases hop:0<x.opn
  ·have hop':(0:Int)<x.opn:=by omega
   simp[eO,aB,hlt,hlt',w1,hah,hbg,hb64,p2,hnx,hop,hop',hcall,aQ,aR,aS,aT,aO,aP, -aN]
  ·have hop':¬(0:Int)<x.opn:=by omega
   simp[eO,aB,hlt,hlt',w1,hah,hbg,hb64,p2,hnx,hop,hop',hcall,aQ,aR,aS,aT,aO,aP, -aN]
 by_cases p3:(x.s[x.at_].toNat:Int)=40
 ·have hb40:fB 40=false:=by decide
  have hop:¬0<x.opn:=fun h=>hA ⟨p3,h⟩
  have hop':¬(0:Int)<x.opn:=by omega
  simp[eO,aB,hlt,hlt',w1,hah,hbg,hb40,p3,hop,hop',hcall,aQ,aR,aS,aT,aO,aP, -aN]
 by_cases p4:(x.s[x.at_].toNat:Int)=41
 ·have hb41:fB 41=false:=by decide
  have hop:¬0<x.opn:=fun h=>hB ⟨p4,h⟩
  have hop':¬(0:Int)<x.opn:=by omega
  simp[eO,aB,hlt,hlt',w1,hah,hbg,hb41,p4,hop,hop',hcall,aQ,aR,aS,aT,aO,aP, -aN]
 by_cases g1:48<=(x.s[x.at_].toNat:Int)
 ·have g2:¬(x.s[x.at_].toNat:Int)<=57:=fun q=>hdg ⟨g1,q⟩
  by_cases hop:0<x.opn
  ·have hop':(0:Int)<x.opn:=by omega
   simp[eO,aB,hlt,hlt',w1,hah,hbg,n0,n1,n2,n3,n4,hbe,p0,p1,p2,p3,p4,g1,g2,hq34,hop,hop',hcall,aQ,aR,aS,aT,aO,aP, -aN]
  ·have hop':¬(0:Int)<x.opn:=by omega
   simp[eO,aB,hlt,hlt',w1,hah,hbg,n0,n1,n2,n3,n4,hbe,p0,p1,p2,p3,p4,g1,g2,hq34,hop,hop',hcall,aQ,aR,aS,aT,aO,aP, -aN]
 ·by_cases hop:0<x.opn
  ·have hop':(0:Int)<x.opn:=by omega
   simp[eO,aB,hlt,hlt',w1,hah,hbg,n0,n1,n2,n3,n4,hbe,p0,p1,p2,p3,p4,g1,hq34,hop,hop',hcall,aQ,aR,aS,aT,aO,aP, -aN]
  ·have hop':¬(0:Int)<x.opn:=by omega
   simp[eO,aB,hlt,hlt',w1,hah,hbg,n0,n1,n2,n3,n4,hbe,p0,p1,p2,p3,p4,g1,hq34,hop,hop',hcall,aQ,aR,aS,aT,aO,aP, -aN]
end
section
variable {X:Ctx}
theorem zOz {H:aA}{b id:Nat}{l:List Token}{on:Bool}(hb:b<=id)(h:H[id]? =some (.row 6 (Token.aC l) on))(hon:on=true->l=[]):fz H b 64 (.osl id (l.length*6) 0 l.length)=some (SL (if on then .nil else .full) (Token.aC l) l.length):=by
 have htake:List.take (l.length*6) (Token.aC l)=Token.aC l:=List.take_of_length_le (by rw[Token.bC];exact Nat.le_refl _);rw[aB,if_neg (by omega),h]
 cases on with
 | true=>obtain rfl:=hon rfl;simp[SL]
 | false=>simp[Token.bC,htake,Token.eY,Token.dQ,Token.dT,cA]
theorem RK(hX:CX X):∀(n:Nat) (x:LS),x.good->x.left<=n->∃y:LS,x.to y∧∀(G:aA) (env:Env) (K:List Fr) (Q:Ex->St->Prop),env.get 0=.str x.s->env.get 5=.ptr (G.length+2) 0->(∀env':Env,env'.get 0=.str x.s->env'.get 5=.ptr (G.length+2) 0->YX X G.length none (.exit 0) K ⟨env',G++[y.r0,y.r1,y.bx G.length],[]⟩ Q)->YS X G.length none (.loop T2) K ⟨env,G++[x.r0,x.r1,x.bx G.length],[]⟩ Q:=by
 intro n
 induction n using Nat.strongRecOn with
 | ind n ih=>
  intro x hg hn;by_cases h:x.at_<x.s.length∧x.bad=0
  ·obtain⟨hlt,hb⟩:=h
   have hlt':(x.at_:Int)<x.s.length:=by omega
   obtain⟨y,h1,h2,h3⟩:=YR hX hg hlt;obtain⟨z,k1,k2⟩:=ih y.left (Nat.lt_of_lt_of_le (by
    rcases h2 with h2 | h2
    ·exact LS.u9 hb hg h2
    ·exact LS.zA hb h1.s h2 h1.good) hn) y h1.good (Nat.le_refl _)
   refine⟨z,h1.trans k1,fun G env K Q g0 g5 hk=>?_⟩;have h3':=h3 G;have k2':=k2 G;rw[h1.s]at k2';refine bA fun L hL=>?_
   simp[T2,g0,g5,hlt,hlt',hb,h3'];rw[hL];refine k2' _ K Q ?_ ?_ hk <;> simp[g0,g5]
  ·refine⟨x,LS.to.refl hg,fun G env K Q g0 g5 hk=>?_⟩
   refine bA fun L hL=>?_
   by_cases hlt:x.at_<x.s.length
   ·have hlt':(x.at_:Int)<x.s.length:=by omega
    have hb:¬x.bad=0:=fun q=>h ⟨hlt,q⟩
    simp[T2,g0,g5,hlt,hlt',hb];refine hk _ ?_ ?_ <;> simp[g0,g5]
   ·have hlt':¬(x.at_:Int)<x.s.length:=by omega
    simp[T2,g0,g5,hlt,hlt'];refine hk _ ?_ ?_ <;> simp[g0,g5]
set_option maxHeartbeats 1000000 in
theorem FZ(hX:CX X)(s:Bs):∃(l:List Token) (f:Nl) (a e:Int),(∀t∈l,TokOk s.length t)∧l.length<=8192∧(e≠0->l=[])∧∀H:aA,cF X yU [.str s] H=some (.tup [SL f (Token.aC l) l.length,.int .i64 a,.int .i64 e],H):=by
 by_cases hl:65536<s.length
 ·have hl':(65536:Int)<s.length:=by omega
  refine⟨[],.nil,0,5,by simp,by simp,by simp,fun H=>?_⟩;refine Nx hX ?_;simp[T3,aB,hl,hl',SL,Token.aC]
 ·have hl':¬(65536:Int)<s.length:=by omega
  have hg:LS.good ⟨s,0,[],true,[],0,true,0,0,0⟩:=⟨by show s.length<=_;omega,by simp,by simp,by simp,by simp,by simp,by simp,by simp⟩;obtain⟨y,h1,h2⟩:=RK hX _ _ hg (Nat.le_refl _);have hs:y.s=s:=h1.s;have hgo:∀(z:LS),y.to z->(z=if 0<y.texts then y.fail s.length 8 else y)->∃(l:List Token) (f:Nl) (a e:Int),(∀t∈l,TokOk s.length t)∧l.length<=8192∧(e≠0->l=[])∧∀H:aA,cF X yU [.str s] H=some (.tup [SL f (Token.aC l) l.length,.int .i64 a,.int .i64 e],H):=fun z kz hz=>by
   have hzs:z.s=s:=kz.s.trans hs;by_cases hb:z.bad=0
   ·refine⟨z.out,if z.on then .nil else .full,s.length,0,by rw[← hzs];exact kz.good.toks,kz.good.outl,by simp,fun H=>?_⟩
    refine Nx hX ?_;have hf:=mW hX h1.good s.length 8 H [];have hrow:=zOz (H:=H++[z.r0,z.r1,z.bx H.length]) (b:=H.length) (id:=H.length) (l:=z.out) (on:=z.on) (Nat.le_refl _) (by simp) kz.good.on;simp[T3,hl,hl',z6,bU,bG,Go.AM.D.aD,Go.AM.D.aF,Go.AM.D.one,Go.AM.D.under];have h2':=h2 H;simp[Token.aC]at h2';refine h2' _ _ _ ?_ ?_ fun env' j0 j5=>?_
    ·simp
    ·simp
    by_cases ht:0<y.texts
    ·rw[if_pos ht]at hz
     rw[← hz]at hf;simp[j0,j5,ht,hf,hb,hrow,aQ,aR,aS,aT,aO,aP, -aN]
    ·rw[if_neg ht]at hz
     subst hz;simp[j0,j5,ht,hb,hrow,aQ,aR,aS,aT,aO,aP, -aN]
   ·refine⟨[],.nil,z.place,z.bad,by simp,by simp,by simp,fun H=>?_⟩
    refine Nx hX ?_;have hf:=mW hX h1.good s.length 8 H [];simp[T3,hl,hl',z6,bU,bG,Go.AM.D.aD,Go.AM.D.aF,Go.AM.D.one,Go.AM.D.under];have h2':=h2 H;simp[Token.aC]at h2';refine h2' _ _ _ ?_ ?_ fun env' j0 j5=>?_
    ·simp
    ·simp
    by_cases ht:0<y.texts
    ·rw[if_pos ht]at hz
     rw[← hz]at hf;simp[j0,j5,ht,hf,hb,SL,aQ,aR,aS,aT,aO,aP, -aN]
    ·rw[if_neg ht]at hz
     subst hz;simp[j0,j5,ht,hb,SL,aQ,aR,aS,aT,aO,aP, -aN]
  by_cases ht:0<y.texts
  ·exact hgo _ (LS.iI h1.good _ _) (by rw[if_pos ht])
  ·exact hgo _ (LS.to.refl h1.good) (by rw[if_neg ht])
end
section
variable {X:Ctx}
def xL(s:Bs):Nat->Nat->Bool
 | 0,_=>true
 | f+1,i=>if h:i<s.length then(if jV s[i].toNat=false∨(i=0∧fB s[i].toNat=false)then false else xL s f (i+1))else true
theorem YV(hX:CX X)(s:Bs)(hl:s.length<=100000000):∃b:Bool,∀H:aA,cF X Kl [.str s] H=some (.bool b,H):=by
 refine⟨xL s s.length 0 && decide (0<s.length),fun H=>?_⟩;refine zL2 hX ?_;simp[Yb];generalize hR:xL s s.length 0=R;obtain⟨lb,hlb⟩:∃lb,lb=decide (0<s.length):=⟨_,rfl⟩;rw[← hlb];refine cH (fun(i:Nat) e H'=>H'=H∧i<=s.length∧e.get 0=.str s∧e.get 3=.int .i64 i∧xL s (s.length-i) i=R) (fun i=>s.length-i) ?_ 0 (by simp[hR]);clear hR;rintro i e H' ⟨rfl,hi,g0,g3,hq⟩ L ih;have hpt:=fun n H=>Hi hX n H
 have hbg:=fun n H=>Hk hX n H
 by_cases h:i<s.length
 ·have h':(i:Int)<s.length:=by omega
  have w1:IntKind.i64.wrap ((i:Int)+1)=(i:Int)+1:=wI;obtain⟨f,hf⟩:∃f,s.length-i=f+1:=⟨s.length-i-1,by omega⟩;rw[hf,xL,dif_pos h]at hq;have hf2:s.length-(i+1)=f:=by omega
  cases hp:jV (s[i].toNat:Int)with
  | false=>
   rw[if_pos (Or.inl hp)]at hq;simp[B0,aB,g0,g3,h,h',hpt,hp, ← hq]
  | true=>
   by_cases h0:i=0
   ·subst h0
    cases hb:fB (s[0].toNat:Int)with
    | false=>
     rw[if_pos (Or.inr ⟨rfl,hb⟩)]at hq;have g3':e.get 3=.int .i64 0:=g3;simp[B0,aB,g0,g3',h,h',hpt,hp,hbg,hb, ← hq]
    | true=>
     rw[if_neg (by rw[hp,hb];simp)]at hq;have g3':e.get 3=.int .i64 0:=g3;have w1':IntKind.i64.wrap 1=1:=by decide
     simp[B0,g0,g3',h,h',hpt,hp,hbg,hb,w1'];refine ih 1 _ _ (by omega) ?_;simp[g0];refine⟨by omega,?_⟩;rw[← hq, ← hf2]
   ·rw[if_neg (by rw[hp];simp[h0])]at hq
    have h0':¬(i:Int)=0:=by omega
    simp[B0,g0,g3,h,h',hpt,hp,h0,h0',w1];refine ih (i+1) _ _ (by omega) ?_;simp[g0,hf2,hq];omega
 ·obtain rfl:i=s.length:=by omega
  rw[Nat.sub_self,xL]at hq;subst hq;simp[B0,aB,g0,g3,hlb]
theorem JF {k:IntKind}{C:List Int}{i:Nat}(h:i<C.length):aJ false 1 ((C.map (D.int k)).drop i)=some (.int k C[i]):=by
 rw[List.drop_eq_getElem_cons (by simpa using h)];simp[aJ]
theorem GC(hX:CX X)(a b:Dec)(hl:(a.coef.length:Int)<=9223372036854775807):∃r:Bool,(r=true↔a.neg=b.neg∧a.exp=b.exp∧a.coef=b.coef)∧∀H:aA,cF X s8 [.agg a.cells,.agg b.cells] H=some (.bool r,H):=by
 refine⟨decide (a.neg=b.neg∧a.exp=b.exp∧a.coef=b.coef),by simp,fun H=>?_⟩;refine zMa hX ?_;by_cases h1:a.neg=b.neg
 rotate_left
 ·have hb1:(a.neg == b.neg)=false:=beq_eq_false_iff_ne.2 h1
  simp[B3,aB,h1,hb1]
 by_cases h2:a.exp=b.exp
 rotate_left
 ·simp[B3,aB,h1,h2]
 by_cases h3:a.coef.length=b.coef.length
 rotate_left
 ·have h3':¬(a.coef.length:Int)=b.coef.length:=by omega
  have h4:¬a.coef=b.coef:=fun q=>h3 (by rw[q])
  simp[B3,aB,h1,h2,h3,h3',h4]
 have h3':(a.coef.length:Int)=b.coef.length:=by omega
 simp[B3,h1,h2,h3,h3'];refine cH (fun(i:Nat) e H'=>H'=H∧i<=a.coef.length∧e.get 2=.fptr a.cells∧e.get 3=.fptr b.cells∧e.get 5=.int .i64 i∧a.coef.take i=b.coef.take i) (fun i=>a.coef.length-i) ?_ 0 (by simp);rintro i e H' ⟨rfl,hi,g2,g3,g5,hq⟩ L ih;by_cases h:i<a.coef.length
 ·have h':(i:Int)<a.coef.length:=by omega
  have hb:i<b.coef.length:=by omega
  have hb':(i:Int)<b.coef.length:=by omega
  have w1:IntKind.i64.wrap ((i:Int)+1)=(i:Int)+1:=wI;have l1:=JF (k:=.u32) h;have l2:=JF (k:=.u32) hb;by_cases he:a.coef[i]=b.coef[i]
  ·simp[Es,g2,g3,g5,h,h',hb,hb',l1,l2,he,w1]
   refine ih (i+1) _ _ (by omega) ?_;simp[g2,g3];refine⟨by omega,?_⟩;rw[List.take_succ_eq_append_getElem h,List.take_succ_eq_append_getElem hb,hq,he]
  ·have hne:¬a.coef=b.coef:=fun q=>he (by simp[q])
   simp[Es,aB,g2,g3,g5,h,h',hb,hb',l1,l2,he,hne]
 ·obtain rfl:i=a.coef.length:=by omega
  have hall:a.coef=b.coef:=by
   have:=hq;rw[List.take_length,h3,List.take_length]at this;exact this
  simp[Es,aB,g2,g3,g5,hall]
end
section
variable {X:Ctx}
abbrev eJ:ACode:=ACode.tl (ACode.tl (ACode.tl (ACode.tl dC)))
theorem gO:dC=.seq (ACode.hd dC) (.seq (ACode.hd (ACode.tl dC)) (.seq (ACode.hd (ACode.tl (ACode.tl dC))) (.seq (ACode.hd (ACode.tl (ACode.tl (ACode.tl dC)))) eJ))):=rfl
theorem zJU(hX:CX X)(t:Token)(hc:t.num.wf)(b:Bool):∃e:Int,∀(H:aA) (env:Env),env.get 1=.fptr t.cells->env.get 3=.bool b->YS X H.length none eJ [] ⟨env,H,[]⟩ (fO [.tmp 2] none H.length (.int .i64 e,H)):=by
 obtain⟨sm, -,hs⟩:=GC hX t.num dN hc.2;rw[rX]at hs
 cases b with
 | false=>
  refine⟨32,fun H env g1 g3=>?_⟩;simp[eJ,ACode.tl,dC,aB,g1,g3]
 | true=>
  by_cases hk:t.kind=3
  ·by_cases ha:t.at_<0
   ·refine⟨9,fun H env g1 g3=>?_⟩
    simp[eJ,ACode.tl,dC,aB,g1,g3,hk,ha]
   ·refine⟨0,fun H env g1 g3=>?_⟩
    simp[eJ,ACode.tl,dC,aB,g1,g3,hk,ha]
  ·cases sm with
   | false=>
    refine⟨9,fun H env g1 g3=>?_⟩;simp[eJ,ACode.tl,dC,aB,g1,g3,hk,eG,hs]
   | true=>
    by_cases ha:t.at_<0
    ·refine⟨9,fun H env g1 g3=>?_⟩
     simp[eJ,ACode.tl,dC,aB,g1,g3,hk,eG,hs,ha]
    ·refine⟨0,fun H env g1 g3=>?_⟩
     simp[eJ,ACode.tl,dC,aB,g1,g3,hk,eG,hs,ha]
theorem zJV(hX:CX X)(t:Token){b0:Nat}{H:aA}{K:List Fr}{Q:Ex->St->Prop}:∀(m:Nat) (k:Nat) (b:Bool) (env:Env),m+k=fY.length->env.get 1=.fptr t.cells->env.get 3=.bool b->env.get 7=SL .full (fY.map D.str) fY.length->env.get 8=.int .i64 k->(∀env':Env,env'.get 1=.fptr t.cells->env'.get 3=.bool (b || decide (t.text∈fY.drop k))->YX X b0 none (.exit 1) K ⟨env',H,[]⟩ Q)->YS X b0 none (.loop B1) K ⟨env,H,[]⟩ Q:=by
 have h34:fY.length<=100:=by decide
 generalize fY=l at *;intro m
 induction m with
 | zero=>
  intro k b env hm g1 g3 g7 g8 hk;obtain rfl:k=l.length:=by omega
  simp at hk;refine bA fun L hL=>?_
  simp[B1,g1,g3,g7,g8];refine hk _ ?_ ?_ <;> simp[g1,g3]
 | succ m ih=>
  intro k b env hm g1 g3 g7 g8 hk;have h:k<l.length:=by omega
  have h':(k:Int)<l.length:=by omega
  have w1:IntKind.i64.wrap ((k:Int)+1)=(k:Int)+1:=wI;have hl1:aJ false 1 (List.drop k (l.map D.str))=some (.str l[k]):=by rw[List.drop_eq_getElem_cons (by simpa using h)];simp[aJ]
  have hdr:l.drop k=l[k]::l.drop (k+1):=List.drop_eq_getElem_cons h;rw[hdr]at hk;generalize l[k]=u at *;refine bA fun L hL=>?_
  cases b with
  | true=>
   simp[B1,g1,g3,g7,g8,h,h',hl1,w1,aQ,aR,aS,aT,aO,aP, -aN];rw[hL];refine ih (k+1) true _ (by omega) ?_ ?_ ?_ ?_ fun env' j1 j3=>hk env' j1 (by rw[j3];simp)
   ·simp[g1]
   ·simp
   ·simp[g7]
   ·simp
  | false=>
   by_cases hu:u=t.text
   ·simp[B1,g1,g3,g7,g8,h,h',hl1,hu,w1,aQ,aR,aS,aT,aO,aP, -aN]
    rw[hL];refine ih (k+1) true _ (by omega) ?_ ?_ ?_ ?_ fun env' j1 j3=>hk env' j1 (by rw[j3];simp[hu])
    ·simp[g1]
    ·simp
    ·simp[g7]
    ·simp
   ·simp[B1,g1,g3,g7,g8,h,h',hl1,hu,w1,aQ,aR,aS,aT,aO,aP, -aN]
    rw[hL];have hu':¬t.text=u:=fun q=>hu q.symm
    refine ih (k+1) false _ (by omega) ?_ ?_ ?_ ?_ fun env' j1 j3=>hk env' j1 (by rw[j3];simp[hu'])
    ·simp[g1]
    ·simp
    ·simp[g7]
    ·simp
set_option maxHeartbeats 2000000 in
theorem YW(hX:CX X){m:Int}{t:Token}(ht:TokOk m t):∃e:Int,∀H:aA,cF X r8 [.agg t.cells] H=some (.int .i64 e,H):=by
 have htx:=ht.text;by_cases hk0:t.kind<1
 ·refine⟨23,fun H=>?_⟩
  refine Ny hX ?_;simp[dC,aB,hk0]
 by_cases hk1:11<t.kind
 ·refine⟨23,fun H=>?_⟩
  refine Ny hX ?_;simp[dC,aB,hk0,hk1]
 have fin:∀b:Bool,(∀(e:Int),(∀(H:aA) (env:Env),env.get 1=.fptr t.cells->env.get 3=.bool b->YS X H.length none eJ [] ⟨env,H,[]⟩ (fO [.tmp 2] none H.length (.int .i64 e,H)))->∀H:aA,YS X H.length none dC [] ⟨Env.nil.dL 0 [.agg t.cells],H,[]⟩ (fO [.tmp 2] none H.length (.int .i64 e,H)))->∃e:Int,∀H:aA,cF X r8 [.agg t.cells] H=some (.int .i64 e,H):=fun b h=>by
  obtain⟨e,he⟩:=zJU hX t ht.num b;exact⟨e,fun H=>Ny hX (h e he H)⟩
 obtain⟨wb,hwb⟩:=YV hX t.text (by omega);obtain⟨fb,hfb⟩:=GB hX t.text;have hlen:(t.text.length:Int)<=64∨ ¬(t.text.length:Int)<=64:=Classical.em _;by_cases k1:t.kind=1
 ·cases wb with
  | false=>
   refine fin false fun e he H=>?_
   rw[gO];generalize eJ=T at *;simp[ACode.hd,ACode.tl,dC,hk0,hk1,k1,hwb];refine he H _ ?_ ?_ <;> simp
  | true=>
   by_cases hl64:t.text.length<=64
   ·have hl64':(t.text.length:Int)<=64:=by omega
    refine fin true fun e he H=>?_
    rw[gO];generalize eJ=T at *;simp[ACode.hd,ACode.tl,dC,hk0,hk1,k1,hwb,hl64,hl64'];refine he H _ ?_ ?_ <;> simp
   ·have hl64':¬(t.text.length:Int)<=64:=by omega
    refine fin false fun e he H=>?_
    rw[gO];generalize eJ=T at *;simp[ACode.hd,ACode.tl,dC,hk0,hk1,k1,hwb,hl64,hl64'];refine he H _ ?_ ?_ <;> simp
 by_cases k2:t.kind=2
 ·cases wb with
  | false=>
   refine fin false fun e he H=>?_
   rw[gO];generalize eJ=T at *;simp[ACode.hd,ACode.tl,dC,hk0,hk1,k2,hwb];refine he H _ ?_ ?_ <;> simp
  | true=>
   by_cases hl64:t.text.length<=64
   ·have hl64':(t.text.length:Int)<=64:=by omega
    refine fin true fun e he H=>?_
    rw[gO];generalize eJ=T at *;simp[ACode.hd,ACode.tl,dC,hk0,hk1,k2,hwb,hl64,hl64'];refine he H _ ?_ ?_ <;> simp
   ·have hl64':¬(t.text.length:Int)<=64:=by omega
    refine fin false fun e he H=>?_
    rw[gO];generalize eJ=T at *;simp[ACode.hd,ACode.tl,dC,hk0,hk1,k2,hwb,hl64,hl64'];refine he H _ ?_ ?_ <;> simp
 by_cases k5:t.kind=5
 ·cases wb with
  | false=>
   refine fin false fun e he H=>?_
   rw[gO];generalize eJ=T at *;simp[ACode.hd,ACode.tl,dC,hk0,hk1,k5,hwb];refine he H _ ?_ ?_ <;> simp
  | true=>
   by_cases hl64:t.text.length<=64
   ·have hl64':(t.text.length:Int)<=64:=by omega
    refine fin true fun e he H=>?_
    rw[gO];generalize eJ=T at *;simp[ACode.hd,ACode.tl,dC,hk0,hk1,k5,hwb,hl64,hl64'];refine he H _ ?_ ?_ <;> simp
   ·have hl64':¬(t.text.length:Int)<=64:=by omega
    refine fin false fun e he H=>?_
    rw[gO];generalize eJ=T at *;simp[ACode.hd,ACode.tl,dC,hk0,hk1,k5,hwb,hl64,hl64'];refine he H _ ?_ ?_ <;> simp
 by_cases k6:t.kind=6
 ·refine fin fb fun e he H=>?_
  rw[gO];generalize eJ=T at *;simp[ACode.hd,ACode.tl,dC,hk0,hk1,k1,k2,k5,k6,hfb];refine he H _ ?_ ?_ <;> simp
 by_cases k4:t.kind=4
 ·have hsg:=GA hX
  have h34:fY.length=34:=rfl;refine fin ((decide (t.text=[]) || decide (t.text∈fY)) && !decide (t.text=[])) fun e he H=>?_
  rw[gO];generalize eJ=T at *;simp[ACode.hd,ACode.tl,dC,hk0,hk1,k1,k2,k5,k6,k4,hsg];refine zJV hX t fY.length 0 (decide (t.text=[])) _ (by omega) ?_ ?_ ?_ ?_ fun env' j1 j3=>?_
  ·simp
  ·simp
  ·rw[h34];simp[SL]
  ·simp
  simp only[List.drop_zero]at j3;by_cases he0:t.text=[]
  ·simp[he0]at j3
   simp[j1,j3,he0];refine he H _ ?_ ?_ <;> simp[j1,he0]
  ·by_cases hmem:t.text∈fY
   ·simp[hmem]at j3
    simp[j1,j3,he0];refine he H _ ?_ ?_ <;> simp[j1,he0,hmem]
   ·simp[hmem,he0]at j3
    simp[j1,j3,he0];refine he H _ ?_ ?_ <;> simp[j1,he0,hmem]
 by_cases k8:t.kind=8
 ·have hck:=fun H=>YB hX H t.text (by omega)
  by_cases he0:t.text=[]
  ·have hck0:=hck
   rw[he0]at hck0;refine fin false fun e he H=>?_
   rw[gO];generalize eJ=T at *;simp[ACode.hd,ACode.tl,dC,hk0,hk1,k8,hck0,he0];refine he H _ ?_ ?_ <;> simp
  by_cases hl:t.text.length<=16384
  ·have hl':(t.text.length:Int)<=16384:=by omega
   cases hu:sM t.text with
   | true=>
    refine fin true fun e he H=>?_
    rw[gO];generalize eJ=T at *;simp[ACode.hd,ACode.tl,dC,hk0,hk1,k8,hck,he0,hl,hl',hu];refine he H _ ?_ ?_ <;> simp
   | false=>
    refine fin false fun e he H=>?_
    rw[gO];generalize eJ=T at *;simp[ACode.hd,ACode.tl,dC,hk0,hk1,k8,hck,he0,hl,hl',hu];refine he H _ ?_ ?_ <;> simp
  ·have hl':¬(t.text.length:Int)<=16384:=by omega
   refine fin false fun e he H=>?_
   rw[gO];generalize eJ=T at *;simp[ACode.hd,ACode.tl,dC,hk0,hk1,k8,hck,he0,hl,hl'];refine he H _ ?_ ?_ <;> simp
 by_cases k3:t.kind=3
 ·obtain⟨l,f,a,e0,hto,hle,hne,htk⟩:=FZ hX t.text
  by_cases q1:e0=0
  rotate_left
  ·refine fin false fun e he H=>?_
   rw[gO];generalize eJ=T at *;simp[ACode.hd,ACode.tl,dC,hk0,hk1,k3,htk,q1,aQ,aR,aS,aT,aO,aP, -aN];refine he H _ ?_ ?_ <;> simp
  by_cases q2:l.length=1
  rotate_left
  ·have q2':¬(l.length:Int)=1:=by omega
   refine fin false fun e he H=>?_
   rw[gO];generalize eJ=T at *;simp[ACode.hd,ACode.tl,dC,hk0,hk1,k3,htk,q1,q2,q2',aQ,aR,aS,aT,aO,aP, -aN];refine he H _ ?_ ?_ <;> simp
  obtain⟨u,rfl⟩:∃u,l=[u]:=by
   cases l with
   | nil=>simp at q2
   | cons u r=>cases r with
    | nil=>exact⟨u,rfl⟩
    | cons _ _=>simp at q2
  have htk':∀H:aA,cF X yU [.str t.text] H=some (.tup [.fsl u.cells 1,.int .i64 a,.int .i64 e0],H):=fun H=>by rw[htk H];simp[SL,Token.aC]
  by_cases q3:u.kind=3
  rotate_left
  ·refine fin false fun e he H=>?_
   rw[gO];generalize eJ=T at *;simp[ACode.hd,ACode.tl,dC,hk0,hk1,k3,htk',q1,q3,aQ,aR,aS,aT,aO,aP, -aN];refine he H _ ?_ ?_ <;> simp
  by_cases q4:u.text=t.text
  rotate_left
  ·refine fin false fun e he H=>?_
   rw[gO];generalize eJ=T at *;simp[ACode.hd,ACode.tl,dC,hk0,hk1,k3,htk',q1,q3,q4,aQ,aR,aS,aT,aO,aP, -aN];refine he H _ ?_ ?_ <;> simp
  have hut:=hto u (by simp);obtain⟨sm, -,hs⟩:=GC hX u.num t.num hut.num.2;refine fin sm fun e he H=>?_
  rw[gO];generalize eJ=T at *;simp[ACode.hd,ACode.tl,dC,hk0,hk1,k3,htk',q1,q3,q4,hs,aQ,aR,aS,aT,aO,aP, -aN];refine he H _ ?_ ?_ <;> simp
 refine fin (decide (t.text=[])) fun e he H=>?_
 rw[gO];generalize eJ=T at *;simp[ACode.hd,ACode.tl,dC,hk0,hk1,k1,k2,k5,k6,k4,k8,k3];refine he H _ ?_ ?_ <;> simp
end
section
variable {X:Ctx}
theorem ZJ(hX:CX X){l:List Token}{f:Nl}{en:Int}(hto:∀t∈l,TokOk en t)(hll:l.length<=8192):∀(m k:Nat),m+k=l.length->∃R:Option (Int×Int),∀(H:aA) (env:Env) (K:List Fr) (Q:Ex->St->Prop),env.get 0=SL f (Token.aC l) l.length->env.get 1=.int .i64 en->env.get 4=.ptr H.length 0->env.get 7=.int .i64 k->(R=none->∀env':Env,env'.get 0=SL f (Token.aC l) l.length->env'.get 1=.int .i64 en->env'.get 4=.ptr H.length 0->YX X H.length none (.exit 0) K ⟨env',H++[.box e0.cells],[]⟩ Q)->(∀a e,R=some (a,e)->∀env':Env,env'.get 4=.ptr H.length 0->env'.get 5=.int .i64 a->env'.get 6=.int .i64 e->YX X H.length none .ret K ⟨env',H++[.box e0.cells],[]⟩ Q)->YS X H.length none (.loop S8) K ⟨env,H++[.box e0.cells],[]⟩ Q:=by
 intro m
 induction m with
 | zero=>
  intro k hk;obtain rfl:k=l.length:=by omega
  refine⟨none,fun H env K Q g0 g1 g4 g7 hn hr=>?_⟩;refine bA fun L hL=>?_
  simp[S8,g0,g7];refine hn rfl _ ?_ ?_ ?_ <;> simp[g0,g1,g4]
 | succ m ih=>
  intro k hk;have h:k<l.length:=by omega
  have h':(k:Int)<l.length:=by omega
  have w1:IntKind.i64.wrap ((k:Int)+1)=(k:Int)+1:=wI;have hdr:=Token.dG h;obtain⟨e,he⟩:=YW hX (hto _ (List.getElem_mem h));by_cases h0:e=0
  ·subst h0
   obtain⟨R,hR⟩:=ih (k+1) (by omega);refine⟨R,fun H env K Q g0 g1 g4 g7 hn hr=>?_⟩;refine bA fun L hL=>?_
   simp[S8,g0,g7,h,h',hdr,he,w1];rw[hL];refine hR H _ K Q ?_ ?_ ?_ ?_ hn hr <;> simp[g0,g1,g4]
  ·refine⟨some (l[k].at_,e),fun H env K Q g0 g1 g4 g7 hn hr=>?_⟩
   have hst:∀H':aA,storable H.length H' H.length [.int .i64 0,.str [],.str [],.bool false,.nilsl,.int .i64 0,.nilsl,.nilsl,.nilsl,.int .i64 0]=true:=fun H'=>aH (fun n=>by simp) (by simp)
   have hdr2:(Token.aC l).drop (k*6+5)=(l[k].cells++Token.rest l k).drop 5:=by rw[← hdr,List.drop_drop]
   refine bA fun L hL=>?_
   simp[S8,g0,g4,g7,h,h',hdr,hdr2,he,h0,z0,bP,hst,aQ,aR,aS,aT,aO,aP, -aN];rw[← bP];refine hr _ _ rfl _ ?_ ?_ ?_ <;> simp[g4]
set_option maxHeartbeats 4000000 in
theorem YK(hX:CX X){l:List Token}{f:Nl}{en:Int}(hto:∀t∈l,TokOk en t)(hll:l.length<=8192)(hen:0<=en):∃(e:Expr) (a c:Int),aL en e∧∀H:aA,cF X Kg [SL f (Token.aC l) l.length,.int .i64 en] H=some (.tup [.agg e.cells,.int .i64 a,.int .i64 c],H):=by
 obtain⟨R,hR⟩:=ZJ hX (f:=f) hto hll l.length 0 (by omega);have hz:z0=e0.cells:=by rw[bP];rfl
 cases R with
 | some w=>
  obtain⟨a,c⟩:=w;refine⟨e0,a,c,hU hen,fun H=>?_⟩;refine O5 hX ?_;simp[xD,hz,bP];rw[← bP];refine hR H _ _ _ ?_ ?_ ?_ ?_ (fun q=>absurd q (by simp)) fun a' c' q env' j4 j5 j6=>?_
  ·simp
  ·simp
  ·simp
  ·simp
  simp at q;obtain⟨rfl,rfl⟩:=q;simp[aB,j4,j5,j6,bP,aW]
 | none=>
  have hg0:PS.good ⟨l,f,0,en,0,0,0⟩:=⟨⟨Nat.zero_le _,by show l.length<=_;omega,by simp⟩,hto,hen,by simp⟩;obtain⟨e,s1,he,ht1,hc1⟩:=zAi hX hg0 rfl;have hel:aL en e:=he;have hsl:s1.l=l:=ht1.l;have hse:s1.end_=en:=ht1.e;have hw1:∀(G:aA) (p:Nat),G[p]? =some s1.box->cF X iF [.ptr p 0] G=some (.tup [],G.set p s1.dD.box):=fun G p h=>rF hX h ht1.good.ok
  obtain⟨s2,k2,hs2⟩:∃s2:PS,s1.to s2∧(s2=if s1.bad=0∧s1.at_<s1.l.length then s1.dD else s1):=⟨_,by split;exact PS.mT ht1.good;exact PS.to.refl ht1.good,rfl⟩;have k3:PS.good { s2 with at_:=l.length } :=⟨⟨by show l.length<=s2.l.length;rw[k2.l,hsl];exact Nat.le_refl _,k2.good.ok.len,k2.good.ok.dep⟩,k2.good.toks,k2.good.e0,k2.good.d⟩;have hfl:∀(c:Int) (G:aA) (p:Nat),G[p]? =some ({ s2 with at_:=l.length }:PS).box->cF X kZ [.ptr p 0,.int .i64 c] G=some (.tup [],G.set p (({ s2 with at_:=l.length }:PS).fail c).box):=fun c G p h=>E7 hX h k3.ok c
  have hdp:=YP hX hel;have hsz:=YI hX (SizeOf.sizeOf e) e hel (Nat.le_refl _);have hc1':∀(G:aA) (p:Nat),G[p]? =some (.box [SL f (Token.aC l) l.length,.int .i64 0,.int .i64 en,.int .i64 0,.int .i64 0,.int .i64 0])->cF X dF [.ptr p 0] G=some (.agg e.cells,G.set p s1.box):=hc1;have hs2l:s2.l=l:=k2.l.trans hsl;have hs2e:s2.end_=en:=k2.e.trans hse;generalize hdd:rU 1000 e=dd at *;generalize hss:uN (SizeOf.sizeOf e+1) e=ss at *;by_cases hb:s2.bad=0
  ·by_cases hd:60<dd
   ·refine⟨e0,(({ s2 with at_:=l.length }:PS).fail 42).place,(({ s2 with at_:=l.length }:PS).fail 42).bad,hU hen,fun H=>?_⟩
    have hf:=hfl 42;have hfb:(({ s2 with at_:=l.length }:PS).fail 42).bad≠0:=by unfold PS.fail;simp[hb]
    generalize({ s2 with at_:=l.length }:PS).fail 42=s4 at *;simp only[PS.Oa,hs2l,hs2e,hb]at hf;refine O5 hX ?_;simp[xD,hz,bP];rw[← bP];refine hR H _ _ _ ?_ ?_ ?_ ?_ (fun _ env' j0 j1 j4=>?_) (fun _ _ q=>absurd q (by simp))
    ·simp
    ·simp
    ·simp
    ·simp
    by_cases hbl:s1.bad=0∧s1.at_<s1.l.length
    ·rw[if_pos hbl]at hs2
     obtain⟨hb1,hl1⟩:=hbl;rw[hsl]at hl1;have hl1':(s1.at_:Int)<l.length:=by omega
     rw[← hs2]at hw1;simp[aB,j0,j1,j4,z7,hc1',hb1,hl1,hl1',hw1,hb,hdp,hd,hf,hfb,aH,z0,bP,aW,Expr.bI,hs2l,hs2e]
    ·rw[if_neg hbl]at hs2
     subst hs2;by_cases hb1:s2.bad=0
     ·have hl1:¬s2.at_<l.length:=fun q=>hbl ⟨hb1,by rw[hsl];exact q⟩
      have hl1':¬(s2.at_:Int)<l.length:=by omega
      simp[aB,j0,j1,j4,z7,hc1',hl1,hl1',hb,hdp,hd,hf,hfb,aH,z0,bP,aW,Expr.bI,hs2l,hs2e]
     ·exact absurd hb1 (by first | exact fun q=>q hb | exact fun q=>hb q)
   ·by_cases hq:4096<ss
    ·refine⟨e0,(({ s2 with at_:=l.length }:PS).fail 3).place,(({ s2 with at_:=l.length }:PS).fail 3).bad,hU hen,fun H=>?_⟩
     have hf:=hfl 3;have hfb:(({ s2 with at_:=l.length }:PS).fail 3).bad≠0:=by unfold PS.fail;simp[hb]
     generalize({ s2 with at_:=l.length }:PS).fail 3=s4 at *;simp only[PS.Oa,hs2l,hs2e,hb]at hf;refine O5 hX ?_;simp[xD,hz,bP];rw[← bP];refine hR H _ _ _ ?_ ?_ ?_ ?_ (fun _ env' j0 j1 j4=>?_) (fun _ _ q=>absurd q (by simp))
     ·simp
     ·simp
     ·simp
     ·simp
     by_cases hbl:s1.bad=0∧s1.at_<s1.l.length
     ·rw[if_pos hbl]at hs2
      obtain⟨hb1,hl1⟩:=hbl;rw[hsl]at hl1;have hl1':(s1.at_:Int)<l.length:=by omega
      rw[← hs2]at hw1;simp[aB,j0,j1,j4,z7,hc1',hb1,hl1,hl1',hw1,hb,hdp,hd,hsz,hq,hf,hfb,aH,z0,bP,aW,Expr.bI,hs2l,hs2e]
     ·rw[if_neg hbl]at hs2
      subst hs2;by_cases hb1:s2.bad=0
      ·have hl1:¬s2.at_<l.length:=fun q=>hbl ⟨hb1,by rw[hsl];exact q⟩
       have hl1':¬(s2.at_:Int)<l.length:=by omega
       simp[aB,j0,j1,j4,z7,hc1',hl1,hl1',hb,hdp,hd,hsz,hq,hf,hfb,aH,z0,bP,aW,Expr.bI,hs2l,hs2e]
      ·exact absurd hb1 (by first | exact fun q=>q hb | exact fun q=>hb q)
    ·refine⟨e,en,0,hel,fun H=>?_⟩
     refine O5 hX ?_;simp[xD,hz,bP];rw[← bP];refine hR H _ _ _ ?_ ?_ ?_ ?_ (fun _ env' j0 j1 j4=>?_) (fun _ _ q=>absurd q (by simp))
     ·simp
     ·simp
     ·simp
     ·simp
     by_cases hbl:s1.bad=0∧s1.at_<s1.l.length
     ·rw[if_pos hbl]at hs2
      obtain⟨hb1,hl1⟩:=hbl;rw[hsl]at hl1;have hl1':(s1.at_:Int)<l.length:=by omega
      rw[← hs2]at hw1;simp[aB,j0,j1,j4,z7,hc1',hb1,hl1,hl1',hw1,hb,hdp,hd,hsz,hq,aH,z0,bP,aW,Expr.bI,hs2l,hs2e]
     ·rw[if_neg hbl]at hs2
      subst hs2;by_cases hb1:s2.bad=0
      ·have hl1:¬s2.at_<l.length:=fun q=>hbl ⟨hb1,by rw[hsl];exact q⟩
       have hl1':¬(s2.at_:Int)<l.length:=by omega
       simp[aB,j0,j1,j4,z7,hc1',hl1,hl1',hb,hdp,hd,hsz,hq,aH,z0,bP,aW,Expr.bI,hs2l,hs2e]
      ·exact absurd hb1 (by first | exact fun q=>q hb | exact fun q=>hb q)
  ·refine⟨e0,s2.place,s2.bad,hU hen,fun H=>?_⟩
   refine O5 hX ?_;simp[xD,hz,bP];rw[← bP];refine hR H _ _ _ ?_ ?_ ?_ ?_ (fun _ env' j0 j1 j4=>?_) (fun _ _ q=>absurd q (by simp))
   ·simp
   ·simp
   ·simp
   ·simp
   by_cases hbl:s1.bad=0∧s1.at_<s1.l.length
   ·rw[if_pos hbl]at hs2
    obtain⟨hb1,hl1⟩:=hbl;rw[hsl]at hl1;have hl1':(s1.at_:Int)<l.length:=by omega
    rw[← hs2]at hw1;simp[aB,j0,j1,j4,z7,hc1',hb1,hl1,hl1',hw1,hb,aH,z0,bP,aW,Expr.bI,hs2l,hs2e]
   ·rw[if_neg hbl]at hs2
    subst hs2;simp[aB,j0,j1,j4,z7,hc1',hb,aH,z0,bP,aW,Expr.bI,hs2l,hs2e]
theorem YN(hX:CX X)(s:Bs):∃(e:Expr) (a c:Int),aL s.length e∧∀H:aA,cF X p7 [.str s] H=some (.tup [.agg e.cells,.int .i64 a,.int .i64 c],H):=by
 obtain⟨l,f,a,c,hto,hll, -,ht⟩:=FZ hX s;by_cases hc:c=0
 ·subst hc
  obtain⟨e,a2,c2,he,hp⟩:=YK hX (f:=f) hto hll (by omega);refine⟨e,a2,c2,he,fun H=>?_⟩;refine NF hX ?_;have hz:z0=e0.cells:=by rw[bP];rfl
  simp[El,aB,ht,hp,hz,aH,Expr.bI]
 ·refine⟨e0,a,c,hU (by omega),fun H=>?_⟩
  refine NF hX ?_;have hz:z0=e0.cells:=by rw[bP];rfl
  simp[El,aB,ht,hc,z0,bP,aH,aW]
end
end Go.AM.T
namespace Go.AM
def eP(l:List Int):Prop:=∀x∈l,0<=x∧x<4294967296
theorem eP.tail {x:Int}{l:List Int}(h:eP (x::l)):eP l:=fun y hy=>h y (List.mem_cons_of_mem _ hy)
theorem eP.head {x:Int}{l:List Int}(h:eP (x::l)):0<=x∧x<4294967296:=h x (by simp)
theorem eP.drop {l:List Int}(h:eP l)(k:Nat):eP (l.drop k):=fun x hx=>h x (List.mem_of_mem_drop hx)
theorem eP.take {l:List Int}(h:eP l)(k:Nat):eP (l.take k):=fun x hx=>h x (List.mem_of_mem_take hx)
theorem eP.get {l:List Int}(h:eP l){k:Nat}(hk:k<l.length):0<=l[k]∧l[k]<4294967296:=h _ (by simp)
def bQ:List Int->Nat->List Int×Nat
 | [],_=>([],0)
 | x::r,y=>(((((bQ r y).2*4294967296+x.toNat) / y:Nat):Int)::(bQ r y).1,((bQ r y).2*4294967296+x.toNat) % y)
theorem Ar {l:List Int}{y:Nat}(hy:0<y):(bQ l y).2<y:=by
 cases l with
 | nil=>exact hy
 | cons x r=>exact Nat.mod_lt _ hy
theorem Au:∀(l:List Int) (y:Nat),(bQ l y).1.length=l.length
 | [],_=>rfl
 | x::r,y=>by simp[bQ,Au r y]
theorem II {x:Int}(h:0<=x∧x<4294967296):x.toNat<4294967296:=by omega
theorem KW:∀ {l:List Int} {y:Nat},0<y->eP l->eP (bQ l y).1
 | [],_,_,_=>by simp[bQ,eP]
 | x::r,y,hy,h=>by
  intro z hz;rcases List.mem_cons.1 hz with rfl | hz
  ·have h1:=Ar (l:=r) hy
   have h2:=II h.head;have:((bQ r y).2*4294967296+x.toNat) / y<4294967296:=by
    rw[Nat.div_lt_iff_lt_mul hy];have:((bQ r y).2+1)*4294967296<=y*4294967296:=Nat.mul_le_mul_right _ h1;omega
   exact⟨Int.natCast_nonneg _,Int.ofNat_lt.2 this⟩
  ·exact KW hy h.tail z hz
theorem Mi:∀ {l:List Int} {y:Nat},0<y->eP l->cG l=cG (bQ l y).1*y+(bQ l y).2
 | [],_,_,_=>by simp[bQ,cG]
 | x::r,y,hy,h=>by
  have ih:=Mi hy h.tail;simp only[bQ,cG];have e:=Nat.div_add_mod ((bQ r y).2*4294967296+x.toNat) y;rw[Int.toNat_natCast,ih];generalize((bQ r y).2*4294967296+x.toNat) / y=a at *;generalize((bQ r y).2*4294967296+x.toNat) % y=c at *;generalize cG (bQ r y).1=q at *;rw[Nat.add_mul,Nat.mul_comm y a]at *;have:4294967296*(q*y+(bQ r y).2)=4294967296*q*y+(bQ r y).2*4294967296:=by rw[Nat.mul_add,Nat.mul_assoc];omega
  omega
theorem zJi {l:List Int}{y:Nat}(hy:0<y)(h:eP l):cG (bQ l y).1=cG l / y:=by
 rw[Mi hy h,Nat.mul_comm,Nat.mul_add_div hy,Nat.div_eq_of_lt (Ar hy)];rfl
theorem KX {l:List Int}{y:Nat}(hy:0<y)(h:eP l):(bQ l y).2=cG l % y:=by
 rw[Mi hy h,Nat.mul_comm,Nat.mul_add_mod,Nat.mod_eq_of_lt (Ar hy)]
theorem zJh {l:List Int}{y k:Nat}(h:k<l.length):bQ (l.drop k) y=(((((bQ (l.drop (k+1)) y).2*4294967296+l[k].toNat) / y:Nat):Int)::(bQ (l.drop (k+1)) y).1,((bQ (l.drop (k+1)) y).2*4294967296+l[k].toNat) % y):=by
 rw[List.drop_eq_getElem_cons h,bQ]
def gI(l:List Int):Nat->Nat
 | 0=>0
 | n+1=>if l[n]? =some 0 then gI l n else n+1
theorem Gl(l:List Int):∀n,gI l n<=n
 | 0=>by simp[gI]
 | n+1=>by
  have:=Gl l n;simp only[gI];split <;> omega
theorem u6:∀(a b:List Int),cG (a++b)=cG a+4294967296 ^ a.length*cG b
 | [],b=>by simp[cG]
 | x::a,b=>by
  simp only[List.cons_append,cG,u6 a b,List.length_cons,Nat.pow_succ];rw[Nat.mul_add, ← Nat.mul_assoc,Nat.mul_comm 4294967296 (4294967296 ^ a.length)];omega
theorem BD {l:List Int}:∀ {n},n<=l.length->cG (l.take (gI l n))=cG (l.take n)
 | 0,_=>rfl
 | n+1,h=>by
  simp only[gI];split
  ·rename_i h0
   rw[BD (by omega)];have hn:n<l.length:=by omega
   rw[List.getElem?_eq_getElem hn]at h0;rw[← List.take_append_getElem hn,u6];have:l[n]=0:=by simpa using h0
   simp[cG,this]
  ·rfl
theorem BE {l:List Int}(hu:eP l):∀ {n},n<=l.length->(gI l n=0↔cG (l.take n)=0)
 | 0,_=>by simp[gI,cG]
 | n+1,h=>by
  have hn:n<l.length:=by omega
  simp only[gI];rw[List.getElem?_eq_getElem hn, ← List.take_append_getElem hn,u6];split
  ·rename_i h0
   have:l[n]=0:=by simpa using h0
   rw[BE hu (by omega)];simp[cG,this]
  ·rename_i h0
   have h1:l[n]≠0:=by simpa using h0
   have h2:=hu.get hn;simp only[Nat.add_eq_zero_iff,Nat.succ_ne_zero,and_false,false_iff,not_and,cG];intro _ h3;have h4:0<4294967296 ^ (l.take n).length:=Nat.pow_pos (by decide);have h5:0<l[n].toNat:=by omega
   have:=Nat.mul_pos h4 (Nat.lt_of_lt_of_le h5 (Nat.le_add_right _ (4294967296*0)));omega
theorem IF:∀ {l:List Int},eP l->cG l<4294967296 ^ l.length
 | [],_=>by simp[cG]
 | x::r,h=>by
  have ih:=IF h.tail;have h1:=II h.head;simp only[cG,List.length_cons,Nat.pow_succ];have:(cG r+1)*4294967296<=4294967296 ^ r.length*4294967296:=Nat.mul_le_mul_right _ ih;omega
theorem IE {l:List Int}(hu:eP l)(hne:l≠ [])(hl:l.getLast?≠some 0):0<cG l:=by
 have hlen:0<l.length:=List.length_pos_iff.2 hne;have hk:l.length-1<l.length:=by omega
 rw[List.getLast?_eq_getElem?,List.getElem?_eq_getElem hk]at hl;have h2:=hu.get hk;have e:l=l.take (l.length-1)++[l[l.length-1]]:=by
  rw[List.take_append_getElem hk,List.take_of_length_le (by omega)]
 rw[e,u6];have h3:l[l.length-1]≠0:=by simpa using hl
 have h4:0<4294967296 ^ (l.take (l.length-1)).length:=Nat.pow_pos (by decide);have h5:0<cG [l[l.length-1]]:=by simp[cG];omega
 have:=Nat.mul_pos h4 h5;omega
theorem N4:eS 0=0:=by rw[eS];rfl
theorem N5 {n:Nat}(h:n≠0):eS n=eS (n / 10)+1:=by rw[eS,dif_neg h]
theorem KY {n k : Nat} (h : n < 10 ^ k) : eS n <= k := by
  induction k generalizing n with
  | zero => obtain rfl : n = 0 := by simpa using h
            rw [N4]; omega
  | succ k ih =>
    by_cases h0 : n = 0
    · subst h0; rw [N4]; omega
    · rw [N5 h0]
      have := ih (n := n / 10) (by rw [Nat.pow_succ] at h; omega)
      omega
theorem zJj {q r : Nat} (hq : 0 < q) (hr : r < 1000000000) : eS (q * 1000000000 + r) = eS q + 9 := by
  have key : ∀ (k q r : Nat), 0 < q -> r < 10 ^ k -> eS (q * 10 ^ k + r) = eS q + k := by
    intro k
    induction k with
    | zero => intro q r _ h; obtain rfl : r = 0 := by simpa using h
              simp
    | succ k ih =>
      intro q r hq h
      have h1 : 0 < q * 10 ^ (k + 1) := Nat.mul_pos hq (Nat.pow_pos (by decide))
      rw [N5 (by omega)]
      have e : (q * 10 ^ (k + 1) + r) / 10 = q * 10 ^ k + r / 10 := by
        rw [Nat.pow_succ, ← Nat.mul_assoc]; omega
      rw [e, ih q (r / 10) hq (by rw [Nat.pow_succ] at h; omega)]
      omega
  exact key 9 q r hq hr
theorem ZM(k:Nat):(4294967296:Nat) ^ k<=10 ^ (10*k):=by
 rw[Nat.pow_mul];exact Nat.pow_le_pow_left (by decide) k
end Go.AM
namespace Go.AM.T
section
variable {X:Ctx}
theorem PV {k n:Nat}(h:k<n)(hn:(n:Int)<=9223372036854775807):IntKind.i64.wrap ((k:Int)+1)=((k+1:Nat):Int):=by
 rw[wrap_i64 (by omega) (by omega)];omega
def vF:List Int->Int
 | []=>0
 | x::r=>if x≠0 then x else vF r
theorem zJS(hX:CX X)(H:aA)(l:List Int)(hl:(l.length:Int)<=9223372036854775807):cF X o3 [.fsl (l.map (D.int .i64)) l.length] H=some (.int .i64 (vF l),H):=by
 refine zLt hX ?_;simp[Un];refine cH (fun k e H'=>H'=H∧k<=l.length∧e.get 3=.int .i64 0∧e.get 6=.fsl (l.map (D.int .i64)) l.length∧e.get 7=.int .i64 l.length∧e.get 8=.int .i64 k∧vF l=vF (l.drop k)) (fun k=>l.length-k) ?_ 0 (by simp);rintro k e H' ⟨rfl,hk,h3,h6,h7,h8,hd⟩ L ih;by_cases h:k<l.length
 ·rw[List.drop_eq_getElem_cons h,vF]at hd
  by_cases hz:l[k]=0
  ·simp[hz]at hd
   simp[Dh,h3,h6,h7,h8,h,jN h,hz,PV h hl];refine ih (k+1) _ _ (by omega) ?_;simp[h3,h6,h7,hd];omega
  ·simp[hz]at hd
   simp[Dh,h3,h6,h7,h8,h,jN h,hz,aB,hd]
 ·obtain rfl:k=l.length:=by omega
  simp[vF]at hd;simp[Dh,h3,h6,h7,h8,aB,hd]
theorem zJR(hX:CX X)(H:aA)(a b:Int):cF X o3 [.fsl [.int .i64 a,.int .i64 b] 2] H=some (.int .i64 (Hy a b),H):=by
 have:=zJS hX H [a,b] (by simp);simp only[List.map_cons,List.map_nil,List.length_cons,List.length_nil]at this;rw[this];simp only[vF,Hy,ne_eq];congr 3;by_cases h:a=0 <;> by_cases h':b=0 <;> simp[h,h']
end
section
variable {X:Ctx}
abbrev cJ(l:List Int):List D:=l.map (D.int .u32)
theorem C9 {l:List Int}{k:Nat}(h:k<l.length):aJ false 1 (List.drop k (cJ l))=some (.int .u32 l[k]):=jN h
theorem zF5 {n:Nat}(h:0<n)(hn:(n:Int)<=9223372036854775807):IntKind.i64.wrap ((n:Int)-1)=((n-1:Nat):Int):=by rw[wrap_i64 (by omega) (by omega)];omega
theorem Z9(hX:CX X)(H:aA)(f:Nl)(l:List Int)(hl:(l.length:Int)<=9223372036854775807):cF X vM [SL f (cJ l) l.length] H=some (.int .i64 (lM l),H):=by
 refine zK1 hX ?_;unfold lM;by_cases h1:256<l.length
 ·have h1':(256:Int)<l.length:=by omega
  simp[A3,aB,h1,h1']
 ·have h1':¬(256:Int)<l.length:=by omega
  by_cases h0:l.length=0
  ·have:l=[]:=List.length_eq_zero_iff.1 h0
   subst this;simp[A3,aB]
  ·have h2:0<l.length:=by omega
   have hk:l.length-1<l.length:=by omega
   have e1:=zF5 (show 0<l.length by omega) hl;rw[List.getLast?_eq_getElem?,List.getElem?_eq_getElem hk];have hld:=C9 hk;by_cases h3:l[l.length-1]=0
   ·rw[h3]at hld
    simp[A3,aB,h1,h1',h2,e1,hk,hld,h3]
   ·simp[A3,aB,h1,h1',h2,e1,hk,hld,h3]
theorem zAy {hi lo:Nat}(h1:hi<4294967296)(h2:lo<4294967296):lL .u64 ((hi:Int)*4294967296) lo=((hi*4294967296+lo:Nat):Int):=by
 unfold lL;have hb:IntKind.u64.bits=64:=rfl;rw[hb];have e1:(BitVec.ofInt 64 ((hi:Int)*4294967296)).toNat=hi*4294967296:=by
  rw[BitVec.toNat_ofInt,show((hi:Int)*4294967296) % (2 ^ 64:Nat)=(hi:Int)*4294967296 from Int.emod_eq_of_lt (by omega) (by omega)];omega
 have e2:(BitVec.ofInt 64 (lo:Int)).toNat=lo:=by
  rw[BitVec.toNat_ofInt,show(lo:Int) % (2 ^ 64:Nat)=lo from Int.emod_eq_of_lt (by omega) (by omega)];omega
 have e3:(BitVec.ofInt 64 ((hi:Int)*4294967296) ||| BitVec.ofInt 64 (lo:Int)).toNat=hi*4294967296+lo:=by
  rw[BitVec.toNat_or,e1,e2];have:=Nat.shiftLeft_add_eq_or_of_lt (i:=32) (b:=lo) (by omega) hi;rw[Nat.shiftLeft_eq]at this;exact this.symm
 rw[e3,wrap_u64 (by omega) (by omega)]
theorem zOG(hX:CX X)(H:aA)(hi lo y:Nat)(h1:hi<y)(h2:lo<4294967296)(h3:y<4294967296):cF X n5 [.int .u32 hi,.int .u32 lo,.int .u32 y] H=some (.tup [.int .u32 (((hi*4294967296+lo) / y:Nat):Int),.int .u32 (((hi*4294967296+lo) % y:Nat):Int)],H):=by
 refine zLi hX ?_;have g1:¬(y:Int)<=hi:=by omega
 have g2:¬(y:Int)=0:=by omega
 have w1:=wrap_u64 (n:=(hi:Int)) (by omega) (by omega);have w2:=wrap_u64 (n:=(lo:Int)) (by omega) (by omega);have w3:=wrap_u64 (n:=(y:Int)) (by omega) (by omega);have w4:=wrap_u64 (n:=(hi:Int)*4294967296) (by omega) (by omega);have e:=zAy (hi:=hi) (lo:=lo) (by omega) h2;have hq:(hi*4294967296+lo) / y<4294967296:=by
  rw[Nat.div_lt_iff_lt_mul (by omega)];have:(hi+1)*4294967296<=y*4294967296:=Nat.mul_le_mul_right _ h1;omega
 have hr:(hi*4294967296+lo) % y<y:=Nat.mod_lt _ (by omega);have t1:(((hi*4294967296+lo:Nat):Int)).tdiv y=(((hi*4294967296+lo) / y:Nat):Int):=by rw[Int.ofNat_tdiv]
 have t2:(((hi*4294967296+lo:Nat):Int)).tmod y=(((hi*4294967296+lo) % y:Nat):Int):=by rw[Int.ofNat_tmod]
 generalize hq':(hi*4294967296+lo) / y=q at *;generalize hr':(hi*4294967296+lo) % y=r at *;generalize hz':hi*4294967296+lo=z at *;have w5:=wrap_u64 (n:=(q:Int)) (by omega) (by omega);have w6:=wrap_u32 (n:=(q:Int)) (by omega) (by omega);have w7:=wrap_u32 (n:=(r:Int)) (by omega) (by omega);have w8:=wrap_u64 (n:=(r:Int)) (by omega) (by omega);have g3:(y == 0)=false:=by simpa using g2
 have g2':¬y=0:=by omega
 have g1':¬y<=hi:=by omega
 simp[Ts,aB,g1,g1',g2,g2',w1,w2,w3,w4,e,t1,t2,w5,w6,w7,IntKind.bits]
theorem PJ(hX:CX X)(H:aA)(d:D)(h1:d.cells=[d])(h2:d.under 0=true)(h3:d.one=true)(h4:fz H H.length 62 d=some d)(h5:d.under H.length=true):cF X vL [d] H=some (.func pE [] [.fptr [d]],H):=by
 refine zKW hX ?_;simp[Rs,aB,D.fA,h1,h2,h3]
theorem zOJ(hX:CX X)(f:Nl)(l:List Int)(hl:(l.length:Int)<=9223372036854775807)(id:Nat)(HS:Nat->aA)(hlen:∀k,(HS k).length=(HS l.length).length)
  (hy:∀k (h:k<l.length),aU X (.yield id) [.int .i64 k,.int .u32 l[k]] (HS (k+1))=some (.bool true,HS k)):
  aU X (.func pE [] [.fptr [SL f (cJ l) l.length]]) [.yield id] (HS l.length)=some (.tup [],HS 0):=by
 refine MP hX ?_;have e0:IntKind.i64.wrap ((l.length:Int)-1)=(l.length:Int)-1:=wI;simp[Cv,e0];refine cH (fun k e H'=>H'=HS k∧k<=l.length∧e.get 0=.yield id∧e.get 1=.fptr [SL f (cJ l) l.length]∧e.get 3=.int .i64 ((k:Int)-1)) (fun k=>k) ?_ l.length (by simp);rintro k e H' ⟨rfl,hk,h0,h1,h3⟩ L ih;by_cases h:k=0
 ·subst h
  have:¬(0:Int)<=((0:Nat):Int)-1:=by omega
  simp[Cu,h0,h1,h3,aB];exact List.take_of_length_le (by rw[hlen];exact Nat.le_refl _)
 ·obtain⟨q,rfl⟩:∃q,k=q+1:=⟨k-1,by omega⟩
  have hq:q<l.length:=by omega
  have e1:((q+1:Nat):Int)-1=q:=by omega
  have e2:IntKind.i64.wrap ((q:Int)-1)=(q:Int)-1:=wI;rw[e1]at h3;simp[Cu,h0,h1,h3,hq,C9 hq,hy q hq,e2];refine ih q _ _ (by omega) ?_;simp[h0,h1];omega
theorem RH(hX:CX X)(H:aA)(x:Int)(h:x≠0):cF X nK [.fsl [.int .u32 x,.int .u32 0] 2] H=some (.fsl [.int .u32 x] 1,H):=by
 refine Nn hX ?_;have w1:IntKind.i64.wrap (2-1)=1:=by decide+kernel
 have w2:IntKind.i64.wrap 1=1:=by decide+kernel
 have w3:IntKind.i64.wrap (1-1)=0:=by decide+kernel
 have w4:IntKind.i64.wrap 0=0:=by decide+kernel
 simp[A2,wW,eT,aB,w1,w2,w3,w4,iD,dY,h]
theorem RJ(hX:CX X)(H:aA)(x:Int):cF X nK [.fsl [.int .u32 x] 1] H=some (if x=0 then .nilsl else .fsl [.int .u32 x] 1,H):=by
 refine Nn hX ?_;have w1:IntKind.i64.wrap (1-1)=0:=by decide+kernel
 have w2:IntKind.i64.wrap 0=0:=by decide+kernel
 by_cases h:x=0
 ·simp[A2,wW,eT,aB,w1,w2,iD,dY,h]
 ·simp[A2,wW,eT,aB,w1,w2,iD,dY,h]
theorem RI(hX:CX X)(H:aA)(id:Nat)(l:List Int)(hid:id<H.length)(hr:H[id]? =some (.row 1 (cJ l) false))(hl:(l.length:Int)<=9223372036854775807):cF X nK [.osl id l.length 0 l.length] H=some (if gI l l.length=0 then .nilsl else .osl id l.length 0 (gI l l.length),H):=by
 refine Nn hX ?_;simp[A2];refine cH (fun k e H'=>H'=H∧k<=l.length∧e.get 0=.osl id l.length 0 k∧gI l l.length=gI l k) (fun k=>k) ?_ l.length (by simp);rintro k e H' ⟨rfl,hk,h0,hd⟩ L ih
 cases k with
 | zero=>
  simp[gI]at hd;simp[wW,h0,aB,hd]
 | succ k=>
  have hk':k<l.length:=by omega
  have e1:IntKind.i64.wrap (((k:Int)+1)-1)=k:=by rw[wrap_i64 (by omega) (by omega)];omega
  have e2:(0:Int)<(k:Int)+1:=by omega
  have e3:(k:Int)<(k:Int)+1:=by omega
  have e4:(k:Int)<=(k:Int)+1:=by omega
  simp only[gI,List.getElem?_eq_getElem hk']at hd;simp at e1;by_cases hz:l[k]=0
  ·simp[hz]at hd
   simp[wW,h0,e1,e2,e3,e4,hr,C9 hk',hz,iD,dY];refine ih k _ _ (by omega) ?_;simp[hd];omega
  ·simp[hz]at hd
   simp[wW,h0,e1,e2,e3,e4,hr,C9 hk',hz];simp[aB,hd,hid];omega
end
section
variable {X:Ctx}
abbrev D6(H:aA)(f:Nl)(a:List Int)(y:Nat):ALoop:=⟨(((((((((((((Env.nil.put 0 (SL f (cJ a) a.length)).put 1 (.int .u32 y)).put 2 (.fptr [SL f (cJ a) a.length])).put 3 (.fptr [.int .u32 y])).put 4 .nilsl).put 5 (.int .u32 0)).put 9 (SL f (cJ a) a.length)).put 10 (.int .i64 a.length)).put 11 (.osl H.length a.length 0 a.length)).put 6 .undef).put 6 (.ptr (H.length+1) 0)).put 7 (.ptr (H.length+2) 0)).put 12 (SL f (cJ a) a.length)).put 13 (.func pE [] [.fptr [SL f (cJ a) a.length]]),[14,15],Cx,Cw,.ready,none,H.length+3⟩
abbrev V4(H:aA)(L:ALoop)(n:Nat)(c:List Int)(r:Nat):aA:=
 H++[.row 1 (cJ c) false,.box [.osl H.length n 0 n],.box [.int .u32 r],.dfr false,.loop L]
def kU(a:List Int)(y k:Nat):List Int:=List.replicate k 0++(bQ (a.drop k) y).1
theorem VG {a:List Int}{y k:Nat}(h:k<=a.length):(kU a y k).length=a.length:=by simp[kU,Au];omega
theorem zJw(n:Nat):eB z20 n=cJ (List.replicate n 0):=by
 induction n with
 | zero=>rfl
 | succ n ih=>simp only[eB,ih,List.replicate_succ];rfl
theorem VE {n k:Nat}{q:List Int}{v:Int}:(cJ (List.replicate (k+1) 0++q)).take k++([D.int .u32 v]++(cJ (List.replicate (k+1) 0++q)).drop (k+1))=cJ (List.replicate k 0++v::q):=by
 have e1:(List.replicate (k+1) (0:Int))=List.replicate k 0++[0]:=List.replicate_succ';have e2:(cJ (List.replicate (k+1) 0++q)).take k=cJ (List.replicate k 0):=by
  rw[cJ,List.map_append,List.take_append_of_le_length (by simp),e1];simp
 have e3:(cJ (List.replicate (k+1) 0++q)).drop (k+1)=cJ q:=by
  rw[cJ,List.map_append,List.drop_append_of_le_length (by simp)];simp
 rw[e2,e3];simp
theorem VF(hX:CX X)(H:aA)(f:Nl)(a:List Int)(ha:eP a)(hl:(a.length:Int)<=1000000)(y:Nat)(hy:0<y)(hy2:y<4294967296)(k:Nat)(h:k<a.length):
  aU X (.yield (H.length+4)) [.int .i64 k,.int .u32 a[k]] (V4 H (D6 H f a y) a.length (kU a y (k+1)) (bQ (a.drop (k+1)) y).2)=some (.bool true,V4 H (D6 H f a y) a.length (kU a y k) (bQ (a.drop k) y).2):=by
 refine qW (L:=D6 H f a y) (by simp) rfl rfl ?_;have hu:=ha.get h;have e:=zJh (y:=y) h;have hlt:=Ar (l:=a.drop (k+1)) hy;have hlen:=VG (a:=a) (y:=y) (k:=k+1) h;have hc0:kU a y k=List.replicate k 0++((((bQ (a.drop (k+1)) y).2*4294967296+a[k].toNat) / y:Nat):Int)::(bQ (a.drop (k+1)) y).1:=by unfold kU;rw[e]
 have hs:=fun v=>VE (n:=0) (k:=k) (q:=(bQ (a.drop (k+1)) y).1) (v:=v)
 rw[hc0,show(bQ (a.drop k) y).2=((bQ (a.drop (k+1)) y).2*4294967296+a[k].toNat) % y by rw[e]];have hcc:kU a y (k+1)=List.replicate (k+1) 0++(bQ (a.drop (k+1)) y).1:=rfl;rw[← hcc]at hs;generalize hr:(bQ (a.drop (k+1)) y).2=r at *;generalize hq:(bQ (a.drop (k+1)) y).1=q at *;generalize hC:kU a y (k+1)=C at *;have hd:∀H',cF X n5 [.int .u32 r,.int .u32 a[k],.int .u32 y] H'=some (.tup [.int .u32 (((r*4294967296+a[k].toNat) / y:Nat):Int),.int .u32 (((r*4294967296+a[k].toNat) % y:Nat):Int)],H'):=fun H'=>by
  have:=zOG hX H' r a[k].toNat y hlt (by omega) hy2
  rwa [show((a[k].toNat:Nat):Int)=a[k] by omega]at this
 generalize hv:(r*4294967296+a[k].toNat) / y=v at *;generalize hw:(r*4294967296+a[k].toNat) % y=w at *;refine B5 (p:=Cx) (by delta Cx;rfl) ?_;simp[Env.dX];refine B5 (p:=Cw) (by delta Cw;rfl) ?_;have hk1:k+1<=a.length:=by omega
 have hs':=hs v;simp at hs';simp[h,C9 h,hd,zFA,hlen,hk1,eA,hs']
theorem small(hX:CX X)(H:aA)(f:Nl)(a:List Int)(ha:eP a)(hl:(a.length:Int)<=1000000)(y:Nat)(hy:0<y)(hy2:y<4294967296):
  cF X H3 [SL f (cJ a) a.length,.int .u32 y] H=some (.tup [SL .nil (cJ ((bQ a y).1.take (gI (bQ a y).1 a.length))) (gI (bQ a y).1 a.length),.int .u32 (bQ a y).2],H):=by
 refine zKY hX ?_;have hb:=PJ hX;have hbk:=zOJ hX f a (by omega) (H.length+4) (fun k=>V4 H (D6 H f a y) a.length (kU a y k) (bQ (a.drop k) y).2) (fun k=>by simp) (fun k h=>VF hX H f a ha hl y hy hy2 k h);have hm:a.length<=aX:=by unfold aX;omega
 have hm4:a.length*4<=aX:=by unfold aX;omega
 have hc0:cJ (kU a y a.length)=eB z20 a.length:=by rw[zJw,kU,List.drop_of_length_le (Nat.le_refl _)];simp[bQ]
 have hr0:(bQ (a.drop a.length) y).2=0:=by rw[List.drop_of_length_le (Nat.le_refl _)];rfl
 have hb2:∀H',cF X vL [SL f (cJ a) a.length] H'=some (.func pE [] [.fptr [SL f (cJ a) a.length]],H'):=fun H'=>hb H' _ Na jS kW lA jS
 simp[Ry,hm,hm4,hb2,z20,storable,Nat.blt_eq];simp only[V4]at hbk;rw[hr0,hc0]at hbk;have hC0:kU a y 0=(bQ a y).1:=by simp[kU]
 rw[show a.drop 0=a from rfl,hC0]at hbk;have hql:(bQ a y).1.length=a.length:=Au a y;generalize hq:(bQ a y).1=q at *;generalize hr:(bQ a y).2=r at *;refine oR (H.length+3) (H.length+4) (D6 H f a y) (by simp) rfl (g:=pE) (pre:=[]) (caps:=[.fptr [SL f (cJ a) a.length]]) (by simp) (by simpa [z20]using hbk) (by simp) (by simp) ?_;have ht:=fun(c:List Chunk)=>RI hX (H++(Chunk.row 1 (cJ q) false::c)) H.length q (by simp) (by simp) (by omega)
 rw[hql]at ht;have hle:=Gl q a.length;by_cases h0:gI q a.length=0
 ·simp[iO,ht,h0,aB,SL]
 ·simp[iO,ht,h0,aB,hql,hle,B7 (show 0<gI q a.length by omega)]
theorem RF(l:List Int)(m:Nat):cJ (l.take m)=(cJ l).take m:=List.map_take
theorem LQ(hX:CX X)(H:aA)(a b:Int):cF X Kc [.int .i64 a,.int .i64 b] H=some (.int .i64 (if a<b then -1 else if b<a then 1 else 0),H):=by
 have hn:∀(a:Int) H,cF X o0 [.int .i64 a] H=some (.bool false,H):=fun a H=>by
  refine zLs hX ?_;simp[Ul,aB]
 refine zLv hX ?_;by_cases h1:a<b
 ·simp[R1,aB,hn,h1]
 ·by_cases h2:b<a
  ·simp[R1,aB,hn,h1,h2]
  ·simp[R1,aB,hn,h1,h2]
theorem LP(hX:CX X)(H:aA)(a b:Int):cF X Kb [.int .u32 a,.int .u32 b] H=some (.int .i64 (if a<b then -1 else if b<a then 1 else 0),H):=by
 have hn:∀(a:Int) H,cF X n8 [.int .u32 a] H=some (.bool false,H):=fun a H=>by
  refine zLr hX ?_;simp[Uj,aB]
 refine zLu hX ?_;by_cases h1:a<b
 ·simp[R0,aB,hn,h1]
 ·by_cases h2:b<a
  ·simp[R0,aB,hn,h1,h2]
  ·simp[R0,aB,hn,h1,h2]
theorem zJH(hX:CX X)(H:aA)(f:Nl)(a:List Int)(h:1<a.length)(hl:(a.length:Int)<=1000000):cF X H4 [SL f (cJ a) a.length,.fsl [.int .u32 10] 1] H=some (.int .i64 1,H):=by
 refine MQ hX ?_;have h1:¬(a.length:Int)<1:=by omega
 have h2:(1:Int)<a.length:=by omega
 have h1':¬a.length<1:=by omega
 simp[Cy,aB,LQ hX,h1,h2,h,h1']
theorem NN(hX:CX X)(f:Nl)(x:Int)(id:Nat)(H0 H1:aA)(hlen:H1.length=H0.length){r:Bool}
  (hy:aU X (.yield id) [.int .i64 0,.int .u32 x] H0=some (.bool r,H1)):aU X (.func pE [] [.fptr [SL f [D.int .u32 x] 1]]) [.yield id] H0=some (.tup [],H1):=by
 refine MP hX ?_;have w0:IntKind.i64.wrap (1-1)=0:=by decide+kernel
 have w1:IntKind.i64.wrap 0=0:=by decide+kernel
 have w2:IntKind.i64.wrap (0-1)= -1:=by decide+kernel
 have w3:IntKind.i64.wrap (-1)= -1:=by decide+kernel
 have ht:H1.take H0.length=H1:=List.take_of_length_le (by omega)
 cases r <;> simp[Cv,Cu,eT,aB,w0,w1,w2,w3,hy,ht]
theorem zJG(hX:CX X)(H:aA)(f:Nl)(x:Int):cF X H4 [SL f [D.int .u32 x] 1,.fsl [.int .u32 10] 1] H=some (.int .i64 (if x<10 then -1 else if 10<x then 1 else 0),H):=by
 refine MQ hX ?_;have hb:∀H',cF X vL [SL f [D.int .u32 x] 1] H'=some (.func pE [] [.fptr [SL f [D.int .u32 x] 1]],H'):=fun H'=>PJ hX H' _ Na jS kW lA jS
 simp[Cy,LQ hX,hb];refine zOb (fun e=>e.get 2=.fptr [SL f [D.int .u32 x] 1]∧e.get 3=.fptr [.fsl [.int .u32 10] 1]∧e.get 4=.ptr H.length 0∧e.get 17=.func pE [] [.fptr [SL f [D.int .u32 x] 1]]) (by simp) ?_;rintro e ⟨g2,g3,g4,g17⟩;by_cases h0:(if x<10 then(-1:Int)else if 10<x then 1 else 0)=0
 ·refine zN8 (H.length+1) (H.length+2) (H++[.box [.int .i64 0]]) (by simp) rfl (by simp) g17 (d:=.tup []) ?_ ?_
  ·rintro L hL
   refine NN hX f x _ _ _ rfl (r:=true) ?_;refine qW (L:=L) (by simp) (by rw[hL]) (by rw[hL];rfl) ?_;subst hL;refine B5 (p:=Q5) (by delta Q5;rfl) ?_;simp[Env.dX];refine B5 (p:=Q4) (by delta Q4;rfl) ?_;simp[g2,g3,g4,LP hX,h0,eA]
  ·rw[h0]
   simp[g4,aB]
 ·refine zN9 (H.length+1) (H.length+2) (H++[.box [.int .i64 (if x<10 then(-1:Int)else if 10<x then 1 else 0)]]) .ret (by simp) rfl (by simp) g17 (d:=.tup []) ?_ ?_
  ·rintro L hL
   refine NN hX f x _ _ _ (by simp) (r:=false) ?_;refine qW (L:=L) (by simp) (by rw[hL]) (by rw[hL];rfl) ?_;subst hL;refine B5 (p:=Q5) (by delta Q5;rfl) ?_;simp[Env.dX];refine B5 (p:=Q4) (by delta Q4;rfl) ?_;simp[g2,g3,g4,LP hX,h0,eA]
  ·simp[iO,g4,aB]
theorem zOI(hX:CX X)(H:aA)(f:Nl)(a:List Int)(h:0<a.length)(hl:(a.length:Int)<=1000000):∃d H',cF X Jg [SL f (cJ a) a.length] H=some (d,H')∧(d=.osl H.length a.length 0 a.length∧H'=H++[.row 1 (cJ a) false]):=by
 refine zAq hX ?_;have hm4:a.length*4<=aX:=by unfold aX;omega
 have hm:a.length<=aX:=by unfold aX;omega
 have hne:¬a=[]:=by intro h';subst h';simp at h
 simp[Rq,B7 h,pU,uK,elems,cR,hm4,hm,storable,aB,hne]
end
section
variable {X:Ctx}
theorem zJg(hX:CX X)(H:aA)(f:Nl)(a:List Int)(ha:eP a)(hne:a≠ [])(hlast:a.getLast?≠some 0)(hl:(a.length:Int)<=1000000):
  ∃d H',cF X m7 [SL f (cJ a) a.length,.fsl [.int .u32 10] 1] H=some (d,H')∧((∃q m r,d=.tup [SL .nil q m,SL .nil (cJ r) r.length]∧(r=[]↔cG a % 10=0))∧H'=H):=by
 have hsm:cF X H3 [SL f (cJ a) a.length,.int .u32 10] H=some (.tup [SL .nil (cJ ((bQ a 10).1.take (gI (bQ a 10).1 a.length))) (gI (bQ a 10).1 a.length),.int .u32 (bQ a 10).2],H):=small hX H f a ha hl 10 (by omega) (by omega);have hmod:=KX (y:=10) (by omega) ha;have hpos:0<a.length:=List.length_pos_iff.2 hne;have w1:IntKind.i64.wrap (1-1)=0:=by decide+kernel
 have big:∀c:Int,0<=c->cF X H4 [SL f (cJ a) a.length,.fsl [.int .u32 10] 1] H=some (.int .i64 c,H)->
   ∃d H',cF X m7 [SL f (cJ a) a.length,.fsl [.int .u32 10] 1] H=some (d,H')∧((∃q m r,d=.tup [SL .nil q m,SL .nil (cJ r) r.length]∧(r=[]↔cG a % 10=0))∧H'=H):=by
  intro c hc hcmp;refine GZ hX ?_;have hc':¬c<0:=by omega
  have ht:=RJ hX H (bQ a 10).2;by_cases h0:(bQ a 10).2=0
  ·simp[h0]at ht hsm
   simp[Q3,hcmp,hc',hsm,z20,ht,aB];exact⟨_,_,[],⟨rfl,rfl⟩,by simp;omega⟩
  ·have h0':¬((bQ a 10).2:Int)=0:=by omega
   simp only[h0',if_false]at ht;simp[Q3,hcmp,hc',hsm,z20,ht,aB];exact⟨_,_,[((bQ a 10).2:Int)],⟨rfl,rfl⟩,by simp;omega⟩
 by_cases h1:1<a.length
 ·exact big 1 (by omega) (zJH hX H f a h1 hl)
 ·obtain⟨x,rfl⟩:∃x,a=[x]:=List.length_eq_one_iff.1 (by omega)
  have hx:=ha.head;have hx0:x≠0:=by simpa using hlast
  have hc:=zJG hX H f x;by_cases h10:x<10
  ·simp only[h10,if_true]at hc
   refine GZ hX ?_;obtain⟨d,H',g1,rfl,rfl⟩:=zOI hX H f [x] (by simp) (by simp);simp at g1;simp[Q3,hc,g1,aB,show¬H.length<H.length by omega];refine⟨[],0,[x],⟨rfl,rfl⟩,?_⟩;simp[cG];omega
  ·exact big _ (by split <;> first | omega | (split <;> omega)) hc
theorem zOD(hX:CX X)(H:aA):cF X Jj [.int .u64 10] H=some (.fsl [.int .u32 10] 1,H):=by
 refine zKZ hX ?_;have w1:IntKind.u32.wrap 10=10:=by decide+kernel
 have w2:IntKind.u32.wrap 0=0:=by decide+kernel
 have ht:=RH hX H 10 (by omega);simp[Se,aB,w1,w2,Zx,ht,IntKind.bits]
theorem zJs(hX:CX X)(H:aA)(f:Nl)(a:List Int)(ha:eP a)(hne:a≠ [])(hc:lM a=0):
  ∃d H',cF X Jy [SL f (cJ a) a.length] H=some (d,H')∧((∃q m,d=.tup [SL .nil q m,.bool (decide (cG a % 10=0))])∧H'=H):=by
 have hl:a.length<=256:=by unfold lM at hc;split at hc <;> omega
 have hlast:a.getLast?≠some 0:=by
  unfold lM at hc;rw[if_neg (by omega)]at hc;split at hc
  ·cases hc
  ·assumption
 have hpos:0<a.length:=List.length_pos_iff.2 hne;obtain⟨d,H',g1,⟨q,m,r,rfl,g2⟩,rfl⟩:=zJg hX H f a ha hne hlast (by omega);have c1:=Z9 hX H' f a (by omega);rw[hc]at c1;have c2:=Z9 hX H' .full [10] (by simp);simp[lM,zOA]at c2;have c3:=zJR hX H' 0 0;simp[Hy]at c3;have hdiv:cF X Jk [SL f (cJ a) a.length,.fsl [.int .u32 10] 1] H'=some (.tup [SL .nil q m,SL .nil (cJ r) r.length,.int .i64 0],H'):=by
  refine zK0 hX ?_;have h2:cF X Jh [SL f (cJ a) a.length,.fsl [.int .u32 10] 1] H'=some (.int .i64 0,H'):=by
   refine zKX hX ?_;simp[Rv,aB,c1,c2,c3]
  simp[Sg,aB,h2,g1]
 refine zAs hX ?_;simp[Ue,aB,zOD hX,hdiv];exact⟨⟨q,m,rfl⟩,g2⟩
end
end Go.AM.T
