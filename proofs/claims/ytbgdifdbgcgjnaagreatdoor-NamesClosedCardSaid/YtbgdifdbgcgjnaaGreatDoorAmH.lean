/- The abstract machine in a form that the kernel runs fast; known results, cuts, rows. -/
import Derived.Test.YtbgdifdbgcgjnaaGreatDoorAmA
import Derived.Test.YtbgdifdbgcgjnaaGreatDoorAmF
import Derived.Lib.Bytealg
import Derived.ChangeSame
import Derived.RowKit3
import Derived.Lib.LaidTab
import Derived.CallsIn
set_option linter.unusedVariables false
set_option linter.unusedSimpArgs false
set_option linter.unnecessarySimpa false
set_option maxRecDepth 100000
namespace Go.AM
inductive EP where
 | stop
 | l (p:EP)
 | r (p:EP)
noncomputable def pC(f:Nat):Nat->EP:=Nat.rec (motive:=fun _=>Nat->EP) (fun _=>.stop) (fun _ ih n=>Bool.rec (motive:=fun _=>EP) (Bool.rec (motive:=fun _=>EP) (.r (ih (Nat.div (Nat.sub n 1) 2))) (.l (ih (Nat.div (Nat.sub n 1) 2))) (Nat.beq (Nat.mod n 2) 1)) .stop (Nat.beq n 0)) f
theorem GR(f:Nat):pC f 0=.stop:=by cases f <;> rfl
theorem GS(f m:Nat):pC (f+1) (m+1)=if Nat.beq (m % 2) 0 then .l (pC f (m / 2))else .r (pC f (m / 2)):=by
 show Bool.rec (motive:=fun _=>EP) (.r (pC f (m / 2))) (.l (pC f (m / 2))) (Nat.beq ((m+1) % 2) 1)=_;rcases Nat.mod_two_eq_zero_or_one m with h | h
 ·have:(m+1) % 2=1:=by omega
  rw[h,this];rfl
 ·have:(m+1) % 2=0:=by omega
  rw[h,this];rfl
noncomputable def KH(e:Env):EP->D:=Env.rec (motive:=fun _=>EP->D) (fun _=>.undef) (fun _ v _ gl gr p=>EP.rec (motive:=fun _=>D) v (fun q _=>gl q) (fun q _=>gr q) p) e
noncomputable def zJ(e:Env)(n:Nat):D:=KH e (pC n n)
theorem zIp(e:Env)(f n:Nat)(h:n<=f):KH e (pC f n)=e.get n:=by
 induction e generalizing f n with
 | nil=>rfl
 | node l v r hl hr=>
  cases n with
  | zero=>rw[GR];rfl
  | succ m=>
   cases f with
   | zero=>omega
   | succ f=>
    rw[GS];show _=(if Nat.beq (m % 2) 0 then l.get (m / 2)else r.get (m / 2))
    cases Nat.beq (m % 2) 0 with
    | true=>exact hl f (m / 2) (by omega)
    | false=>exact hr f (m / 2) (by omega)
theorem Lw:zJ=Env.get:=by funext e n;exact zIp e n n (Nat.le_refl n)
noncomputable def JU(p:EP):Env->D->Env:=EP.rec (motive:=fun _=>Env->D->Env)
 (fun e v=>Env.rec (motive:=fun _=>Env) (.node .nil v .nil) (fun l _ r _ _=>.node l v r) e)
 (fun _ ih e v=>Env.rec (motive:=fun _=>Env) (.node (ih .nil v) .undef .nil) (fun l x r _ _=>.node (ih l v) x r) e)
 (fun _ ih e v=>Env.rec (motive:=fun _=>Env) (.node .nil .undef (ih .nil v)) (fun l x r _ _=>.node l x (ih r v)) e) p
noncomputable def K8(g:Nat)(e:Env)(n:Nat)(v:D):Env:=Bool.rec (motive:=fun _=>Env) (Env.set g e n v) (JU (pC n n) e v) (Nat.blt n (Nat.sub (Nat.pow 2 g) 1))
theorem zHV(g:Nat)(e:Env)(f n:Nat)(v:D)(h:n<=f)(hg:n+1<2 ^ g):JU (pC f n) e v=Env.set g e n v:=by
 induction g generalizing e f n with
 | zero=>simp at hg
 | succ g ih=>
  cases n with
  | zero=>rw[GR];cases e <;> rfl
  | succ m=>
   cases f with
   | zero=>omega
   | succ f=>
    have hp:2 ^ (g+1)=2*2 ^ g:=by rw[Nat.pow_succ];omega
    have h1:=fun e'=>ih e' f (m / 2) (by omega) (by omega)
    rw[GS]
    cases e with
    | nil=>
     show _=(if Nat.beq (m % 2) 0 then Env.node (Env.set g .nil (m / 2) v) .undef .nil else Env.node .nil .undef (Env.set g .nil (m / 2) v));rw[← h1 .nil]
     cases Nat.beq (m % 2) 0 <;> rfl
    | node l x r=>
     show _=(if Nat.beq (m % 2) 0 then Env.node (Env.set g l (m / 2) v) x r else Env.node l x (Env.set g r (m / 2) v));rw[← h1 l, ← h1 r]
     cases Nat.beq (m % 2) 0 <;> rfl
theorem JT:K8=Env.set:=by
 funext g e n v
 unfold K8
 cases h:Nat.blt n (Nat.sub (Nat.pow 2 g) 1)with
 | false=>rfl
 | true=>
  have h2:n<2 ^ g-1:=Nat.blt_eq.mp h;exact zHV g e n n v (Nat.le_refl n) (by omega)
noncomputable def cD {α:Type}(l:List α):Nat:=List.rec (motive:=fun _=>Nat) 0 (fun _ _ ih=>Nat.succ ih) l
theorem iQ {α:Type}(l:List α):cD l=l.length:=by
 induction l with
 | nil=>rfl
 | cons a l ih=>show Nat.succ (cD l)=_;rw[ih];rfl
noncomputable def iP {α:Type}(l:List α):Nat->Option α:=List.rec (motive:=fun _=>Nat->Option α) (fun _=>none) (fun a _ ih n=>Bool.rec (motive:=fun _=>Option α) (ih (Nat.sub n 1)) (some a) (Nat.beq n 0)) l
theorem pR {α:Type}(l:List α)(n:Nat):iP l n=l[n]? :=by
 induction l generalizing n with
 | nil=>rfl
 | cons a l ih=>
  cases n with
  | zero=>rfl
  | succ m=>show iP l m=_;rw[ih];simp
noncomputable def gG(n:Nat)(l:List D):Bool:=D.rec_1 (motive_1:=fun _=>Nat->Bool) (motive_2:=fun _=>Nat->Bool)
 (fun _=>false) (fun _ _=>true) (fun _ _ _=>true) (fun _ _=>true) (fun _=>true) (fun _=>true) (fun _=>true) (fun _=>true)
 (fun _ _ _=>true) (fun _ _ _ _=>true) (fun id _ n=>Nat.blt id n) (fun id _ _ n=>Nat.blt id n) (fun id _ _ _ n=>Nat.blt id n)
 (fun _ _ _ a b n=>Bool.rec (motive:=fun _=>Bool) false (b n) (a n)) (fun id n=>Nat.blt id n) (fun _ a=>a) (fun _ a=>a) (fun _ _ _=>true) (fun id n=>Nat.blt id n)
 (fun _=>true) (fun _ _ a b n=>Bool.rec (motive:=fun _=>Bool) false (b n) (a n)) l n
noncomputable def lT(l:List D):Bool:=List.rec (motive:=fun _=>Bool) true (fun d _ ih=>Bool.rec (motive:=fun _=>Bool) false ih
 (D.rec (motive_1:=fun _=>Bool) (motive_2:=fun _=>Bool) false (fun _=>true) (fun _ _=>true) (fun _=>true) true true true true (fun _ _=>true) (fun _ _ _=>true) (fun _ _=>true) (fun _ _ _=>true) (fun _ _ _ _=>true) (fun _ _ _ _ _=>true) (fun _=>true) (fun _ _=>false) (fun _ _=>false) (fun _ _=>true) (fun _=>true) true (fun _ _ _ _=>true) d)) l
theorem z8(l:List D):lT l=D.aF l:=by
 induction l with
 | nil=>rfl
 | cons d l ih=>
  have:lT (d::l)=Bool.rec (motive:=fun _=>Bool) false (lT l) d.one:=by cases d <;> rfl
  rw[this,ih];show _=(d.one && D.aF l)
  cases d.one <;> rfl
mutual
theorem zHR:(d:D)->(n:Nat)->gG n [d]=d.under n
 | .undef,n=>rfl
 | .bool _,n=>rfl
 | .int _ _,n=>rfl
 | .str _,n=>rfl
 | .nilp,n=>rfl
 | .nilsl,n=>rfl
 | .nilf,n=>rfl
 | .esl,n=>rfl
 | .fptr _,n=>rfl
 | .sym _ _,n=>rfl
 | .fsl _ _,n=>rfl
 | .ptr id o,n=>by show Bool.rec (motive:=fun _=>Bool) false true (Nat.blt id n)=Nat.blt id n;cases Nat.blt id n <;> rfl
 | .rptr id _ o,n=>by show Bool.rec (motive:=fun _=>Bool) false true (Nat.blt id n)=Nat.blt id n;cases Nat.blt id n <;> rfl
 | .osl id _ _ o,n=>by show Bool.rec (motive:=fun _=>Bool) false true (Nat.blt id n)=Nat.blt id n;cases Nat.blt id n <;> rfl
 | .yield id,n=>by show Bool.rec (motive:=fun _=>Bool) false true (Nat.blt id n)=Nat.blt id n;cases Nat.blt id n <;> rfl
 | .mp id,n=>by show Bool.rec (motive:=fun _=>Bool) false true (Nat.blt id n)=Nat.blt id n;cases Nat.blt id n <;> rfl
 | .func f a b,n=>by
  show Bool.rec (motive:=fun _=>Bool) false true (Bool.rec (motive:=fun _=>Bool) false (gG n b) (gG n a))=(D.aD n a && D.aD n b);rw[kN a n,kN b n]
  cases D.aD n a <;> cases D.aD n b <;> rfl
 | .agg cs,n=>by
  show Bool.rec (motive:=fun _=>Bool) false true (gG n cs)=D.aD n cs;rw[kN cs n];cases D.aD n cs <;> rfl
 | .tup cs,n=>by
  show Bool.rec (motive:=fun _=>Bool) false true (gG n cs)=D.aD n cs;rw[kN cs n];cases D.aD n cs <;> rfl
theorem kN:(l:List D)->(n:Nat)->gG n l=D.aD n l
 | [],n=>rfl
 | d::l,n=>by
  have h:=zHR d n;have h1:gG n [d]=Bool.rec (motive:=fun _=>Bool) false true (D.rec (motive_1:=fun _=>Nat->Bool) (motive_2:=fun _=>Nat->Bool)
 (fun _=>false) (fun _ _=>true) (fun _ _ _=>true) (fun _ _=>true) (fun _=>true) (fun _=>true) (fun _=>true) (fun _=>true)
 (fun _ _ _=>true) (fun _ _ _ _=>true) (fun id _ n=>Nat.blt id n) (fun id _ _ n=>Nat.blt id n) (fun id _ _ _ n=>Nat.blt id n)
 (fun _ _ _ a b n=>Bool.rec (motive:=fun _=>Bool) false (b n) (a n)) (fun id n=>Nat.blt id n) (fun _ a=>a) (fun _ a=>a) (fun _ _ _=>true) (fun id n=>Nat.blt id n)
 (fun _=>true) (fun _ _ a b n=>Bool.rec (motive:=fun _=>Bool) false (b n) (a n)) d n):=rfl
  have h2:gG n (d::l)=Bool.rec (motive:=fun _=>Bool) false (gG n l) (D.rec (motive_1:=fun _=>Nat->Bool) (motive_2:=fun _=>Nat->Bool)
 (fun _=>false) (fun _ _=>true) (fun _ _ _=>true) (fun _ _=>true) (fun _=>true) (fun _=>true) (fun _=>true) (fun _=>true)
 (fun _ _ _=>true) (fun _ _ _ _=>true) (fun id _ n=>Nat.blt id n) (fun id _ _ n=>Nat.blt id n) (fun id _ _ _ n=>Nat.blt id n)
 (fun _ _ _ a b n=>Bool.rec (motive:=fun _=>Bool) false (b n) (a n)) (fun id n=>Nat.blt id n) (fun _ a=>a) (fun _ a=>a) (fun _ _ _=>true) (fun id n=>Nat.blt id n)
 (fun _=>true) (fun _ _ a b n=>Bool.rec (motive:=fun _=>Bool) false (b n) (a n)) d n):=rfl
  rw[h2,kN l n];rw[h1]at h;show _=(d.under n && D.aD n l);rw[← h];generalize(D.rec (motive_1:=fun _=>Nat->Bool) (motive_2:=fun _=>Nat->Bool) _ _ _ _ _ _ _ _ _ _ _ _ _ _ _ _ _ _ _ _ _ d n:Bool)=x
  cases x <;> rfl
end
noncomputable def bM {α:Type}(d:D)(k:D->α):α:=D.rec (motive_1:=fun _=>α) (motive_2:=fun _=>PUnit)
 (k .undef) (fun b=>k (.bool b)) (fun a n=>k (.int a n)) (fun s=>k (.str s)) (k .nilp) (k .nilsl) (k .nilf) (k .esl) (fun cs _=>k (.fptr cs)) (fun cs n _=>k (.fsl cs n)) (fun i o=>k (.ptr i o)) (fun i h o=>k (.rptr i h o)) (fun i h o n=>k (.osl i h o n))
 (fun f p c _ _=>k (.func f p c)) (fun i=>k (.yield i)) (fun cs _=>k (.agg cs)) (fun vs _=>k (.tup vs)) (fun s l=>k (.sym s l)) (fun i=>k (.mp i)) PUnit.unit (fun _ _ _ _=>PUnit.unit) d
theorem pS {α:Type}(d:D)(k:D->α):bM d k=k d:=by cases d <;> rfl
noncomputable def wL {α:Type}(l:List D)(k:List D->α):α:=List.rec (motive:=fun _=>(List D->α)->α) (fun k=>k []) (fun d _ ih k=>bM d (fun d'=>ih (fun ds=>k (d'::ds)))) l k
theorem zO {α:Type}(l:List D)(k:List D->α):wL l k=k l:=by
 induction l generalizing k with
 | nil=>rfl
 | cons d l ih=>show bM d (fun d'=>wL l (fun ds=>k (d'::ds)))=_;rw[pS,ih]
noncomputable def M5 {α:Type}(l:List (Nat×Nat×D))(k:List (Nat×Nat×D)->α):α:=List.rec (motive:=fun _=>(List (Nat×Nat×D)->α)->α) (fun k=>k []) (fun p _ ih k=>Prod.rec (motive:=fun _=>α) (fun a q=>Prod.rec (motive:=fun _=>α) (fun b d=>bM d (fun d'=>ih (fun ds=>k ((a,b,d')::ds)))) q) p) l k
theorem zN {α:Type}(l:List (Nat×Nat×D))(k:List (Nat×Nat×D)->α):M5 l k=k l:=by
 induction l generalizing k with
 | nil=>rfl
 | cons p l ih=>obtain⟨a,b,d⟩:=p;show bM d (fun d'=>M5 l (fun ds=>k ((a,b,d')::ds)))=_;rw[pS,ih]
noncomputable def M4 {α β:Type}(l:List β)(k:List β->α):α:=List.rec (motive:=fun _=>(List β->α)->α) (fun k=>k []) (fun d _ ih k=>ih (fun ds=>k (d::ds))) l k
theorem tN {α β:Type}(l:List β)(k:List β->α):M4 l k=k l:=by
 induction l generalizing k with
 | nil=>rfl
 | cons d l ih=>show M4 l (fun ds=>k (d::ds))=_;rw[ih]
noncomputable def jP {α:Type}(a b:List α):List α:=List.rec (motive:=fun _=>List α) b (fun x _ ih=>x::ih) a
theorem wM {α:Type}(a b:List α):jP a b=a++b:=by
 induction a with
 | nil=>rfl
 | cons x a ih=>show x::jP a b=_;rw[ih];rfl
noncomputable def vV {α:Type}(n:Nat)(l:List α):List α:=List.rec (motive:=fun _=>Nat->List α) (fun _=>[]) (fun x _ ih n=>Bool.rec (motive:=fun _=>List α) (x::ih (Nat.sub n 1)) [] (Nat.beq n 0)) l n
theorem rP {α:Type}(n:Nat)(l:List α):vV n l=l.take n:=by
 induction l generalizing n with
 | nil=>cases n <;> rfl
 | cons x l ih=>
  cases n with
  | zero=>rfl
  | succ n=>show x::vV n l=_;rw[ih];rfl
noncomputable def tM {α:Type}(n:Nat)(l:List α):List α:=List.rec (motive:=fun _=>Nat->List α) (fun _=>[]) (fun x t ih n=>Bool.rec (motive:=fun _=>List α) (ih (Nat.sub n 1)) (x::t) (Nat.beq n 0)) l n
theorem wK {α:Type}(n:Nat)(l:List α):tM n l=l.drop n:=by
 induction l generalizing n with
 | nil=>cases n <;> rfl
 | cons x l ih=>
  cases n with
  | zero=>rfl
  | succ n=>show tM n l=_;rw[ih];rfl
noncomputable def tK {α:Type}(l:List α)(n:Nat)(v:α):List α:=List.rec (motive:=fun _=>Nat->List α) (fun _=>[]) (fun x t ih n=>Bool.rec (motive:=fun _=>List α) (x::ih (Nat.sub n 1)) (v::t) (Nat.beq n 0)) l n
theorem zD {α:Type}(l:List α)(n:Nat)(v:α):tK l n v=l.set n v:=by
 induction l generalizing n with
 | nil=>cases n <;> rfl
 | cons x l ih=>
  cases n with
  | zero=>rfl
  | succ n=>show x::tK l n v=_;rw[ih];rfl
noncomputable def vY(cs:List D)(off:Nat)(vs:List D):List D:=jP (jP (vV off cs) vs) (tM (off+cD vs) cs)
theorem vX:vY=splice:=by funext cs off vs;simp only[vY,splice,wM,rP,wK,iQ]
noncomputable def Lr(ag:Bool)(n:Nat)(cs:List D):Option D:=Bool.rec (motive:=fun _=>Option D) (List.rec (motive:=fun _=>Option D) none (fun d _ _=>some d) cs) (Bool.rec (motive:=fun _=>Option D) none (some (.agg (vV n cs))) (Nat.ble n (cD cs))) ag
theorem zG:Lr=aJ:=by
 funext ag n cs
 cases ag
 ·cases cs <;> rfl
 ·show Bool.rec (motive:=fun _=>Option D) none (some (.agg (vV n cs))) (Nat.ble n (cD cs))=(if true=true then(if n<=cs.length then some (.agg (cs.take n))else none)else cs.head?)
  rw[if_pos rfl,rP,iQ];by_cases h:n<=cs.length
  ·rw[if_pos h,show Nat.ble n cs.length=true from Nat.ble_eq.mpr h]
  ·rw[if_neg h,show Nat.ble n cs.length=false from by cases hb:Nat.ble n cs.length;rfl;exact absurd (Nat.ble_eq.mp hb) h]
noncomputable def L9(cells:List D)(l:List (Nat×Nat×D)):Option (List D):=List.rec (motive:=fun _=>List D->Option (List D)) (fun cells=>some cells)
 (fun p _ ih cells=>Prod.rec (motive:=fun _=>Option (List D)) (fun off q=>Prod.rec (motive:=fun _=>Option (List D)) (fun size v=>Bool.rec (motive:=fun _=>Option (List D)) none (Bool.rec (motive:=fun _=>Option (List D)) none (Bool.rec (motive:=fun _=>Option (List D)) none (M4 (vY cells off v.cells) ih) (lT v.cells)) (Nat.ble (Nat.add off size) (cD cells))) (Nat.beq (cD v.cells) size)) q) p) l cells
theorem zK:L9=fT:=by
 funext cells l
 induction l generalizing cells with
 | nil=>rfl
 | cons p l ih=>
  obtain⟨off,size,v⟩:=p;show Bool.rec (motive:=fun _=>Option (List D)) none (Bool.rec (motive:=fun _=>Option (List D)) none (Bool.rec (motive:=fun _=>Option (List D)) none (M4 (vY cells off v.cells) (fun x=>L9 x l)) (lT v.cells)) (Nat.ble (off+size) (cD cells))) (Nat.beq (cD v.cells) size)=_;rw[tN,ih,vX,z8,iQ,iQ]
  conv=>rhs;unfold fT
  by_cases h1:v.cells.length=size
  ·by_cases h2:off+size<=cells.length
   ·rw[show Nat.beq v.cells.length size=true from by rw[h1];exact Nat.beq_refl size,show Nat.ble (off+size) cells.length=true from Nat.ble_eq.mpr h2]
    cases h3:D.aF v.cells
    ·rw[if_neg (by simp)]
    ·rw[if_pos ⟨h1,h2,rfl⟩]
   ·rw[show Nat.beq v.cells.length size=true from by rw[h1];exact Nat.beq_refl size,show Nat.ble (off+size) cells.length=false from by cases hb:Nat.ble (off+size) cells.length;rfl;exact absurd (Nat.ble_eq.mp hb) h2,if_neg (fun h=>h2 h.2.1)]
  ·rw[show Nat.beq v.cells.length size=false from by cases hb:Nat.beq v.cells.length size;rfl;exact absurd (Nat.eq_of_beq_eq_true hb) h1,if_neg (fun h=>h1 h.1)]
noncomputable def bL(G:gT)(env:Env)(a:Arg):D:=Arg.rec (motive:=fun _=>D) (fun i=>zJ env i) (fun d=>d) (fun n=>match G n with
  | some cs=>.fptr cs
  | none=>.undef) a
theorem zM:bL=aI:=by funext G env a;cases a <;> first | rfl | (show zJ env _=_;rw[Lw];rfl)
noncomputable def wJ(G:gT)(env:Env)(l:List Arg):List D:=List.rec (motive:=fun _=>List D) [] (fun a _ ih=>bL G env a::ih) l
theorem zIu:wJ=fM:=by
 funext G env l
 induction l with
 | nil=>rfl
 | cons a l ih=>show bL G env a::wJ G env l=_;rw[ih,zM];rfl
noncomputable def zL(G:gT)(env:Env):List (Nat×Nat×Arg)->List (Nat×Nat×D)
 | []=>[]
 | (o,s,x)::r=>(o,s,bL G env x)::zL G env r
theorem zIs:zL=gK:=by
 funext G env l
 induction l with
 | nil=>rfl
 | cons a l ih=>obtain⟨o,s,x⟩:=a;show(o,s,bL G env x)::zL G env l=_;rw[ih,zM];rfl
noncomputable def wH(G:gT)(env:Env):Option Arg->Option D
 | none=>none
 | some x=>some (bL G env x)
theorem zIt:wH=cZ:=by funext G env o;cases o <;> simp[wH,cZ,zM]
noncomputable def Ag(H:aA):D->Option (List D)
 | .fptr cs=>some cs
 | .ptr id off=>match(iP H id)with
  | some (.box cs)=>some (tM off cs)
  | _=>none
 | .rptr id hw off=>match(iP H id)with
  | some (.row _ cs false)=>if(cD cs)=hw then some (tM off cs)else none
  | _=>none
 | _=>none
noncomputable def pP(b:Nat)(H:aA)(id:Nat)(vs:List D):Bool:=gG (if id<b then id+1 else(cD H)) vs && lT vs
noncomputable def Lg(b:Nat)(H:aA)(n:Nat)(p v:D):Option aA:=
 if v.cells.length=n then
  match p with
  | .ptr id off=>match(iP H id)with
   | some (.box cs)=>if off+n<=(cD cs)then(if pP b H id v.cells then some (tK H id (.box (vY cs off v.cells)))else none)else none
   | _=>none
  | .rptr id hw off=>match(iP H id)with
   | some (.row es cs false)=>if(cD cs)=hw then(if off+n<=(cD cs)then(if pP b H id v.cells then some (tK H id (.row es (vY cs off v.cells) false))else none)else none)else none
   | _=>none
  | _=>none
 else none
noncomputable def vZ(H:aA)(cs:List D):List (Nat×Nat)->Option (aA×List D)
 | []=>some (H,cs)
 | (off,es)::rest=>
  match cs[off]? with
  | some .nilsl=>if 0<es then vZ (jP H [.row es [] true]) (cs.set off (.osl (cD H) 0 0 0)) rest else none
  | _=>vZ H cs rest
noncomputable def Af(H:aA)(es:Nat):D->Option (List D×Nat)
 | .nilsl=>some ([],0)
 | .esl=>some ([],0)
 | .fsl cs n=>if n*es=(cD cs)then some (cs,n)else none
 | .osl id hw off n=>match(iP H id)with
  | some (.row es' cs nil)=>if es'=es∧(cD cs)=hw∧off+n*es<=hw∧(nil=true->n=0)then some (vV (n*es) (tM off cs),n)else none
  | _=>none
 | _=>none
noncomputable def Ah(b:Nat)(H:aA)(es bytes:Nat)(x:D)(ys:List D)(m:Nat):rT:=
 match x with
 | .nilsl=>
  if m=0 then some (.nilsl,H)else
  if m*bytes<=aX∧pP b H (cD H) ys∧m<=aX then some (.osl (cD H) (m*es) 0 m,jP H [.row es ys false])else none
 | .esl=>
  if m=0 then some (.esl,H)else
  if m*bytes<=aX∧pP b H (cD H) ys∧m<=aX then some (.osl (cD H) (m*es) 0 m,jP H [.row es ys false])else none
 | .osl id hw 0 n=>match(iP H id)with
  | some (.row es' cs nil)=>
   if es'=es∧(cD cs)=hw∧n*es<=hw∧(nil=true->n=0)∧(n+m)*bytes<=aX∧n+m<=aX∧pP b H id ys then
    (if m=0 then some (.osl id hw 0 n,H)else
    if n*es=hw then some (.osl id (hw+m*es) 0 (n+m),tK H id (.row es (cs++ys) false))else
    if(n+m)*es<=hw then some (.osl id hw 0 (n+m),tK H id (.row es (vY cs (n*es) ys) false))else
    some (.osl id ((n+m)*es) 0 (n+m),tK H id (.row es (cs.take (n*es)++ys) false)))
   else none
  | _=>none
 | _=>none
theorem KK:Ag=hZ:=by funext H d;cases d <;> simp only[Ag,hZ,wM,rP,wK,zD,vX,zG,zK,pS,zO,zN,tN,pR,iQ] <;> rfl
theorem Lh:pP=storable:=by funext b H id vs;simp[pP,storable,kN,z8,iQ]
theorem zHT:Lg=jI:=by funext b H n p v;simp only[Lg,jI,wM,rP,wK,zD,vX,zG,zK,pS,zO,zN,tN,pR,iQ,Lh];rfl
theorem zH2:vZ=bU:=by
 funext H cs l
 induction l generalizing H cs with
 | nil=>rfl
 | cons a l ih=>obtain⟨o,s⟩:=a;simp only[vZ,bU,wM,rP,wK,zD,vX,zG,zK,pS,zO,zN,tN,ih,iQ];rfl
theorem zIw:Af=elems:=by funext H es d;cases d <;> simp only[Af,elems,wM,rP,wK,zD,vX,zG,zK,pS,zO,zN,tN,pR,iQ] <;> rfl
theorem zIz:Ah=cR:=by funext b H es bytes x ys m;simp only[Ah,cR,wM,rP,wK,zD,vX,zG,zK,pS,zO,zN,tN,pR,iQ,Lh];rfl
noncomputable def DK(x:Arg)(G:gT)(bb:Nat)(call:cT)(env:Env)(H:aA):rT:=bM (bL G env x) fun d_x=>match d_x with
  | .undef=>none
  | d=>some (d,H)
noncomputable def DF(es:Nat)(G:gT)(bb:Nat)(call:cT)(env:Env)(H:aA):rT:=if 0<es then some (.osl (cD H) 0 0 0,jP H [.row es [] true])else none
noncomputable def DG(c:Arg)(a:Arg)(b:Arg)(G:gT)(bb:Nat)(call:cT)(env:Env)(H:aA):rT:=bM (bL G env c) fun d_c=>bM (bL G env a) fun d_a=>bM (bL G env b) fun d_b=>match d_c with
  | .bool x=>match(if x then d_a else d_b)with
   | .undef=>none
   | d=>some (d,H)
  | _=>none
noncomputable def FC(zs:List D)(res:List (Nat×Nat))(G:gT)(bb:Nat)(call:cT)(env:Env)(H:aA):rT:=match vZ H zs res with
  | some (H',cs)=>some (.ptr (cD H') 0,jP H' [.box cs])
  | none=>none
noncomputable def EV(n:Nat)(x:Arg)(G:gT)(bb:Nat)(call:cT)(env:Env)(H:aA):rT:=bM (bL G env x) fun d_x=>match d_x.cells with
  | cs=>if(cD cs)=n∧gG 0 cs∧lT cs then some (.fptr cs,H)else none
noncomputable def EW(n:Nat)(x:Arg)(res:List (Nat×Nat))(G:gT)(bb:Nat)(call:cT)(env:Env)(H:aA):rT:=bM (bL G env x) fun d_x=>match d_x.cells with
  | cs=>if(cD cs)=n then
   match vZ H cs res with
   | some (H',cs)=>if pP bb H' (cD H') cs then some (.ptr (cD H') 0,jP H' [.box cs])else none
   | none=>none
   else none
noncomputable def EO(zs:List D)(ps:List (Nat×Nat×Arg))(G:gT)(bb:Nat)(call:cT)(env:Env)(H:aA):rT:=M5 (zL G env ps) fun p_ps=>match L9 zs p_ps with
  | some cs=>if lT cs then some (.agg cs,H)else none
  | none=>none
noncomputable def ET(zs:List D)(n:Nat)(ps:List (Nat×Nat×Arg))(G:gT)(bb:Nat)(call:cT)(env:Env)(H:aA):rT:=M5 (zL G env ps) fun p_ps=>match L9 zs p_ps with
  | some cs=>if gG 0 cs∧lT cs then some (.fsl cs n,H)else none
  | none=>none
noncomputable def ES(es:Nat)(zs:List D)(n:Nat)(ps:List (Nat×Nat×Arg))(G:gT)(bb:Nat)(call:cT)(env:Env)(H:aA):rT:=M5 (zL G env ps) fun p_ps=>match L9 zs p_ps with
  | some cs=>if pP bb H (cD H) cs then some (.osl (cD H) (n*es) 0 n,jP H [.row es cs false])else none
  | none=>none
noncomputable def DQ(ag:Bool)(n:Nat)(p:Arg)(G:gT)(bb:Nat)(call:cT)(env:Env)(H:aA):rT:=bM (bL G env p) fun d_p=>match Ag H d_p with
  | some cs=>match Lr ag n cs with
   | some .undef=>none
   | some d=>some (d,H)
   | none=>none
  | none=>none
noncomputable def DC(n:Nat)(p:Arg)(v:Arg)(G:gT)(bb:Nat)(call:cT)(env:Env)(H:aA):rT:=bM (bL G env p) fun d_p=>bM (bL G env v) fun d_v=>match Lg bb H n d_p d_v with
  | some H'=>some (.tup [],H')
  | none=>none
noncomputable def DH(x:Arg)(G:gT)(bb:Nat)(call:cT)(env:Env)(H:aA):rT:=bM (bL G env x) fun d_x=>match d_x with
  | .ptr i o=>some (.ptr i o,H)
  | .rptr i h o=>some (.rptr i h o,H)
  | .fptr cs=>some (.fptr cs,H)
  | _=>none
noncomputable def EX(op:BinOp)(x:Arg)(y:Arg)(G:gT)(bb:Nat)(call:cT)(env:Env)(H:aA):rT:=bM (bL G env x) fun d_x=>bM (bL G env y) fun d_y=>match cQ op d_x d_y with
  | some d=>some (d,H)
  | none=>none
noncomputable def EE(neg:Bool)(x:Arg)(y:Arg)(G:gT)(bb:Nat)(call:cT)(env:Env)(H:aA):rT:=bM (bL G env x) fun d_x=>bM (bL G env y) fun d_y=>match d_x,d_y with
  | .bool a,.bool b=>some (.bool (neg != (a == b)),H)
  | _,_=>none
noncomputable def ED(neg:Bool)(x:Arg)(y:Arg)(G:gT)(bb:Nat)(call:cT)(env:Env)(H:aA):rT:=bM (bL G env x) fun d_x=>bM (bL G env y) fun d_y=>match lW d_x d_y with
  | some b=>some (.bool (neg != b),H)
  | none=>none
noncomputable def EC(neg:Bool)(x:Arg)(y:Arg)(G:gT)(bb:Nat)(call:cT)(env:Env)(H:aA):rT:=bM (bL G env x) fun d_x=>bM (bL G env y) fun d_y=>match pU d_x d_y with
  | some b=>some (.bool (neg != b),H)
  | none=>none
noncomputable def DA(op:UnOp)(x:Arg)(G:gT)(bb:Nat)(call:cT)(env:Env)(H:aA):rT:=bM (bL G env x) fun d_x=>match rB op d_x with
  | some d=>some (d,H)
  | none=>none
noncomputable def EK(k:IntKind)(x:Arg)(G:gT)(bb:Nat)(call:cT)(env:Env)(H:aA):rT:=bM (bL G env x) fun d_x=>match d_x with
  | .int _ n=>some (.int k (k.wrap n),H)
  | _=>none
noncomputable def EI(x:Arg)(G:gT)(bb:Nat)(call:cT)(env:Env)(H:aA):rT:=bM (bL G env x) fun d_x=>match d_x with
  | .str s=>if s.length<=aX then some (.fsl (aZ s) s.length,H)else none
  | _=>none
noncomputable def EJ(x:Arg)(G:gT)(bb:Nat)(call:cT)(env:Env)(H:aA):rT:=bM (bL G env x) fun d_x=>match d_x with
  | .int _ n=>if 0<=n∧n<128 then some (.str [UInt8.ofNat n.toNat],H)else none
  | _=>none
noncomputable def EL(x:Arg)(G:gT)(bb:Nat)(call:cT)(env:Env)(H:aA):rT:=bM (bL G env x) fun d_x=>match Af H 1 d_x with
  | some (cs,_)=>match jD cs with
   | some s=>some (.str s,H)
   | none=>none
  | none=>none
noncomputable def DM(f:Nat)(pre:List Arg)(caps:List Arg)(G:gT)(bb:Nat)(call:cT)(env:Env)(H:aA):rT:=wL (wJ G env pre) fun l_pre=>wL (wJ G env caps) fun l_caps=>if D.fA l_pre && D.fA l_caps then some (.func f l_pre l_caps,H)else none
noncomputable def DI(es:Nat)(bytes:Nat)(z:List D)(len:Arg)(cap:Arg)(G:gT)(bb:Nat)(call:cT)(env:Env)(H:aA):rT:=bM (bL G env len) fun d_len=>bM (bL G env cap) fun d_cap=>match d_len,d_cap with
  | .int .i64 l,.int .i64 c=>if 0<=l∧l<=c∧c.toNat*bytes<=aX∧c.toNat<=aX then
    some (.osl (cD H) (l.toNat*es) 0 l.toNat,jP H [.row es (eB z l.toNat) false])else none
  | _,_=>none
noncomputable def DD(x:Arg)(lo:Option Arg)(hi:Option Arg)(G:gT)(bb:Nat)(call:cT)(env:Env)(H:aA):rT:=bM (bL G env x) fun d_x=>match d_x with
  | .str s=>match fD s (wH G env lo) (wH G env hi)with
   | some d=>some (d,H)
   | none=>none
  | _=>none
noncomputable def DE(es:Nat)(x:Arg)(lo:Option Arg)(hi:Option Arg)(mx:Option Arg)(G:gT)(bb:Nat)(call:cT)(env:Env)(H:aA):rT:=bM (bL G env x) fun d_x=>match iD es d_x (wH G env lo) (wH G env hi) (wH G env mx)with
  | some d=>some (d,H)
  | none=>none
noncomputable def DZ(off:Nat)(p:Arg)(G:gT)(bb:Nat)(call:cT)(env:Env)(H:aA):rT:=bM (bL G env p) fun d_p=>match d_p with
  | .ptr i o=>some (.ptr i (o+off),H)
  | .rptr i h o=>some (.rptr i h (o+off),H)
  | .fptr cs=>some (.fptr (tM off cs),H)
  | _=>none
noncomputable def DV(es:Nat)(s:Arg)(i:Arg)(G:gT)(bb:Nat)(call:cT)(env:Env)(H:aA):rT:=bM (bL G env s) fun d_s=>bM (bL G env i) fun d_i=>match d_s,d_i with
  | .fsl cs n,.int _ j=>if 0<=j∧j<n then some (.fptr (cs.drop (j.toNat*es)),H)else none
  | .osl id hw off n,.int _ j=>if 0<=j∧j<n then some (.rptr id hw (off+j.toNat*es),H)else none
  | _,_=>none
noncomputable def DU(n:Nat)(es:Nat)(p:Arg)(i:Arg)(G:gT)(bb:Nat)(call:cT)(env:Env)(H:aA):rT:=bM (bL G env p) fun d_p=>bM (bL G env i) fun d_i=>match d_p,d_i with
  | .fptr cs,.int _ j=>if 0<=j∧j<n then some (.fptr (cs.drop (j.toNat*es)),H)else none
  | .ptr id off,.int _ j=>if 0<=j∧j<n then some (.ptr id (off+j.toNat*es),H)else none
  | _,_=>none
noncomputable def DY(ag:Bool)(off:Nat)(n:Nat)(x:Arg)(G:gT)(bb:Nat)(call:cT)(env:Env)(H:aA):rT:=bM (bL G env x) fun d_x=>match d_x with
  | .agg cs=>match Lr ag n (tM off cs)with
   | some .undef=>none
   | some d=>some (d,H)
   | none=>none
  | _=>none
noncomputable def DT(x:Arg)(i:Arg)(G:gT)(bb:Nat)(call:cT)(env:Env)(H:aA):rT:=bM (bL G env x) fun d_x=>bM (bL G env i) fun d_i=>match d_x,d_i with
  | .str s,.int _ j=>if 0<=j then
    match s[j.toNat]? with
    | some b=>some (.int .u8 b.toNat,H)
    | none=>none
   else none
  | _,_=>none
noncomputable def EA(x:Arg)(i:Nat)(G:gT)(bb:Nat)(call:cT)(env:Env)(H:aA):rT:=bM (bL G env x) fun d_x=>match d_x with
  | .tup vs=>match vs[i]? with
   | some .undef=>none
   | some d=>some (d,H)
   | none=>none
  | _=>none
noncomputable def DS(st:Bool)(x:Arg)(G:gT)(bb:Nat)(call:cT)(env:Env)(H:aA):rT:=bM (bL G env x) fun d_x=>match st,d_x with
  | true,.str s=>some (.int .i64 s.length,H)
  | false,.nilsl=>some (.int .i64 0,H)
  | false,.esl=>some (.int .i64 0,H)
  | false,.fsl _ n=>some (.int .i64 n,H)
  | false,.osl _ _ _ n=>some (.int .i64 n,H)
  | _,_=>none
noncomputable def FB(es:Nat)(bytes:Nat)(x:Arg)(y:Arg)(G:gT)(bb:Nat)(call:cT)(env:Env)(H:aA):rT:=bM (bL G env y) fun d_y=>bM (bL G env x) fun d_x=>match Af H es d_y with
  | some (ys,m)=>Ah bb H es bytes d_x ys m
  | none=>none
noncomputable def FA(bytes:Nat)(x:Arg)(y:Arg)(G:gT)(bb:Nat)(call:cT)(env:Env)(H:aA):rT:=bM (bL G env y) fun d_y=>bM (bL G env x) fun d_x=>match d_y with
  | .str s=>Ah bb H 1 bytes d_x (aZ s) s.length
  | _=>none
noncomputable def DP(x:Arg)(xs:List Arg)(G:gT)(bb:Nat)(call:cT)(env:Env)(H:aA):rT:=bM (bL G env x) fun d_x=>wL (wJ G env xs) fun l_xs=>match maxD d_x l_xs with
  | some d=>some (d,H)
  | none=>none
noncomputable def DN(x:Arg)(xs:List Arg)(G:gT)(bb:Nat)(call:cT)(env:Env)(H:aA):rT:=bM (bL G env x) fun d_x=>wL (wJ G env xs) fun l_xs=>match minD d_x l_xs with
  | some d=>some (d,H)
  | none=>none
noncomputable def EF(neg:Bool)(ks:List PK)(x:Arg)(y:Arg)(G:gT)(bb:Nat)(call:cT)(env:Env)(H:aA):rT:=bM (bL G env x) fun d_x=>bM (bL G env y) fun d_y=>match d_x,d_y with
  | .agg a,.agg b=>match lB ks a b with
   | some r=>some (.bool (neg != r),H)
   | none=>none
  | _,_=>none
noncomputable def DW(_x0:Nat)(G:gT)(bb:Nat)(call:cT)(env:Env)(H:aA):rT:=some (.undef,H)
noncomputable def DX(n:Nat)(v:Fil)(G:gT)(bb:Nat)(call:cT)(env:Env)(H:aA):rT:=bM (bL G env v.arg) fun d_v_arg=>match v.box with
  | none=>match d_v_arg.cells with
   | cs=>if(cD cs)=n∧gG 0 cs∧lT cs then some (.fptr cs,H)else none
  | some res=>match d_v_arg.cells with
   | cs=>if(cD cs)=n then
    match vZ H cs res with
    | some (H',cs)=>if pP bb H' (cD H') cs then some (.ptr (cD H') 0,jP H' [.box cs])else none
    | none=>none
    else none
noncomputable def EY(G:gT)(bb:Nat)(call:cT)(env:Env)(H:aA):rT:=none
noncomputable def EG(f:Nat)(x:Arg)(G:gT)(bb:Nat)(call:cT)(env:Env)(H:aA):rT:=bM (bL G env x) fun d_x=>match d_x with
  | .func g _ _=>if Nat.beq g f then some (.tup [],H)else none
  | _=>none
noncomputable def EN(f:Arg)(args:List Arg)(G:gT)(bb:Nat)(call:cT)(env:Env)(H:aA):rT:=bM (bL G env f) fun d_f=>wL (wJ G env args) fun l_args=>call d_f l_args H
noncomputable def EM(x:Arg)(G:gT)(bb:Nat)(call:cT)(env:Env)(H:aA):rT:=bM (bL G env x) fun d_x=>match d_x with
  | .nilsl=>some (.int .i64 0,H)
  | _=>none
noncomputable def EZ(es bytes:Nat)(zs:List D)(x n:Arg)(G:gT)(bb:Nat)(call:cT)(env:Env)(H:aA):rT:=bM (bL G env n) fun d_n=>bM (bL G env x) fun d_x=>match d_n with
  | .int _ q=>if 0<=q∧q.toNat*bytes<=aX∧q.toNat<=aX then
   match d_x with
   | .nilsl=>if q.toNat=0 then some (.nilsl,H)else some (.osl (cD H) (q.toNat*es) 0 q.toNat,jP H [.row es (eB zs q.toNat) false])
   | .esl=>if q.toNat=0 then some (.esl,H)else some (.osl (cD H) (q.toNat*es) 0 q.toNat,jP H [.row es (eB zs q.toNat) false])
   | _=>none
   else none
  | _=>none
noncomputable def DL(G:gT)(bb:Nat)(call:cT)(env:Env)(H:aA):rT:=some (.mp (cD H),jP H [.map []])
noncomputable def DO(m k:Arg)(G:gT)(bb:Nat)(call:cT)(env:Env)(H:aA):rT:=bM (bL G env m) fun d_m=>bM (bL G env k) fun d_k=>match d_m,d_k with
  | .mp id,.int .i64 n=>match iP H id with
   | some (.map es)=>some (.bool (pL n es),H)
   | _=>none
  | _,_=>none
noncomputable def DJ(m k v:Arg)(G:gT)(bb:Nat)(call:cT)(env:Env)(H:aA):rT:=bM (bL G env m) fun d_m=>bM (bL G env k) fun d_k=>bM (bL G env v) fun d_v=>match d_m,d_k,d_v with
  | .mp id,.int .i64 n,.bool x=>match iP H id with
   | some (.map es)=>some (.tup [],tK H id (.map (lR n x es)))
   | _=>none
  | _,_,_=>none
noncomputable def EH(es:Nat)(x y:Arg)(G:gT)(bb:Nat)(call:cT)(env:Env)(H:aA):rT:=bM (bL G env x) fun d_x=>bM (bL G env y) fun d_y=>Az bb H es d_x d_y
noncomputable def vW(op:AOp):(Nat->Option (List D))->Nat->(cT)->Env->aA->rT:=
 AOp.rec (motive:=fun _=>(Nat->Option (List D))->Nat->(cT)->Env->aA->rT) DK DF DG FC EV EW EO ET ES DQ DC DH EX EE ED EC DA EK EI EJ EL DM DI DD DE DZ DV DU DY DT EA DS FB FA DP DN EF DW DX EY EG EN EM EZ DL DO DJ EH op
theorem Li(G:gT)(b:Nat)(call:cT)(env:Env)(H:aA)(op:AOp):vW op G b call env H=step G b call env H op:=by
 cases op <;> simp only[vW,DK,DF,DG,FC,EV,EW,EO,ET,ES,DQ,DC,DH,EX,EE,ED,EC,DA,EK,EI,EJ,EL,DM,DI,DD,DE,DZ,DV,DU,DY,DT,EA,DS,FB,FA,DP,DN,EF,DW,DX,EY,EG,EN,EM,EZ,DL,DO,DJ,EH,pR,zM,zIu,zIs,zIt,KK,Lh,zHT,zH2,zIw,zIz,iQ,kN,z8,wM,rP,wK,zD,vX,zG,zK,pS,zO,zN,tN] <;> rfl
noncomputable def jC(env:Env)(o:Option Nat)(d:D):Env:=Option.rec (motive:=fun _=>Env) env (fun t=>K8 16 env t d) o
theorem Ln:jC=bS:=by funext env o d;cases o <;> simp only[jC,bS,JT,Env.put]
noncomputable def K7(env:Env)(o:Option (Nat×Bool)):Option Bool:=Option.rec (motive:=fun _=>Option Bool) (some true) (fun p=>match zJ env p.1 with
  | .bool x=>some (x == p.2)
  | .tup []=>some false
  | _=>none) o
theorem JQ:K7=gW:=by funext env o;cases o <;> simp only[K7,gW,Lw] <;> rfl
noncomputable def JY(o:AOper)(rest:(Nat->Option (List D))->Nat->(cT)->Env->aA->Option (Env×aA))(G:gT)(b:Nat)(call:cT)(env:Env)(H:aA):Option (Env×aA):=
 AOper.rec (motive:=fun _=>Option (Env×aA)) (fun dst guard op=>Option.rec (motive:=fun _=>Option (Env×aA))
  (Option.rec (motive:=fun _=>Option (Env×aA)) none (fun p=>Prod.rec (motive:=fun _=>Option (Env×aA)) (fun d H'=>rest G b call (jC env dst d) H') p) (vW op G b call env H))
  (fun gd=>Option.rec (motive:=fun _=>Option (Env×aA)) none (fun w=>Bool.rec (motive:=fun _=>Option (Env×aA)) (rest G b call (jC env dst (.tup [])) H)
  (Option.rec (motive:=fun _=>Option (Env×aA)) none (fun p=>Prod.rec (motive:=fun _=>Option (Env×aA)) (fun d H'=>rest G b call (jC env dst d) H') p) (vW op G b call env H)) w) (K7 env (some gd))) guard) o
noncomputable def pQ(l:List AOper):(Nat->Option (List D))->Nat->(cT)->Env->aA->Option (Env×aA):=
 List.rec (motive:=fun _=>(Nat->Option (List D))->Nat->(cT)->Env->aA->Option (Env×aA)) (fun _ _ _ env H=>some (env,H)) (fun o _ ih=>JY o ih) l
theorem zHY(G:gT)(b:Nat)(call:cT)(l:List AOper)(env:Env)(H:aA):pQ l G b call env H=eU G b call l env H:=by
 induction l generalizing env H with
 | nil=>rfl
 | cons o l ih=>
  show JY o (pQ l) G b call env H=_;obtain⟨dst,guard,op⟩:=o;unfold eU bD;have hs:∀x,x=step G b call env H op->Option.rec (motive:=fun _=>Option (Env×aA)) none (fun p=>Prod.rec (motive:=fun _=>Option (Env×aA)) (fun d H'=>pQ l G b call (jC env dst d) H') p) x=(match x with
   | some (d,H')=>eU G b call l (bS env dst d) H'
   | none=>none):=by
   intro x hx
   cases x with
   | none=>rfl
   | some p=>show pQ l G b call (jC env dst p.1) p.2=_;rw[ih,Ln]
  cases guard with
  | none=>
   show Option.rec (motive:=fun _=>Option (Env×aA)) none (fun p=>Prod.rec (motive:=fun _=>Option (Env×aA)) (fun d H'=>pQ l G b call (jC env dst d) H') p) (vW op G b call env H)=_;rw[Li,hs _ rfl];rfl
  | some gd=>
   show Option.rec (motive:=fun _=>Option (Env×aA)) none (fun w=>Bool.rec (motive:=fun _=>Option (Env×aA)) (pQ l G b call (jC env dst (.tup [])) H)
    (Option.rec (motive:=fun _=>Option (Env×aA)) none (fun p=>Prod.rec (motive:=fun _=>Option (Env×aA)) (fun d H'=>pQ l G b call (jC env dst d) H') p) (vW op G b call env H)) w) (K7 env (some gd))=_
   rw[JQ,Li,hs _ rfl];simp only
   cases gW env (some gd)with
   | none=>rfl
   | some w=>
    cases w with
    | false=>show pQ l G b call (jC env dst (.tup [])) H=_;rw[ih,Ln]
    | true=>rfl
end Go.AM
namespace Go.AM
abbrev FX:=(Nat->Option (List D))->Nat->(cT)->Nat->Option Nat->St->Option (Ex×St)
noncomputable def L3(G:gT)(b:Nat)(call:cT)(env:Env)(H:aA)(o:AOper):rT:=
 Option.rec (motive:=fun _=>rT) none (fun w=>Bool.rec (motive:=fun _=>rT) (some (.tup [],H)) (vW o.op G b call env H) w) (K7 env o.guard)
theorem JW:L3=bD:=by
 funext G b call env H o
 unfold L3 bD;rw[JQ,Li]
 cases gW env o.guard with
 | none=>rfl
 | some w=>cases w <;> rfl
noncomputable def y7(G:gT)(b:Nat)(call:cT)(env:Env)(o:AOper)(d:D)(H:aA):Bool:=
 match L3 G b call env H o with
 | some (d',_)=>d'.beq d
 | none=>false
noncomputable def K9(G:gT)(b:Nat)(call:cT)(env:Env)(o:AOper)(d:D)(lo:Nat):List (Nat×aA)->Bool
 | []=>true
 | (j,H)::r=>(Nat.blt j lo || y7 G b call env o d H) && K9 G b call env o d lo r
noncomputable def L0(G:gT)(b:Nat)(call:cT)(env:Env)(o:AOper)(d:D)(hi:Nat):List (Nat×aA)->Bool
 | []=>true
 | (j,H)::r=>(Nat.ble hi j || y7 G b call env o d H) && L0 G b call env o d hi r
theorem JV:y7=sameAt:=by funext G b call env o d H;simp only[y7,sameAt,JW];rfl
theorem zHW:K9=dR:=by
 funext G b call env o d lo l
 induction l with
 | nil=>rfl
 | cons a l ih=>obtain⟨j,H⟩:=a;simp only[K9,dR,ih,JV]
theorem zHX:L0=fQ:=by
 funext G b call env o d lo l
 induction l with
 | nil=>rfl
 | cons a l ih=>obtain⟨j,H⟩:=a;simp only[L0,fQ,ih,JV]
noncomputable def zE(l:List (AOper×Nat×Nat)):(Nat->Option (List D))->Nat->(cT)->Nat->List (Nat×aA)->Env->aA->Option (Env×aA×List (Nat×aA)):=
 List.rec (motive:=fun _=>(Nat->Option (List D))->Nat->(cT)->Nat->List (Nat×aA)->Env->aA->Option (Env×aA×List (Nat×aA))) (fun _ _ _ _ _ env H=>some (env,H,[]))
 (fun p _ ih G b call i past env H=>Prod.rec (motive:=fun _=>Option (Env×aA×List (Nat×aA))) (fun o q=>Prod.rec (motive:=fun _=>Option (Env×aA×List (Nat×aA))) (fun lo hi=>
  Option.rec (motive:=fun _=>Option (Env×aA×List (Nat×aA))) none (fun r=>Prod.rec (motive:=fun _=>Option (Env×aA×List (Nat×aA))) (fun d H'=>
   Bool.rec (motive:=fun _=>Option (Env×aA×List (Nat×aA)))
    (Bool.rec (motive:=fun _=>Option (Env×aA×List (Nat×aA))) (ih G b call (Nat.succ i) past (jC env o.dst d) H')
     (Option.rec (motive:=fun _=>Option (Env×aA×List (Nat×aA))) none (fun z=>Prod.rec (motive:=fun _=>Option (Env×aA×List (Nat×aA))) (fun e y=>Prod.rec (motive:=fun _=>Option (Env×aA×List (Nat×aA))) (fun h fut=>
      Bool.rec (motive:=fun _=>Option (Env×aA×List (Nat×aA))) none (Bool.rec (motive:=fun _=>Option (Env×aA×List (Nat×aA))) none (some (e,h,fut)) (L0 G b call env o d hi fut)) (K9 G b call env o d lo past)) y) z) (ih G b call (Nat.succ i) past (jC env o.dst d) H')) o.op.isL)
    (Option.rec (motive:=fun _=>Option (Env×aA×List (Nat×aA))) none (fun z=>Prod.rec (motive:=fun _=>Option (Env×aA×List (Nat×aA))) (fun e y=>Prod.rec (motive:=fun _=>Option (Env×aA×List (Nat×aA))) (fun h fut=>some (e,h,(i,H')::fut)) y) z)
     (ih G b call (Nat.succ i) ((i,H)::past) (jC env o.dst d) H')) o.op.isE) r) (L3 G b call env H o)) q) p) l
theorem zHZ(G:gT)(b:Nat)(call:cT)(i:Nat)(l:List (AOper×Nat×Nat))(past:List (Nat×aA))(env:Env)(H:aA):zE l G b call i past env H=cV G b call i l past env H:=by
 induction l generalizing i past env H with
 | nil=>rfl
 | cons a l ih=>
  obtain⟨o,lo,hi⟩:=a;show Option.rec (motive:=fun _=>Option (Env×aA×List (Nat×aA))) none (fun r=>Prod.rec (motive:=fun _=>Option (Env×aA×List (Nat×aA))) (fun d H'=>
   Bool.rec (motive:=fun _=>Option (Env×aA×List (Nat×aA)))
    (Bool.rec (motive:=fun _=>Option (Env×aA×List (Nat×aA))) (zE l G b call (i+1) past (jC env o.dst d) H')
     (Option.rec (motive:=fun _=>Option (Env×aA×List (Nat×aA))) none (fun z=>Prod.rec (motive:=fun _=>Option (Env×aA×List (Nat×aA))) (fun e y=>Prod.rec (motive:=fun _=>Option (Env×aA×List (Nat×aA))) (fun h fut=>
      Bool.rec (motive:=fun _=>Option (Env×aA×List (Nat×aA))) none (Bool.rec (motive:=fun _=>Option (Env×aA×List (Nat×aA))) none (some (e,h,fut)) (L0 G b call env o d hi fut)) (K9 G b call env o d lo past)) y) z) (zE l G b call (i+1) past (jC env o.dst d) H')) o.op.isL)
    (Option.rec (motive:=fun _=>Option (Env×aA×List (Nat×aA))) none (fun z=>Prod.rec (motive:=fun _=>Option (Env×aA×List (Nat×aA))) (fun e y=>Prod.rec (motive:=fun _=>Option (Env×aA×List (Nat×aA))) (fun h fut=>some (e,h,(i,H')::fut)) y) z)
     (zE l G b call (i+1) ((i,H)::past) (jC env o.dst d) H')) o.op.isE) r) (L3 G b call env H o)=_
  rw[JW]
  conv=>rhs;unfold cV
  cases bD G b call env H o with
  | none=>rfl
  | some r=>
   obtain⟨d,H'⟩:=r;simp only[ih,Ln,zHW,zHX]
   cases o.op.isE with
   | true=>
    rw[if_pos rfl]
    cases cV G b call (i+1) l ((i,H)::past) (bS env o.dst d) H' with
    | none=>rfl
    | some z=>rfl
   | false=>
    rw[if_neg (by simp)]
    cases o.op.isL with
    | false=>cases cV G b call (i+1) l past (bS env o.dst d) H' with
     | none=>rfl
     | some z=>rfl
    | true=>cases cV G b call (i+1) l past (bS env o.dst d) H' with
     | none=>rfl
     | some z=>
      obtain⟨e,h,fut⟩:=z;show Bool.rec (motive:=fun _=>Option (Env×aA×List (Nat×aA))) none (Bool.rec (motive:=fun _=>Option (Env×aA×List (Nat×aA))) none (some (e,h,fut)) (fQ G b call env o d hi fut)) (dR G b call env o d lo past)=(if true=true then(if(dR G b call env o d lo past && fQ G b call env o d hi fut)=true then some (e,h,fut)else none)else some (e,h,fut))
      cases dR G b call env o d lo past <;> cases fQ G b call env o d hi fut <;> rfl
def PN:FX:=fun _ _ _ _ _ s=>some (.normal,s)
noncomputable def PQ(ops:List AOper):FX:=fun G b call _ _ s=>St.rec (motive:=fun _=>Option (Ex×St)) (fun env H dfs=>
 Option.rec (motive:=fun _=>Option (Ex×St)) none (fun p=>Prod.rec (motive:=fun _=>Option (Ex×St)) (fun e h=>some (.normal,⟨e,h,dfs⟩)) p) (pQ ops G b call env H)) s
noncomputable def PU(ops:List (AOper×Nat×Nat)):FX:=fun G b call _ _ s=>St.rec (motive:=fun _=>Option (Ex×St)) (fun env H dfs=>
 Option.rec (motive:=fun _=>Option (Ex×St)) none (fun p=>Prod.rec (motive:=fun _=>Option (Ex×St)) (fun e q=>Prod.rec (motive:=fun _=>Option (Ex×St)) (fun h _=>some (.normal,⟨e,h,dfs⟩)) q) p) (zE ops G b call 0 [] env H)) s
noncomputable def Fp(_ _:ACode)(ia ib:FX):FX:=fun G b call lf rnd s=>
 Option.rec (motive:=fun _=>Option (Ex×St)) none (fun p=>Prod.rec (motive:=fun _=>Option (Ex×St)) (fun e s'=>Ex.rec (motive:=fun _=>Option (Ex×St)) (ib G b call lf rnd s') (fun i=>some (.exit i,s')) (some (.ret,s')) e) p) (ia G b call lf rnd s)
noncomputable def Fs (c : Arg) (_ _ : ACode) (ia ib : FX) : FX := fun G b call lf rnd s =>
  D.rec (motive_1 := fun _ => Option (Ex × St)) (motive_2 := fun _ => PUnit) none (fun x => Bool.rec (motive := fun _ => Option (Ex × St)) (ib G b call lf rnd s) (ia G b call lf rnd s) x) (fun _ _ => none) (fun _ => none) none none none none (fun _ _ => none) (fun _ _ _ => none) (fun _ _ => none) (fun _ _ _ => none) (fun _ _ _ _ => none)
   (fun _ _ _ _ _ => none) (fun _ => none) (fun _ _ => none) (fun _ _ => none) (fun _ _ => none) (fun _ => none) PUnit.unit (fun _ _ _ _ => PUnit.unit) (bL G (St.rec (motive := fun _ => Env) (fun env _ _ => env) s) c)
noncomputable def Ft(id:Nat)(_:ACode)(ib:FX):FX:=fun G b call lf rnd s=>
 Option.rec (motive:=fun _=>Option (Ex×St)) none (fun p=>Prod.rec (motive:=fun _=>Option (Ex×St)) (fun e s'=>Ex.rec (motive:=fun _=>Option (Ex×St)) (some (.normal,s')) (fun id'=>Bool.rec (motive:=fun _=>Option (Ex×St)) (some (.exit id',s')) (some (.normal,s')) (Nat.beq id' id)) (some (.ret,s')) e) p) (ib G b call lf rnd s)
noncomputable def Aa(f:St->Option (Ex×St))(n:Nat):St->Option (Ex×St):=Nat.rec (motive:=fun _=>St->Option (Ex×St)) (fun _=>none)
 (fun _ ih s=>Option.rec (motive:=fun _=>Option (Ex×St)) none (fun p=>Prod.rec (motive:=fun _=>Option (Ex×St)) (fun e s'=>Ex.rec (motive:=fun _=>Option (Ex×St)) (ih s') (fun i=>some (.exit i,s')) (some (.ret,s')) e) p) (f s)) n
noncomputable def PR(_:ACode)(ib:FX):FX:=fun G b call lf rnd s=>Aa (ib G b call lf rnd) lf s
noncomputable def Lx(rnd:Option Nat)(s:St)(ps:List Nat)(asg body:ACode):Option (aA×List Nat):=
 match rnd with
 | none=>some (s.H++[.dfr false]++[.loop ⟨s.env,ps,asg,body,.ready,none,(cD s.H)⟩],(cD s.H)::s.dfs)
 | some l=>match(iP s.H l)with
  | some (.loop L)=>some (s.H++[.loop ⟨s.env,ps,asg,body,.ready,none,L.dfr⟩],s.dfs)
  | _=>none
theorem zIv:Lx=rR:=by
 funext rnd s ps asg body;cases rnd <;> simp only[Lx,rR,iQ,pR] <;> rfl
noncomputable def Fq(f:Arg)(ps:List Nat)(asg body:ACode)(_ _:FX):FX:=fun G b call lf rnd s=>
  match Lx rnd s ps asg body with
  | some (H,dfs)=>match bL G s.env f with
   | .func g pre caps=>match call (.func g pre caps) [.yield ((cD H)-1)] H with
    | some (_,H')=>match iP H' ((cD H)-1)with
     | some (.loop L)=>if L.st=.busy then none else
      some (iO L.pend,⟨s.env,H'.set ((cD H)-1) (.loop { L with st:=.exhausted }),dfs⟩)
     | _=>none
    | none=>none
   | _=>none
  | none=>none
def PT(id:Nat):FX:=fun _ _ _ _ _ s=>some (.exit id,s)
def PO:FX:=fun _ _ _ _ _ s=>some (.ret,s)
noncomputable def lV(c:ACode):FX:=ACode.rec (motive:=fun _=>FX) PN PQ PU Fp Fs Ft PR Fq PT PO c
theorem zIa {f g:St->Option (Ex×St)}(h:∀s,f s=g s)(n:Nat)(s:St):Aa f n s=loopN g n s:=by
 induction n generalizing s with
 | zero=>rfl
 | succ n ih=>
  show Option.rec (motive:=fun _=>Option (Ex×St)) none (fun p=>Prod.rec (motive:=fun _=>Option (Ex×St)) (fun e s'=>Ex.rec (motive:=fun _=>Option (Ex×St)) (Aa f n s') (fun i=>some (.exit i,s')) (some (.ret,s')) e) p) (f s)=_;unfold loopN;rw[h]
  cases g s with
  | none=>rfl
  | some p=>obtain⟨e,s'⟩:=p;cases e <;> first | exact ih s' | rfl
theorem KJ(G:gT)(b:Nat)(call:cT)(lf:Nat)(rnd:Option Nat)(c:ACode)(s:St):lV c G b call lf rnd s=exec G b call lf rnd c s:=by
 induction c generalizing s with
 | skip=>rfl
 | reg ops=>
  obtain⟨env,H,dfs⟩:=s;show Option.rec (motive:=fun _=>Option (Ex×St)) none (fun p=>Prod.rec (motive:=fun _=>Option (Ex×St)) (fun e h=>some (.normal,⟨e,h,dfs⟩)) p) (pQ ops G b call env H)=_;unfold exec;rw[zHY]
  cases eU G b call ops env H <;> rfl
 | dreg ops=>
  obtain⟨env,H,dfs⟩:=s;show Option.rec (motive:=fun _=>Option (Ex×St)) none (fun p=>Prod.rec (motive:=fun _=>Option (Ex×St)) (fun e q=>Prod.rec (motive:=fun _=>Option (Ex×St)) (fun h _=>some (.normal,⟨e,h,dfs⟩)) q) p) (zE ops G b call 0 [] env H)=_;unfold exec;rw[zHZ]
  cases cV G b call 0 ops [] env H <;> rfl
 | seq a c iha ihc=>
  show Fp a c (lV a) (lV c) G b call lf rnd s=_;unfold Fp exec;rw[iha]
  cases exec G b call lf rnd a s with
  | none=>rfl
  | some p=>obtain⟨e,s'⟩:=p;cases e <;> first | exact ihc s' | rfl
 | cond x a c iha ihc=>
  show Fs x a c (lV a) (lV c) G b call lf rnd s=_;obtain⟨env,H,dfs⟩:=s;unfold Fs exec;rw[zM,iha,ihc];show D.rec (motive_1:=fun _=>Option (Ex×St)) (motive_2:=fun _=>PUnit) _ _ _ _ _ _ _ _ _ _ _ _ _ _ _ _ _ _ _ _ _ (aI G env x)=_
  cases aI G env x with
  | bool v=>cases v <;> rfl
  | _=>rfl
 | block id c ihc=>
  show Ft id c (lV c) G b call lf rnd s=_;unfold Ft exec;rw[ihc]
  cases exec G b call lf rnd c s with
  | none=>rfl
  | some p=>
   obtain⟨e,s'⟩:=p
   cases e with
   | exit id'=>
    show Bool.rec (motive:=fun _=>Option (Ex×St)) (some (.exit id',s')) (some (.normal,s')) (Nat.beq id' id)=(if id'=id then some (.normal,s')else some (.exit id',s'));by_cases h:id'=id
    ·subst h;rw[if_pos rfl,show Nat.beq id' id'=true from Nat.beq_refl id']
    ·rw[if_neg h,show Nat.beq id' id=false from by cases hb:Nat.beq id' id;rfl;exact absurd (Nat.eq_of_beq_eq_true hb) h]
   | _=>rfl
 | loop c ihc=>
  show Aa (lV c G b call lf rnd) lf s=_;unfold exec;exact zIa (fun s=>ihc s) lf s
 | rangeF f ps asg body _ _=>
  show Fq f ps asg body (lV asg) (lV body) G b call lf rnd s=_;unfold Fq exec;simp only[zIv,zM,pR,iQ];rfl
 | exit id=>rfl
 | ret=>rfl
noncomputable def nS(g:D->Option D)(l:List D):Option (List D):=List.rec (motive:=fun _=>Option (List D)) (some [])
 (fun d _ ih=>Option.rec (motive:=fun _=>Option (List D)) none (fun d'=>Option.rec (motive:=fun _=>Option (List D)) none (fun ds'=>some (d'::ds')) ih) (g d)) l
theorem Lq(g:D->Option D)(l:List D):nS g l=bN g l:=by
 induction l with
 | nil=>rfl
 | cons d l ih=>
  show Option.rec (motive:=fun _=>Option (List D)) none (fun d'=>Option.rec (motive:=fun _=>Option (List D)) none (fun ds'=>some (d'::ds')) (nS g l)) (g d)=_;unfold bN;rw[ih]
  cases g d with
  | none=>rfl
  | some d'=>cases bN g l <;> rfl
noncomputable def Ad(H:aA)(n:Nat)(f:Nat):D->Option D:=Nat.rec (motive:=fun _=>D->Option D) (fun _=>none) (fun _ ih d=>match d with
  | .undef=>none
  | .ptr id off=>if id<n then some (.ptr id off)else
   match(iP H id)with
   | some (.box cs)=>match nS ih (cs.drop off)with
    | some cs'=>if gG 0 cs' && lT cs' then some (.fptr cs')else none
    | none=>none
   | _=>none
  | .osl id hw off m=>if id<n then some (.osl id hw off m)else
   match(iP H id)with
   | some (.row es cs nil)=>
    if nil then(if m=0 then some .nilsl else none)else
    if(cD cs)=hw∧off+m*es<=hw then
     match nS ih ((cs.drop off).take (m*es))with
     | some cs'=>if gG 0 cs' && lT cs' then some (.fsl cs' m)else none
     | none=>none
    else none
   | _=>none
  | .agg cs=>match nS ih cs with
   | some cs'=>some (.agg cs')
   | none=>none
  | .tup cs=>match nS ih cs with
   | some cs'=>some (.tup cs')
   | none=>none
  | .func g ps cs=>match nS ih ps,nS ih cs with
   | some ps',some cs'=>some (.func g ps' cs')
   | _,_=>none
  | .rptr id hw off=>if id<n then some (.rptr id hw off)else none
  | .yield id=>if id<n then some (.yield id)else none
  | .mp id=>if id<n then some (.mp id)else none
  | d=>some d) f
theorem KI(H:aA)(n f:Nat):Ad H n f=fz H n f:=by
 induction f with
 | zero=>funext d;rfl
 | succ f ih=>
  funext d
  have:nS (Ad H n f)=bN (fz H n f):=by rw[ih];funext l;exact Lq _ l
  cases d <;> simp only[fz] <;> (try rfl) <;> (rw[← this];first | rfl | (simp only[← iQ, ← pR, ← kN, ← z8];rfl))
noncomputable def Lm(env:Env)(H:aA)(l:List ARes):Option (List D):=List.rec (motive:=fun _=>Option (List D)) (some [])
 (fun r _ ih=>Option.rec (motive:=fun _=>Option (List D)) none (fun ds=>match r with
  | .tmp t=>some (zJ env t::ds)
  | .cell t ag n=>match Ag H (zJ env t)with
   | some cs=>match aJ ag n cs with
    | some d=>some (d::ds)
    | none=>none
   | none=>none) ih) l
theorem zH5(env:Env)(H:aA)(l:List ARes):Lm env H l=kI env H l:=by
 induction l with
 | nil=>rfl
 | cons r l ih=>
  show Option.rec (motive:=fun _=>Option (List D)) none (fun ds=>_) (Lm env H l)=_;rw[ih,Lw,KK]
  cases r with
  | tmp t=>simp only[kI];cases kI env H l <;> rfl
  | cell t ag n=>
   simp only[kI]
   cases kI env H l with
   | none=>cases hZ H (env.get t)with
    | none=>rfl
    | some cs=>cases h:aJ ag n cs <;> simp[h]
   | some ds=>cases hZ H (env.get t)with
    | none=>rfl
    | some cs=>cases h:aJ ag n cs <;> simp[h]
noncomputable def L8(H:aA)(n:Nat)(ds:List D):rT:=
 match nS (Ad H n 64) ds with
 | some ds'=>if gG n ds' then M4 (vV n H) (fun H'=>bM (pack ds') (fun d=>some (d,H')))else none
 | none=>none
theorem zIr:L8=nT:=by funext H n ds;unfold L8 nT;rw[Lq,KI];simp only[kN,tN,pS,rP];rfl
noncomputable def JS(H:aA)(l:List Nat):Option aA:=List.rec (motive:=fun _=>Option aA) (some H) (fun _ _ _=>lH H l) l
theorem zHS:JS=lH:=by funext H l;cases l <;> rfl
noncomputable def Ae(fn:AFunc)(n:Nat)(s:St):rT:=
 match JS s.H s.dfs with
 | none=>none
 | some H=>match Lm s.env H fn.results with
  | none=>none
  | some ds=>match fn.keep with
   | none=>L8 H n ds
   | some j=>if Nat.ble 1000 j then(if gG (cD H) ds then some (pack ds,H)else none)else match ds[j]? with
    | some (.osl id hw 0 m)=>
     if id<n then L8 H n ds else
     match(iP H id)with
     | some (.row es cs nil)=>
      if gG n cs then
       match nS (Ad (H.set id (.dfr true)) n 64) (ds.set j .nilsl)with
       | some ds'=>if gG n ds' && Nat.blt j ds.length then some (pack (ds'.set j (.osl n hw 0 m)),H.take n++[.row es cs nil])else none
       | none=>none
      else none
     | _=>none
    | _=>L8 H n ds
theorem zIq:Ae=finish:=by
 funext fn n s
 unfold Ae finish;simp only[zHS,zH5,zIr,KI,Lq,kN,iQ,pR];rfl
noncomputable def y8(G:gT)(call:cT)(lf:Nat)(l:Nat)(args:List D)(H:aA):rT:=
 match(iP H l)with
 | some (.loop L)=>
  if L.st=.ready∧args.length=L.params.length then
   match lV L.assign G (cD H) call lf (some l) ⟨L.env.dX L.params args,H,[]⟩with
   | some (.normal,s1)=>match(iP s1.H l)with
    | some (.loop L1)=>
     if L1.st=.ready then
      match lV L.body G (cD H) call lf (some l) ⟨s1.env,s1.H.set l (.loop { L1 with st:=.busy }),s1.dfs⟩with
      | some (ex,s2)=>match(iP s2.H l)with
       | some (.loop L2)=>some ((eA ex L2).1,s2.H.set l (.loop (eA ex L2).2))
       | _=>none
      | none=>none
     else none
    | _=>none
   | _=>none
  else none
 | _=>none
theorem zH0:y8=oY:=by
 funext G call lf l args H
 unfold y8 oY;simp only[KJ,pR,iQ];rfl
noncomputable def Lz(e:Env)(l:List D):Nat->Env:=List.rec (motive:=fun _=>Env->Nat->Env) (fun e _=>e) (fun d _ ih e i=>bM d (fun d=>ih (K8 16 e i d) (Nat.succ i))) l e
theorem zIy(e:Env)(l:List D)(i:Nat):Lz e l i=e.dL i l:=by
 induction l generalizing e i with
 | nil=>rfl
 | cons d l ih=>show bM d (fun d=>Lz (K8 16 e i d) l (i+1))=_;rw[pS,ih,JT];rfl
noncomputable def Ly(X:Ctx)(k:Nat)(ih:cT)(fn:AFunc)(as:List D)(H:aA):rT:=
 Option.rec (motive:=fun _=>rT) none (fun p=>Prod.rec (motive:=fun _=>rT) (fun e s=>Ex.rec (motive:=fun _=>rT) (Ae fn (cD H) s) (fun _=>none) (Ae fn (cD H) s) e) p)
  (lV fn.body X.G (cD H) ih k none ⟨Lz .nil as 0,H,[]⟩)
noncomputable def M3(X:Ctx)(k:Nat):cT:=Nat.rec (motive:=fun _=>cT) (fun _ _ _=>none)
 (fun k ih f args H=>match f with
  | .func f pre caps=>match X.prims f (pre++args++caps)with
   | some d=>some (d,H)
   | none=>match X.fn f with
    | none=>none
    | some fn=>Bool.rec (motive:=fun _=>rT) none (Ly X k ih fn (pre++args++caps) H) (Nat.blt (cD (pre++args++caps)) 65535)
  | .yield l=>y8 X.G ih k l args H
  | _=>none) k
theorem zIx(X:Ctx)(k:Nat):M3 X k=aY X k:=by
 induction k with
 | zero=>funext f args H;rfl
 | succ k ih=>
  funext f args H
  cases f with
  | func f pre caps=>
   show(match X.prims f (pre++args++caps)with
    | some d=>some (d,H)
    | none=>match X.fn f with
     | none=>none
     | some fn=>Bool.rec (motive:=fun _=>rT) none (Ly X k (M3 X k) fn (pre++args++caps) H) (Nat.blt (cD (pre++args++caps)) 65535))=_
   unfold aY;rw[ih,iQ]
   cases X.prims f (pre++args++caps)with
   | some d=>rfl
   | none=>
    cases X.fn f with
    | none=>rfl
    | some fn=>
     simp only[Ly,KJ,zIy,iQ,zIq]
     cases Nat.blt (pre++args++caps).length 65535 with
     | false=>rfl
     | true=>
      show _=(if true=true then _ else _);rw[if_pos rfl]
      cases exec X.G H.length (aY X k) k none fn.body ⟨Env.nil.dL 0 (pre++args++caps),H,[]⟩with
      | none=>rfl
      | some p=>obtain⟨e,s⟩:=p;cases e <;> rfl
  | yield l=>show y8 X.G (M3 X k) k l args H=_;rw[ih,zH0];rfl
  | _=>rfl
end Go.AM
namespace Go.AM
noncomputable def x6(c:Nat)(s:Bs):Nat->Int:=List.rec (motive:=fun _=>Nat->Int) (fun _=>.negSucc 0) (fun b _ ih i=>Bool.rec (motive:=fun _=>Int) (ih (Nat.succ i)) (.ofNat i) (Nat.beq b.toNat c)) s
noncomputable def eqB(a:Bs):Bs->Bool:=List.rec (motive:=fun _=>Bs->Bool) (fun b=>List.rec (motive:=fun _=>Bool) true (fun _ _ _=>false) b) (fun x _ ih b=>List.rec (motive:=fun _=>Bool) false (fun y t _=>Bool.rec (motive:=fun _=>Bool) false (ih t) (Nat.beq x.toNat y.toNat)) b) a
theorem zIZ {a b:Bs}(h:eqB a b=true):a=b:=by
 induction a generalizing b with
 | nil=>cases b with
  | nil=>rfl
  | cons y t=>exact absurd h (by simp[eqB])
 | cons x a ih=>
  cases b with
  | nil=>exact absurd h (by simp[eqB])
  | cons y t=>
   have h':(Bool.rec (motive:=fun _=>Bool) false (eqB a t) (Nat.beq x.toNat y.toNat):Bool)=true:=h
   cases hb:Nat.beq x.toNat y.toNat with
   | false=>rw[hb]at h';exact absurd h' (by simp)
   | true=>
    rw[hb]at h';have hxy:x=y:=UInt8.toNat_inj.mp (Nat.eq_of_beq_eq_true hb);rw[hxy,ih h']
theorem zMQ(b:UInt8)(c:Nat)(hc:c<256):Nat.beq b.toNat c=(b == c.toUInt8):=by
 have h1:c.toUInt8.toNat=c:=by simp[Nat.toUInt8,UInt8.toNat_ofNat'];omega
 cases hb:Nat.beq b.toNat c with
 | true=>
  have:=Nat.eq_of_beq_eq_true hb;have:b=c.toUInt8:=UInt8.toNat_inj.mp (by rw[h1];exact this);rw[this];simp
 | false=>
  symm
  rw[beq_eq_false_iff_ne];intro h;rw[h,h1]at hb;rw[Nat.beq_refl]at hb
  cases hb
theorem zG9(c:Nat)(hc:c<256)(s:Bs)(i:Nat):x6 c s i=(if Lib.indexByte s c.toUInt8 == -1 then -1 else Lib.indexByte s c.toUInt8+i):=by
 induction s generalizing i with
 | nil=>rfl
 | cons b l ih=>
  show Bool.rec (motive:=fun _=>Int) (x6 c l (i+1)) (.ofNat i) (Nat.beq b.toNat c)=_;rw[zMQ b c hc,ih];rw[show Lib.indexByte (b::l) c.toUInt8=if b == c.toUInt8 then 0 else if Lib.indexByte l c.toUInt8 == -1 then -1 else Lib.indexByte l c.toUInt8+1 from rfl];have hg:=Lib.indexByte_ge l c.toUInt8
  cases hb:b == c.toUInt8 with
  | true=>simp
  | false=>
   simp only[Bool.false_eq_true,if_false];by_cases h1:Lib.indexByte l c.toUInt8= -1
   ·simp[h1]
   ·have h2:(Lib.indexByte l c.toUInt8 == -1)=false:=by rw[beq_eq_false_iff_ne];exact h1
    have h3:(Lib.indexByte l c.toUInt8+1 == -1)=false:=by rw[beq_eq_false_iff_ne];omega
    simp only[h2,h3,Bool.false_eq_true,if_false];omega
theorem zG8(c:Nat)(hc:c<256)(s:Bs):x6 c s 0=Lib.indexByte s c.toUInt8:=by
 rw[zG9 c hc];by_cases h1:Lib.indexByte s c.toUInt8= -1
 ·simp[h1]
 ·have h2:(Lib.indexByte s c.toUInt8 == -1)=false:=by rw[beq_eq_false_iff_ne];exact h1
  simp[h2]
noncomputable def sU(ds:List D):Option D:=match ds with
 | [.str s,.int .u8 (.ofNat c)]=>if Nat.blt c 256 then some (.int .i64 (x6 c s 0))else none
 | _=>none
theorem zAu(l:Nat)(as bs:List D):sU (as++[.yield l]++bs)=none:=by
 rcases as with _ | ⟨a,_ | ⟨b,_ | ⟨c,r⟩⟩⟩ <;> rcases bs with _ | ⟨x,_ | ⟨y,t⟩⟩ <;> simp[sU]
 all_goals (split <;> simp_all)
section
variable {P:Program}{G:Nat->Option (List D)}{β:Bk}{Φ :Fz}{H:aA}{w:World}{B:Nat->Prop}
theorem kE.same {d:D}{v:Value}(hw:WS P G β Φ B H w)(hv:VR d β Φ v)(hu:d.under 0=true):kE P G B β Φ H w d H v w:=
 ⟨β, Φ,hv,hw,Ext.refl _ _ _ _,.inr (D.C8 d (Nat.zero_le _) hu)⟩
theorem zAv {f:Nat}(hx:∀(s:ByteArray) (c:Int) (w:World),(callFunc f #[.string s,.int .u8 c]).run P w=.ok (.value (.int .i64 (Lib.indexByte s.data.toList c.toNat.toUInt8))) w){ds:List D}{d:D}(h:sU ds=some d){vs:List Value}
  (hw:WS P G β Φ B H w) (hv:aE ds β Φ vs):uC P (kE P G B β Φ H w d H) ((callFunc f vs.toArray).run P w):=by
 unfold sU at h;split at h
 ·rename_i s c
  split at h
  ·rename_i hc
   cases h
   simp only[aE,VR]at hv;obtain⟨v1,r1,rfl,rfl,v2,r2,rfl,rfl,rfl⟩:=hv;rw[hx];refine kE.same hw ?_ rfl;simp only[VR];rw[zG8 c (Nat.blt_eq.mp hc)];rfl
  ·cases h
 ·cases h
theorem Good.more {X:Ctx}(hX:Good P X)(m:Nat->List D->Option D)(hm:∀f ds d,m f ds=some d->D.aD 0 ds=true∧d.under 0=true∧∃k,aY X k (.func f [] []) ds []=some (d,[])):
  Good P ⟨X.G,X.fn,fun f ds=>match m f ds with | some d=>some d | none=>X.prims f ds⟩:=by
 refine⟨hX.fn,fun f ds d h {β Φ H w vs B} hw hv hu=>?_,fun f l as bs=>?_⟩
 ·simp only at h
  split at h
  ·rename_i d' hd
   cases h
   obtain⟨h1,h2,k,h3⟩:=hm f ds _ hd;exact LR hX h3 h1 h2 hw hv
  ·exact hX.prims f ds d h hw hv hu
 ·simp only
  split
  ·rename_i d' hd
   obtain⟨h1,_,_⟩:=hm f _ _ hd;exfalso;have:∀(as bs:List D),D.aD 0 (as++[.yield l]++bs)=false:=by
    intro as bs
    induction as with
    | nil=>simp[D.aD,D.under]
    | cons a as ih=>simp only[List.cons_append,D.aD];rw[ih];simp
   rw[this]at h1
   cases h1
  ·exact hX.primsY f l as bs
end
end Go.AM
namespace Go.AM
def FTab.Forall(Q:Nat->AFunc->Prop):FTab->Nat->Nat->Prop
 | .nil,_,_=>True
 | .node l v r,a,b=>(match v with | some x=>Q b x | none=>True)∧l.Forall Q (2*a) (a+b)∧r.Forall Q (2*a) (2*a+b)
theorem FTab.Forall.get {Q:Nat->AFunc->Prop}:∀ {t:FTab} {a b:Nat},t.Forall Q a b->∀ {n:Nat} {x:AFunc},t.get n=some x->Q (a*n+b) x
 | .nil,a,b,h,n,x,hn=>by cases hn
 | .node l v r,a,b,h,0,x,hn=>by
  have h1:=h.1;have hv:v=some x:=hn;subst hv;simpa using h1
 | .node l v r,a,b,h,n+1,x,hn=>by
  have h2:(if Nat.beq (n % 2) 0 then l.get (n / 2)else r.get (n / 2))=some x:=hn;rcases Nat.mod_two_eq_zero_or_one n with hm | hm
  ·rw[hm]at h2
   have:=FTab.Forall.get h.2.1 (n:=n / 2) (x:=x) h2;have e:2*a*(n / 2)+(a+b)=a*(n+1)+b:=by
    have:n=2*(n / 2):=by omega
    generalize n / 2=m at *;subst this;rw[Nat.mul_add,Nat.mul_comm 2 a,Nat.mul_assoc];omega
   rwa [e]at this
  ·rw[hm]at h2
   have:=FTab.Forall.get h.2.2 (n:=n / 2) (x:=x) h2;have e:2*a*(n / 2)+(2*a+b)=a*(n+1)+b:=by
    have:n=2*(n / 2)+1:=by omega
    generalize n / 2=m at *;subst this;have:a*(2*m+1+1)=2*a*m+2*a:=by
     rw[Nat.mul_add,Nat.mul_add,Nat.mul_comm 2 a,Nat.mul_assoc];omega
    omega
   rwa [e]at this
def uY(l:List Nat):List (Nat×Nat×Pol)->Bool
 | []=>true
 | (_,_,.quiet g)::r=>l.contains g && uY l r
 | _::r=>uY l r
def T9(P:Program)(f:Nat)(af:AFunc):Prop:=∃fn pols keep,P.funcs[f]? =some fn∧wP P pols keep fn=some af∧∀i j g,vC pols i j=some (.quiet g)->Quiet P g
theorem ZD {l:List Nat}:∀ {pols:List (Nat×Nat×Pol)},uY l pols=true->∀ {i j g:Nat},vC pols i j=some (.quiet g)->g∈l:=by
 intro pols
 induction pols with
 | nil=>intro _ i j g h;cases h
 | cons p r ih=>
  intro hq i j g h;obtain⟨a,b,q⟩:=p;unfold vC at h;split at h
  ·cases h
   simp only[uY,Bool.and_eq_true,List.contains_iff_mem]at hq;exact hq.1
  ·refine ih ?_ h
   cases q <;> simp_all [uY]
theorem T9.mk' {P:Program}{l:List Nat}(hl:∀g∈l,Quiet P g){f:Nat}{fn:Func}{pols:List (Nat×Nat×Pol)}{keep:Option Nat}{af:AFunc}(hf:P.funcs[f]? =some fn)(hc:wP P pols keep fn=some af)(hq:uY l pols=true):T9 P f af:=
 ⟨fn,pols,keep,hf,hc,fun i j g h=>hl g (ZD hq h)⟩
end Go.AM
namespace Go.AM
noncomputable def Og(a b:Bool):Bool:=Bool.rec (motive:=fun _=>Bool) false b a
theorem NO(a b:Bool):Og a b=(a && b):=by cases a <;> rfl
noncomputable def K4(k ds:List D):Bool:=match k with
 | [.str s]=>(match ds with | [.str t]=>eqB t s | _=>false)
 | _=>D.kQ ds k
theorem zGl {k ds:List D}(h:K4 k ds=true):ds=k:=by
 unfold K4 at h;split at h
 ·split at h
  ·rw[zIZ h]
  ·cases h
 ·exact D.tR _ _ h
noncomputable def look(l:List (List D×D))(ds:List D):Option D:=List.rec (motive:=fun _=>Option D) none (fun p _ ih=>Prod.rec (motive:=fun _=>Option D) (fun k d=>Bool.rec (motive:=fun _=>Option D) ih (some d) (K4 k ds)) p) l
noncomputable def Ctx.tE(X:Ctx)(f0:Nat)(l:List (List D×D)):Ctx:=⟨X.G,X.fn,fun f ds=>Bool.rec (motive:=fun _=>Option D) (X.prims f ds) (Option.rec (motive:=fun _=>Option D) (X.prims f ds) (fun d=>some d) (look l ds)) (Nat.beq f f0)⟩
def kT(P:Program)(G:gT)(f:Nat)(k:List D)(d:D):Prop:=
 (∃X n,Good P X∧X.G=G∧M3 X n (.func f [] []) k []=some (d,[]))∧Og (gG 0 [d]) (gG 0 k)=true
theorem kT.mk' {P:Program}{X:Ctx}(hX:Good P X){f:Nat}{k:List D}{d:D}(n:Nat)(h:M3 X n (.func f [] []) k []=some (d,[]))(hu:Og (gG 0 [d]) (gG 0 k)=true):kT P X.G f k d:=⟨⟨X,n,hX,rfl,h⟩,hu⟩
def Fg(P:Program)(G:gT)(f0:Nat):List (List D×D)->Prop
 | []=>True
 | (k,d)::r=>kT P G f0 k d∧Fg P G f0 r
theorem Fg.look {P:Program}{G:Nat->Option (List D)}{f0:Nat}:∀ {l:List (List D×D)},Fg P G f0 l->∀ {ds:List D} {d:D},look l ds=some d->kT P G f0 ds d:=by
 intro l
 induction l with
 | nil=>intro _ ds d h;cases h
 | cons p r ih=>
  intro hl ds d h;obtain⟨k,d'⟩:=p;have h':Bool.rec (motive:=fun _=>Option D) (AM.look r ds) (some d') (K4 k ds)=some d:=h
  cases hk:K4 k ds with
  | true=>
   rw[hk]at h'
   cases h'
   rw[zGl hk];exact hl.1
  | false=>rw[hk]at h';exact ih hl.2 h'
theorem Good.tE {P:Program}{X:Ctx}(hX:Good P X){f0:Nat}{l:List (List D×D)}(hl:Fg P X.G f0 l):Good P (X.tE f0 l):=by
 refine⟨hX.fn,fun f ds d h {β Φ H w vs B} hw hv hu=>?_,fun f l0 as bs=>?_⟩
 ·have h':Bool.rec (motive:=fun _=>Option D) (X.prims f ds) (Option.rec (motive:=fun _=>Option D) (X.prims f ds) (fun d=>some d) (look l ds)) (Nat.beq f f0)=some d:=h
  cases hb:Nat.beq f f0 with
  | false=>rw[hb]at h';exact hX.prims f ds d h' hw hv hu
  | true=>
   rw[hb]at h'
   cases hk:look l ds with
   | none=>rw[hk]at h';exact hX.prims f ds d h' hw hv hu
   | some d'=>
    rw[hk]at h'
    cases h'
    obtain⟨⟨X',n,g1,g2,g3⟩,g4⟩:=hl.look hk;rw[NO,Bool.and_eq_true,kN,kN]at g4;rw[Nat.eq_of_beq_eq_true hb];rw[zIx]at g3;have hw':WS P X'.G β Φ B H w:=by rw[g2];exact hw
    have:=LR g1 g3 g4.2 (by simpa [D.aD]using g4.1) hw' hv;rw[g2]at this;exact this
 ·show(Bool.rec (motive:=fun _=>Option D) (X.prims f (as++[.yield l0]++bs)) (Option.rec (motive:=fun _=>Option D) (X.prims f (as++[.yield l0]++bs)) (fun d=>some d) (look l (as++[.yield l0]++bs))) (Nat.beq f f0):Option D)=none
  have hn:=hX.primsY f l0 as bs;have hk:look l (as++[.yield l0]++bs)=none:=by
   cases hk:look l (as++[.yield l0]++bs)with
   | none=>rfl
   | some d=>
    obtain⟨_,g4⟩:=hl.look hk;rw[NO,Bool.and_eq_true,kN,kN]at g4;exfalso;have:∀(as bs:List D),D.aD 0 (as++[.yield l0]++bs)=false:=by
     intro as bs
     induction as with
     | nil=>simp[D.aD,D.under]
     | cons a as ih=>simp only[List.cons_append,D.aD];rw[ih];simp
    rw[this]at g4
    cases g4.2
  rw[hk,hn]
  cases Nat.beq f f0 <;> rfl
end Go.AM
namespace Go.AM
section
variable {G:Nat->Option (List D)}{bb:Nat}{call:cT}{lf:Nat}{rnd:Option Nat}
end
end Go.AM
namespace Go.AM
end Go.AM
namespace Go.AM
open Go.RowKit Go.ChangeShapes
theorem JX {k:IntKind}{Φ :Fz}:∀(zs pre:List Int),bJ (zs.map (D.int k)) Φ ((pre++zs).map (Value.int k)).toArray pre.length
 | [],pre=>by simp[bJ]
 | z::zs,pre=>by
  simp only[List.map_cons,bJ];refine⟨⟨.int k z,by simp,rfl,by simp[VR]⟩,?_⟩;have:=JX (k:=k) (Φ := Φ) zs (pre++[z]);simpa using this
theorem JM {P:Program}{W:World}{name:String}{k:IntKind}{zs:List Int}{g:Nat}(hg:P.globalNamed name=some g)(h:Lib.TabIs P W name k zs):
  ∃cur e fr,W.heap[g]? =some (.cells cur e fr)∧bJ (zs.map (D.int k)) (Fz.all W) cur 0:=by
 unfold Lib.TabIs World.var? at h;rw[hg]at h;simp only[Option.bind_some]at h;split at h
 ·rename_i cs e fr hc
  cases h
  exact⟨_,e,fr,hc,JX zs []⟩
 ·cases h
theorem zGm {W W':World}(h1:W'.os=W.os)(h2:W'.output=W.output)(h3:∀j,j<W.heap.size->W'.heap[j]? =W.heap[j]?)(may:MemPlace->Prop):W.keptBut W' may:=by
 refine⟨h1,h2,fun i hi=>?_⟩;rw[h3 i hi]
 cases hc:W.heap[i]? with
 | none=>rfl
 | some o=>
  cases o <;> simp
section
variable {H:Type}{enc:TypeId×Value->H}{P:Program}
theorem ZN {f:Func}{s:ChangeSpec}{apart fresh handsOn again:Bool}{W W':World}{args:Array Value}{v:Value}{ds gs:List (DataW H)}{before pa pv:List MemPlace}
  (hW:DataW.Whole enc P f.params.toList s.vars apart W args.toList ds gs before)
  (hres:∀(b:Nat) (sp:Nat->Bool) (hd:Bool),DataW.TrodAll enc P W' b sp hd f.resultTypes.toList (v.resultList f.resultTypes.size) (s.fn H (ds++gs)).results [])
  (hargs:∀sp:Nat->Bool,(∀p∈before,sp p.block=true)->DataW.TrodAll enc P W' 0 sp true f.params.toList args.toList (s.fn H (ds++gs)).args pa)
  (hvars:∀sp:Nat->Bool,(∀p∈before,sp p.block=true)->DataW.TrodVars enc P W' sp s.vars (s.fn H (ds++gs)).vars pv)
  (hps:before=pa++pv) (h1:W'.os=W.os) (h2:W'.output=W.output) (h3:∀j,j<W.heap.size->W'.heap[j]? =W.heap[j]?)
  (hok:∀(j:Nat) (t:TypeId) (r:Value),f.resultTypes[j]? =some t->(v.resultList f.resultTypes.size)[j]? =some r->Value.okWide P W' .any 0 t r):
  s.post enc P f apart fresh handsOn again W args v W':=by
 have hold:∀p∈before,(fun b=>decide (b<W.heap.size)) p.block=true:=fun p hp=>by simpa using hW.lt p hp
 have hlt:=hW.lt;refine⟨ds,gs,before,[],pa,pv,hW,hres _ _ _,hargs _ hold,hvars _ hold,World.keptBut_mono (fun p hp=>⟨hp,?_⟩) (zGm h1 h2 h3 (· ∈before)),fun _=>?_⟩
 ·rw[hps,List.mem_append]at hp
  exact Or.inr hp
 ·obtain⟨_,_,_,_,_,hz,hn⟩:=hW
  refine⟨hok,_,_,([]++pa)++pv,⟨[]++pa,pv,trodAll_append (hargs _ (fun _ _=>rfl)) (hres _ _ _),hvars _ (fun _ _=>rfl),rfl,?_,?_⟩,?_⟩
  ·intro b off hp
   have hm:MemPlace.cell b off∈before:=by rw[hps];simpa using hp
   have hb:b<W.heap.size:=hlt _ hm;have:=hz b off hm;unfold World.frozen? at this ⊢;rw[h3 b hb];exact this
  ·intro ha
   have:=hn ha;rw[hps]at this;simpa using this
  ·intro p hp _
   rw[hps];simpa using hp
end
end Go.AM
