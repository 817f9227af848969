/- Walks. -/
import Derived.Test.YtbgdifdbgcgjnaaGreatDoorWalkG
set_option linter.unusedVariables false
set_option linter.unusedSimpArgs false
set_option linter.unnecessarySimpa false
set_option maxRecDepth 100000
namespace Go.AM.T
section
variable {X:Ctx}
def Zm(X:Ctx)(Sh:Expr->Prop):Prop:=∀e:Expr,EB e->∃r:Int,(∀H:aA,cF X Ii [.agg e.cells] H=some (.int .i64 r,H))∧(r=0->Sh e)
inductive Fine(Sh:Expr->Prop):Expr->Prop
 | mk {e:Expr} (h:Sh e) (hs:∀x∈fF e,x.kind≠0->Fine Sh x):Fine Sh e
def nU(g:Expr->Int)(s:Int)(x:Expr):Int×Bool:=if x.kind=0 then(s,true)else if g x=0 then(s,true)else(g x,false)
theorem Mc {g:Expr->Int}:∀(l:List Expr),(visit (nU g) 0 l).1=0->∀x∈l,x.kind≠0->g x=0
 | [],_=>by simp
 | y::r,h=>by
  intro x hx hk;rw[visit]at h;by_cases h1:y.kind=0
  ·simp[nU,h1]at h
   rcases List.mem_cons.1 hx with rfl | hx
   ·exact absurd h1 hk
   ·exact Mc r h x hx hk
  ·by_cases h2:g y=0
   ·simp[nU,h1,h2]at h
    rcases List.mem_cons.1 hx with rfl | hx
    ·exact h2
    ·exact Mc r h x hx hk
   ·simp[nU,h1,h2]at h
abbrev Aj(H:aA)(e:Expr):Env:=(((((((((Env.nil.put 0 (D.agg e.cells)).put 1 (D.fptr e.cells)).put 2 (D.ptr (List.length H) 0)).put 6 (D.agg e.cells)).put 7 (D.int IntKind.i64 0)).put 3 (D.int IntKind.i64 0)).put 8 (D.int IntKind.i64 0)).put 9 (D.bool false)).put 11 (D.agg e.cells)).put 12 (D.func lO [] [D.fptr e.cells])
def tO(H:aA)(e:Expr)(s:Int):aA:=H++[.box [.int .i64 s],.dfr false,.loop ⟨Aj H e,[13],tV,tU,if s=0 then .ready else .done,if s=0 then none else some .ret,H.length+1⟩]
theorem SI (hX : CX X) {Sh : Expr -> Prop} (h1 : Zm X Sh) : ∀ (k : Nat) (e : Expr), SizeOf.sizeOf e <= k -> EB e -> ∃ r : Int, (∀ H : aA, cF X yF [.agg e.cells] H = some (.int .i64 r, H)) ∧ (r = 0 -> Fine Sh e) := by
  intro k
  induction k with
  | zero => intro e h; have : 0 < SizeOf.sizeOf e := by cases e; simp; omega
            omega
  | succ k ih =>
    intro e hk he
    have hsub : ∀ x ∈ fF e, SizeOf.sizeOf x <= k := fun x hx => by have := F7 hx; omega
    obtain ⟨r0, hc0, hr0⟩ := h1 e he
    by_cases hz : r0 = 0
    · obtain ⟨g, hg⟩ : ∃ g : Expr -> Int, ∀ x, x ∈ fF e -> (∀ H : aA, cF X yF [.agg x.cells] H = some (.int .i64 (g x), H)) ∧ (g x = 0 -> Fine Sh x) := by
        refine Classical.axiomOfChoice (r := fun x y => x ∈ fF e -> (∀ H : aA, cF X yF [.agg x.cells] H = some (.int .i64 y, H)) ∧ (y = 0 -> Fine Sh x)) fun x => ?_
        by_cases hx : x ∈ fF e
        · obtain ⟨r, h⟩ := ih x (hsub x hx) (Z1 he x hx)
          exact ⟨r, fun _ => h⟩
        · exact ⟨0, fun h => absurd h hx⟩
      subst hz
      refine ⟨(visit (nU g) 0 (fF e)).1, fun H => ?_, fun hv => ⟨hr0 rfl, fun x hx hk => (hg x hx).2 (Mc _ hv x hx hk)⟩⟩
      have hP := Ng hX e
      refine MJ hX ?_
      simp [Bx, Env.dL, List.nil_append, List.append_nil, hP, hc0, aH]
      have hv : Vis X (H.length + 2) (tO H e) (H.length + 3) (nU g) (fun s => s = 0) (fun x => x ∈ fF e) := by
        refine ⟨fun s => by simp [tO], by omega, fun s x E hs hx => ?_, fun s x hs hx hb => ?_⟩
        · have hc := (hg x hx).1
          subst hs
          refine qW (L := ⟨Aj H e, [13], tV, tU, .ready, none, H.length + 1⟩) (by simp [tO]) rfl rfl ?_
          by_cases hx0 : x.kind = 0
          · simp [tV, tU, Env.dX, eA, hc, aH, hx0, nU, tO]
          · by_cases hg0 : g x = 0
            · simp [tV, tU, Env.dX, eA, hc, aH, hx0, hg0, nU, tO]
            · simp [tV, tU, Env.dX, eA, hc, aH, hx0, hg0, nU, tO]
        · subst hs
          simp only [nU] at hb ⊢
          split at hb
          · rw [if_pos (by assumption)]
          · split at hb
            · rw [if_neg (by assumption), if_pos (by assumption)]
            · simp at hb
      have hr := Zq hX hv he (fun x hx => hx) 0 rfl
      generalize hR : visit (nU g) 0 (fF e) = R at hr
      obtain ⟨s, c⟩ := R
      by_cases hs : s = 0
      · subst hs
        refine oR (H.length + 1) (H.length + 2) ⟨Aj H e, [13], tV, tU, .ready, none, H.length + 1⟩ (by simp) rfl (g := lO) (pre := []) (caps := [.fptr e.cells]) (by simp) (by simpa [tO] using hr) (by simp) (by simp) ?_
        simp [iO, fO, oS, finish, aB, aH]
      · refine oR (H.length + 1) (H.length + 2) ⟨Aj H e, [13], tV, tU, .done, some .ret, H.length + 1⟩ (by simp) rfl (g := lO) (pre := []) (caps := [.fptr e.cells]) (by simp) (by simpa [tO, hs] using hr) (by simp) (by simp) ?_
        simp [iO, fO, oS, finish, aB, aH]
    · refine ⟨r0, fun H => ?_, fun h => absurd h hz⟩
      refine MJ hX ?_
      simp [Bx, Env.dL, List.nil_append, List.append_nil, fO, oS, finish, aB, hc0, hz, aH]
theorem SU(hX:CX X){Sh:Expr->Prop}(h1:Zm X Sh){e:Expr}(he:EB e):∃r:Int,(∀H:aA,cF X yG [.agg e.cells] H=some (.int .i64 r,H))∧(r=0->Fine Sh e∧dW (SizeOf.sizeOf e) e<=4096∧rV 1000 e<=60):=by
 obtain⟨r,hc,hr⟩:=SI hX h1 _ e (Nat.le_refl _) he;have hd:=SS hX he;obtain⟨_,_,hs⟩:=SQ hX _ e (Nat.le_refl _) he;by_cases h2:60<rV 1000 e
 ·refine⟨42,fun H=>?_,by simp⟩
  refine O1 hX ?_;simp[wU,aB,hd,h2]
 ·by_cases h3:4096<dW (SizeOf.sizeOf e) e
  ·refine⟨3,fun H=>?_,by simp⟩
   refine O1 hX ?_;simp[wU,aB,hd,h2,hs,h3]
  ·by_cases h4:e.kind=11
   ·refine⟨9,fun H=>?_,by simp⟩
    refine O1 hX ?_;simp[wU,aB,hd,h2,hs,h3,h4]
   ·by_cases h5:e.kind=14
    ·refine⟨9,fun H=>?_,by simp⟩
     refine O1 hX ?_;simp[wU,aB,hd,h2,hs,h3,h4,h5]
    ·refine⟨r,fun H=>?_,fun h=>⟨hr h,by omega,by omega⟩⟩
     refine O1 hX ?_;simp[wU,aB,hd,h2,hs,h3,h4,h5,hc]
end
section
variable {X:Ctx}
theorem zG3(hX:CX X)(f0:Nl)(l:List (Bs))(x:Bs)(hl:(l.length:Int)<=9223372036854775807)(H:aA):∃d H',cF X m3 [SL f0 (l.map D.str) l.length,.str x] H=some (d,H')∧(∃i:Int,d=.int .i64 i∧(0<=i↔x∈l)∧H'=H):=by
 refine GY hX ?_;simp[Cg];refine cH (fun(i:Nat) e H'=>H'=H∧i<=l.length∧e.get 0=SL f0 (l.map D.str) l.length∧e.get 1=.str x∧e.get 7=.int .i64 l.length∧e.get 8=.int .i64 i∧x∉l.take i) (fun i=>l.length-i) ?_ 0 (by simp);rintro i e H' ⟨rfl,hi,g0,g1,g7,g8,hq⟩ L ih;by_cases h:i<l.length
 ·have h':(i:Int)<l.length:=by omega
  have w1:IntKind.i64.wrap ((i:Int)+1)=(i:Int)+1:=wI;have hdr:=jN (f:=D.str) h;by_cases hx:x=l[i]
  ·have hm:x∈l:=hx ▸ List.getElem_mem h
   simp[wV,g0,g1,g7,g8,h,h',hdr,w1,hx]
  ·simp[wV,g0,g1,g7,g8,h,h',hdr,w1,hx]
   refine ih (i+1) _ _ (by omega) ?_;simp only[true_and];refine⟨by omega,by simp[g0],by simp[g1],by simp[g7],by simp,?_⟩;rw[List.take_succ_eq_append_getElem h,List.mem_append];rintro(h2 | h2)
   ·exact hq h2
   ·exact hx (by simpa using h2)
 ·obtain rfl:i=l.length:=by omega
  rw[List.take_length]at hq;simp[wV,g0,g1,g7,g8,hq]
theorem zJC(hX:CX X)(f0:Nl)(l:List (Bs))(x:Bs)(hl:(l.length:Int)<=9223372036854775807)(H:aA):cF X lP [SL f0 (l.map D.str) l.length,.str x] H=some (.bool (decide (x∈l)),H):=by
 obtain⟨d,H',hc,i,rfl,hi,rfl⟩:=zG3 hX f0 l x hl H;refine MO hX ?_;by_cases hx:x∈l
 ·have:=hi.2 hx
  simp[A1,aB,hc,hx,this]
 ·have:¬0<=i:=fun h=>hx (hi.1 h)
  simp[A1,aB,hc,hx,this]
def tZ(X:Ctx)(g:Nat)(args:List D):Prop:=∃b:Bool,∀H:aA,cF X g args H=some (.bool b,H)
def Gc:D->Bs
 | .str s=>s
 | _=>[]
theorem Mr(hX:CX X)(cells:List D)(n:Nat)(s:Bs)(h:cells=(cells.map Gc).map D.str)(hn:n=cells.length)(h0:n≠0)(hb:(n:Int)<=9223372036854775807)(H:aA):aU X (.func lP [] []) [.fsl cells n,.str s] H=some (.bool (decide (s∈cells.map Gc)),H):=by
 have:=zJC hX .full (cells.map Gc) s (by rw[List.length_map, ← hn];exact hb) H;rw[← h,List.length_map, ← hn]at this
 cases n with
 | zero=>exact absurd rfl h0
 | succ n=>exact this
theorem SR(hX:CX X)(s:Bs):tZ X Ix [.str s]:=by
 have hf:=zKJ hX;refine⟨?b,fun H=>?c⟩
 case c=>
  refine zKD hX ?_;simp[Qk,hf];rw[Mr hX]
  ·simp[fO,oS,finish]
   rfl
  ·rfl
  ·rfl
  ·decide
  ·decide
def lexB(c:Int):Bool:=((decide (97<=lL .u8 c 32) && decide (lL .u8 c 32<=122)) && decide (c<128)) || decide (c=95)
theorem IJ(hX:CX X)(c:Int)(H:aA):cF X n7 [.int .u8 c] H=some (.bool (lexB c),H):=by
 refine zLk hX ?_;unfold lexB;by_cases h4:c=95
 ·subst h4
  have hr:lL .u8 95 32=127:=by decide
  simp[Df,aB,hr]
 ·generalize hr:lL .u8 c 32=r
  by_cases h1:97<=r <;> by_cases h2:r<=122 <;> by_cases h3:c<128 <;> simp[Df,aB,hr,h1,h2,h3,h4]
theorem zFH {c:UInt8}(h:lexB (c.toNat:Int)=true):c≠36∧c≠42:=by
 constructor <;> ·rintro rfl;revert h;decide
def yZ(c:Int):Bool:=lexB c || (decide (48<=c) && decide (c<=57))
theorem zFE(hX:CX X)(c:Int)(H:aA):cF X Js [.int .u8 c] H=some (.bool (yZ c),H):=by
 refine zLj hX ?_;have hb:=IJ hX c;unfold yZ
 cases hb0:lexB c <;> by_cases h1:48<=c <;> by_cases h2:c<=57 <;> simp[Tu,aB,hb,hb0,h1,h2]
theorem zFF(hX:CX X)(c:Int)(H:aA):cF X H5 [.int .u8 c] H=some (.bool (!(yZ c)),H):=by
 have hp:=zFE hX c;refine zLl hX ?_;simp[Tx,aB,hp]
end
section
variable {X:Ctx}
variable {σ:Type}{id:Nat}{HS:σ->aA}{n:Nat}{ok:σ->Prop}
theorem zG5(hX:CX X){f:σ->UInt8->σ×Bool}{P:UInt8->Prop}(hlen:∀s,(HS s).length=n){E:aA}{g:D}(hg0:g≠ .undef)(hg:Stops X (fun x:UInt8=>.int .u8 x.toNat) g HS f ok P E)(f0:Nl)(l:List (UInt8))(hl:l.length<=140737488355328)(hP:∀x∈l,P x)(s:σ)(hs:ok s):∃d H',cF X Jb [SL f0 (l.map fun b=>D.int .u8 b.toNat) l.length,g] (HS s++E)=some (d,H')∧(∃i:Int,d=.int .i64 i∧(0<=i↔(visit f s l).2=false)∧H'=HS (visit f s l).1++E):=by
 refine zAn hX ?_;have hok:∀H:aA,cM g H=some (g,H):=fun H=>nI hg0
 simp[Rb,hok];refine cH (fun(q:Nat×σ) e H'=>H'=HS q.2++E∧q.1<=l.length∧ok q.2∧e.get 0=SL f0 (l.map fun b=>D.int .u8 b.toNat) l.length∧e.get 1=g∧e.get 7=.int .i64 l.length∧e.get 8=.int .i64 q.1∧visit f q.2 (l.drop q.1)=visit f s l) (fun q=>l.length-q.1) ?_ (0,s) (by simp[hs]);rintro⟨j,t⟩ e H' ⟨rfl,hj,ht,g0,g1,g7,g8,hq⟩ L ih;simp only at hj ht g8 hq ih;have htk:∀t':σ,List.take ((HS s).length+E.length) (HS t'++E)=HS t'++E:=fun t'=>List.take_of_length_le (by rw[List.length_append,hlen,hlen];exact Nat.le_refl _)
 by_cases h:j<l.length
 ·have h':(j:Int)<l.length:=by omega
  have w1:IntKind.i64.wrap ((j:Int)+1)=(j:Int)+1:=wI;have hdr:=jN (f:=fun b:UInt8=>D.int .u8 b.toNat) h;have hc:=hg.call t l[j] ht (hP _ (List.getElem_mem h));have hk:=hg.keep t l[j] ht (hP _ (List.getElem_mem h));have hv:=U6 h hq;generalize(f t l[j]).1=t' at *
  cases hb:(f t l[j]).2 with
  | true=>
   rw[hb]at hc hv;simp only[if_true,Bool.not_true]at hc hv;simp[Ci,g0,g1,g7,g8,h,h',hdr,hok,hc,w1];refine ih (j+1,t') _ _ (by simp;omega) ?_;simp[g0,g1,g7,hk hb,hv];omega
  | false=>
   rw[hb]at hc hv;simp only[Bool.false_eq_true,if_false,Bool.not_false]at hc hv;simp[Ci,g0,g1,g7,g8,h,h',hdr,hok,hc,w1,htk, ← hv]
 ·obtain rfl:j=l.length:=by omega
  simp[visit]at hq;simp[Ci,g0,g1,g7,g8,htk, ← hq]
theorem zJE(hX:CX X){f:σ->UInt8->σ×Bool}{P:UInt8->Prop}(hlen:∀s,(HS s).length=n){E:aA}{g:D}(hg0:g≠ .undef)(hg:Stops X (fun x:UInt8=>.int .u8 x.toNat) g HS f ok P E)(f0:Nl)(l:List (UInt8))(hl:l.length<=140737488355328)(hP:∀x∈l,P x)(s:σ)(hs:ok s):cF X G9 [SL f0 (l.map fun b=>D.int .u8 b.toNat) l.length,g] (HS s++E)=some (.bool (!(visit f s l).2),HS (visit f s l).1++E):=by
 obtain⟨d,H',hc,i,rfl,hi,rfl⟩:=zG5 hX hlen hg0 hg f0 l hl hP s hs;have hok:∀H:aA,cM g H=some (g,H):=fun H=>nI hg0
 have htk:∀t':σ,List.take ((HS s).length+E.length) (HS t'++E)=HS t'++E:=fun t'=>List.take_of_length_le (by rw[List.length_append,hlen,hlen];exact Nat.le_refl _)
 refine zKT hX ?_
 cases hb:(visit f s l).2 with
 | true=>
  rw[hb]at hi;have hi':¬0<=i:=fun q=>by have:=hi.1 q;simp at this
  simp[Cr,hok,hc,hi',htk]
 | false=>
  rw[hb]at hi;have hi':0<=i:=hi.2 rfl;simp[Cr,hok,hc,hi',htk]
theorem C5 {α:Type}(g:α->Bool):∀l:List α,(visit (fun(_:Unit) (x:α)=>((),g x)) () l).2=l.all g
 | []=>rfl
 | x::r=>by
  rw[visit,List.all_cons, ← C5 g r]
  cases hb:g x <;> simp
theorem ZH(hX:CX X){g:D}(hg0:g≠ .undef)(f0:Nl)(l:List (Expr))(hl:l.length<=10000000)(q:Expr->Bool)(hc:∀x∈l,∀H:aA,aU X g [.agg x.cells] H=some (.bool (!(q x)),H))(H:aA):cF X vK [SL f0 (Expr.aC l) l.length,g] H=some (.bool (!(l.all q)),H):=by
 have h:=Bd hX (σ:=Unit) (HS:=fun _=>H) (n:=H.length) (ok:=fun _=>True) (f:=fun _ x=>((),q x)) (P:=fun x=>x∈l) (fun _=>rfl) (E:=[]) hg0 ⟨fun _ x _ hx=>by simpa using hc x hx H,fun _ _ _ _ _=>trivial⟩ f0 l hl (fun x hx=>hx) () trivial;rw[C5]at h;simpa using h
theorem GL(hX:CX X){g:D}(hg0:g≠ .undef)(f0:Nl)(l:List (Pat))(hl:l.length<=10000000)(q:Pat->Bool)(hc:∀x∈l,∀H:aA,aU X g [.agg x.cells] H=some (.bool (!(q x)),H))(H:aA):cF X sX [SL f0 (Pat.aC l) l.length,g] H=some (.bool (!(l.all q)),H):=by
 have h:=Bc hX (σ:=Unit) (HS:=fun _=>H) (n:=H.length) (ok:=fun _=>True) (f:=fun _ x=>((),q x)) (P:=fun x=>x∈l) (fun _=>rfl) (E:=[]) hg0 ⟨fun _ x _ hx=>by simpa using hc x hx H,fun _ _ _ _ _=>trivial⟩ f0 l hl (fun x hx=>hx) () trivial;rw[C5]at h;simpa using h
theorem ZF(hX:CX X){g:D}(hg0:g≠ .undef)(f0:Nl)(l:List (Bs))(hl:l.length<=10000000)(q:Bs->Bool)(hc:∀x∈l,∀H:aA,aU X g [.str x] H=some (.bool (!(q x)),H))(H:aA):cF X m6 [SL f0 (l.map D.str) l.length,g] H=some (.bool (!(l.all q)),H):=by
 have h:=zJD hX (σ:=Unit) (HS:=fun _=>H) (n:=H.length) (ok:=fun _=>True) (f:=fun _ x=>((),q x)) (P:=fun x=>x∈l) (fun _=>rfl) (E:=[]) hg0 ⟨fun _ x _ hx=>by simpa using hc x hx H,fun _ _ _ _ _=>trivial⟩ f0 l hl (fun x hx=>hx) () trivial;rw[C5]at h;simpa using h
theorem ZG(hX:CX X){g:D}(hg0:g≠ .undef)(f0:Nl)(l:List (UInt8))(hl:l.length<=140737488355328)(q:UInt8->Bool)(hc:∀x∈l,∀H:aA,aU X g [.int .u8 x.toNat] H=some (.bool (!(q x)),H))(H:aA):cF X G9 [SL f0 (l.map fun b=>D.int .u8 b.toNat) l.length,g] H=some (.bool (!(l.all q)),H):=by
 have h:=zJE hX (σ:=Unit) (HS:=fun _=>H) (n:=H.length) (ok:=fun _=>True) (f:=fun _ x=>((),q x)) (P:=fun x=>x∈l) (fun _=>rfl) (E:=[]) hg0 ⟨fun _ x _ hx=>by simpa using hc x hx H,fun _ _ _ _ _=>trivial⟩ f0 l hl (fun x hx=>hx) () trivial;rw[C5]at h;simpa using h
theorem Y9 {α β:Type}{l:List α}{R:α->β->Prop}(b0:β)(h:∀x∈l,∃b,R x b):∃g:α->β,∀x∈l,R x (g x):=by
 refine Classical.axiomOfChoice (r:=fun x b=>x∈l->R x b) fun x=>?_
 by_cases hx:x∈l
 ·obtain⟨b,hb⟩:=h x hx
  exact⟨b,fun _=>hb⟩
 ·exact⟨b0,fun h=>absurd h hx⟩
theorem zFG(hX:CX X)(s:Bs)(hl:s.length<=140737488355328):∃b:Bool,(∀H:aA,cF X Jt [.str s] H=some (.bool b,H))∧(b=true->∃c r,s=c::r∧c≠36∧c≠42):=by
 cases s with
 | nil=>
  refine⟨false,fun H=>?_,by simp⟩;refine Np hX ?_;simp[Q8,aB]
 | cons c r=>
  have hb:=IJ hX (c.toNat:Int)
  cases hb0:lexB c.toNat with
  | false=>
   refine⟨false,fun H=>?_,by simp⟩;refine Np hX ?_;simp[Q8,aB,hb,hb0]
  | true=>
   have hc:=ZG hX (g:=.func H5 [] []) (by simp) .full (c::r) hl (fun b=>yZ b.toNat) fun x _ H=>zFF hX x.toNat H
   refine⟨(c::r).all fun b=>yZ b.toNat,fun H=>?_,fun _=>⟨c,r,rfl,zFH hb0⟩⟩;have hm:(c::r).length<=aX:=by rw[yW];omega
   generalize hq:(c::r).all (fun b=>yZ b.toNat)=q at hc ⊢;have hc':∀H:aA,cF X G9 [.fsl (aZ (c::r)) (c::r).length,.func H5 [] []] H=some (.bool (!q),H):=hc;rw[List.length_cons]at hm hc';refine Np hX ?_;simp[Q8,aB,hb,hb0,hm,hc']
end
section
variable {X:Ctx}
theorem D2(hX:CX X)(s:Bs)(hl:s.length<=140737488355328):∃b:Bool,(∀H:aA,cF X vI [.str s] H=some (.bool b,H))∧(b=true->s.length<=64∧∃c r,s=c::r∧c≠36∧c≠42):=by
 obtain⟨b,hc,hb⟩:=zFG hX s hl
 cases b with
 | false=>
  refine⟨false,fun H=>?_,by simp⟩;refine MI hX ?_;simp[P8,aB,hc]
 | true=>
  refine⟨decide (s.length<=64),fun H=>?_,fun h=>⟨of_decide_eq_true h,hb rfl⟩⟩;refine MI hX ?_;by_cases h:s.length<=64
  ·have h':(s.length:Int)<=64:=by omega
   simp[P8,aB,hc,h,h']
  ·have h':¬(s.length:Int)<=64:=by omega
   simp[P8,aB,hc,h,h']
theorem Gs(hX:CX X)(s:Bs)(hl:s.length<=140737488355328):∃b:Bool,(∀H:aA,cF X G5 [.str s] H=some (.bool b,H))∧(b=true->s.length<=64∧∃c r,s=c::r∧c≠36∧c≠42):=by
 obtain⟨b,hc,hb⟩:=D2 hX s hl;obtain⟨q,hq⟩:=SR hX s
 cases b with
 | false=>
  refine⟨false,fun H=>?_,by simp⟩;refine MH hX ?_;simp[Bv,aB,hc]
 | true=>
  refine⟨!q,fun H=>?_,fun _=>hb rfl⟩;refine MH hX ?_;simp[Bv,aB,hc,hq]
theorem SF(hX:CX X)(s:Bs)(hl:(s.length:Int)<=9223372036854775807):tZ X Io [.str s]:=by
 have hu:=fun H=>QE hX H s hl
 by_cases h1:sM s=true
 ·by_cases h:s.length<=16384
  ·refine⟨true,fun H=>?_⟩
   have h':(s.length:Int)<=16384:=by omega
   refine Nj hX ?_;simp[P6,aB,hu,h1,h,h']
  ·refine⟨false,fun H=>?_⟩
   have h':¬(s.length:Int)<=16384:=by omega
   refine Nj hX ?_;simp[P6,aB,hu,h1,h,h']
 ·refine⟨false,fun H=>?_⟩
  refine Nj hX ?_;simp[P6,aB,hu,h1]
def lK(e:Expr):Bool:=decide (e.kind≠0) && decide (e.kind≠11) && decide (e.kind≠14)
theorem Gr(hX:CX X)(e:Expr)(H:aA):cF X G4 [.agg e.cells] H=some (.bool (lK e),H):=by
 refine zKu hX ?_;unfold lK;by_cases h0:e.kind=0
 ·simp[zZ,aB,h0]
 ·by_cases h1:e.kind=11
  ·simp[zZ,aB,h0,h1]
  ·by_cases h2:e.kind=14
   ·simp[zZ,aB,h0,h1,h2]
   ·simp[zZ,aB,h0,h1,h2]
theorem SB(hX:CX X)(e:Expr)(H:aA):cF X l3 [.agg e.cells] H=some (.bool (!(lK e)),H):=by
 have h:=Gr hX e;refine zKv hX ?_;simp[Pg,aB,h]
inductive PFine:Pat->Prop
 | mk {p:Pat} (hk:p.kind=1∨p.kind=2∨p.kind=3) (h1:p.kind=1->p.pats=[]) (hn:p.kind≠3->p.keys=[]) (h3:p.kind=3->p.keys.length=p.pats.length) (hp:∀x∈p.pats,PFine x) (hs:∀x∈p.keys,x.kind≠0):PFine p
theorem SC(hX:CX X):∀(k:Nat) (p:Pat),SizeOf.sizeOf p<=k->PB p->∃b:Bool,(∀H:aA,cF X vH [.agg p.cells] H=some (.bool b,H))∧(b=true->PFine p):=by
 intro k
 induction k with
 | zero=>intro p hp;cases p;simp at hp
 | succ k ih=>
  intro p hp hpo;have hlen:p.name.length<=2000000∧p.keys.length<=2000000∧p.pats.length<=2000000∧∀q∈p.pats,PB q∧SizeOf.sizeOf q<=k:=by
   cases p
   rw[PB,mH]at hpo;refine⟨hpo.1,hpo.2.1,hpo.2.2.2.1,fun q hq=>⟨hpo.2.2.2.2 q hq,?_⟩⟩;simp only[Pat.pats]at hq;have:=List.sizeOf_lt_of_mem hq;simp at hp;omega
  obtain⟨hl0,hl1,hl2,hsub⟩:=hlen;obtain⟨w,hw, -⟩:=D2 hX p.name (by omega);obtain⟨g,hg⟩:=Y9 true (fun x hx=>ih x (hsub x hx).2 (hsub x hx).1:∀x∈p.pats,∃b:Bool,_);have c1:=GL hX (g:=.func Il [] []) (by simp) p.patsF p.pats (by omega) g fun x hx H=>by
   have h:=(hg x hx).1;refine zKw hX ?_;simp[Pj,aB,h]
  have c2:=ZH hX (g:=.func l3 [] []) (by simp) p.keysF p.keys (by omega) lK fun x hx H=>SB hX x H
  have hall:(p.pats.all g=true->∀x∈p.pats,PFine x)∧(p.keys.all lK=true->∀x∈p.keys,x.kind≠0):=by
   refine⟨fun h x hx=>(hg x hx).2 (List.all_eq_true.1 h x hx),fun h x hx=>?_⟩;have:=List.all_eq_true.1 h x hx;simp[lK]at this;exact this.1.1
  generalize p.pats.all g=b1 at c1 hall;generalize p.keys.all lK=b2 at c2 hall;clear hg;have hfin:∀(o:Bool),(o=true->(∀x∈p.pats,PFine x)->(∀x∈p.keys,x.kind≠0)->PFine p)->(∀H:aA,cF X vH [.agg p.cells] H=some (.bool (o && b1 && b2),H))->∃b:Bool,(∀H:aA,cF X vH [.agg p.cells] H=some (.bool b,H))∧(b=true->PFine p):=fun o h1 h2=>⟨_,h2,fun hb=>by
   simp at hb;exact h1 hb.1.1 (hall.1 hb.1.2) (hall.2 hb.2)⟩
  obtain⟨nk,hnk⟩:∃n,p.keys.length=n:=⟨_,rfl⟩;obtain⟨np,hnp⟩:∃n,p.pats.length=n:=⟨_,rfl⟩;rw[hnp]at c1;rw[hnk]at c2;have w1:IntKind.i64.wrap ((nk:Int)+np)=(nk:Int)+np:=wI;have w0:IntKind.i64.wrap 0=0:=by decide
  by_cases k1:p.kind=1
  ·refine hfin (w && decide (nk=0∧np=0)) (fun h hp hk=>?_) fun H=>?_
   ·simp at h
    exact⟨.inl k1,fun _=>List.length_eq_zero_iff.1 (by omega),fun _=>List.length_eq_zero_iff.1 (by omega),fun h=>by omega,hp,hk⟩
   ·refine Bg hX ?_
    by_cases hz:nk=0∧np=0
    ·obtain⟨rfl,rfl⟩:=hz
     cases w <;> cases b1 <;> cases b2 <;> simp[lF,aB,k1,hw,hnk,hnp,c1,c2,w0]
    ·have hz':¬(nk:Int)+np=0:=by omega
     cases w <;> cases b1 <;> cases b2 <;> simp[lF,aB,k1,hw,hnk,hnp,w1,hz,hz',c1,c2]
  ·by_cases k2:p.kind=2
   ·refine hfin (decide (p.name=[]) && decide (nk=0) && decide (0<np)) (fun h hp hk=>?_) fun H=>?_
    ·simp at h
     exact⟨.inr (.inl k2),fun h=>by omega,fun _=>List.length_eq_zero_iff.1 (by omega),fun h=>by omega,hp,hk⟩
    ·refine Bg hX ?_
     by_cases hn:p.name=[]
     ·by_cases hz:nk=0
      ·subst hz
       by_cases hp:0<np
       ·have hp':(0:Int)<np:=by omega
        cases b1 <;> cases b2 <;> simp[lF,aB,k2,hn,hnk,hnp,hp,hp',c1,c2]
       ·have hp':¬(0:Int)<np:=by omega
        cases b1 <;> cases b2 <;> simp[lF,aB,k2,hn,hnk,hnp,hp,hp',c1,c2]
      ·have hz':¬(nk:Int)=0:=by omega
       cases b1 <;> cases b2 <;> simp[lF,aB,k2,hn,hnk,hnp,hz,hz',c1,c2]
     ·simp[lF,aB,k2,hn,hnk,hnp,c1,c2]
   ·by_cases k3:p.kind=3
    ·refine hfin (decide (p.name=[]) && decide (nk=np) && decide (0<np)) (fun h hp hk=>?_) fun H=>?_
     ·simp at h
      exact⟨.inr (.inr k3),fun h=>by omega,fun h=>absurd k3 h,fun _=>by omega,hp,hk⟩
     ·refine Bg hX ?_
      by_cases hn:p.name=[]
      ·by_cases hz:nk=np
       ·subst hz
        by_cases hp:0<nk
        ·have hp':(0:Int)<nk:=by omega
         cases b1 <;> cases b2 <;> simp[lF,aB,k3,hn,hnk,hnp,hp,hp',c1,c2]
        ·have hp':¬(0:Int)<nk:=by omega
         cases b1 <;> cases b2 <;> simp[lF,aB,k3,hn,hnk,hnp,hp,hp',c1,c2]
       ·have hz':¬(nk:Int)=np:=by omega
        cases b1 <;> cases b2 <;> simp[lF,aB,k3,hn,hnk,hnp,hz,hz',c1,c2]
      ·simp[lF,aB,k3,hn,hnk,hnp,c1,c2]
    ·refine⟨false,fun H=>?_,by simp⟩
     refine Bg hX ?_;simp[lF,aB,k1,k2,k3]
end
section
variable {X:Ctx}
theorem zHl(hX:CX X)(s:Bs)(hl:(s.length:Int)<=9223372036854775807)(H:aA):cF X Ju [.str s,.str [36]] H=some (.bool (decide (s.head?=some 36)),H):=by
 refine zLm hX ?_
 cases s with
 | nil=>simp[Q9,aB]
 | cons c r=>
  have hs:=D8 (s:=c::r) (k:=1) (by simp);have h1:(1:Int)<=(r.length:Int)+1:=by omega
  simp at hs;by_cases hc:c=36
  ·subst hc
   simp[Q9,aB,hs,h1]
  ·simp[Q9,aB,hs,hc,h1]
def nV(s:Bs):Bs:=if s.head?=some 36 then s.tail else s
theorem VO(hX:CX X)(s:Bs)(hl:(s.length:Int)<=9223372036854775807)(H:aA):cF X Jv [.str s,.str [36]] H=some (.tup [.str (nV s),.bool (decide (s.head?=some 36))],H):=by
 have h:=zHl hX s hl;refine zLn hX ?_;unfold nV;by_cases hh:s.head?=some 36
 ·cases s with
  | nil=>simp at hh
  | cons c r=>
   have hs:=xQ (s:=c::r) (k:=1) (by simp);simp at hs hh;subst hh;simp[Dg,aB,h,hs]
 ·simp[Dg,aB,h,hh]
theorem BL(hX:CX X)(s:Bs)(hl:(s.length:Int)<=9223372036854775807)(H:aA):cF X l9 [.str s,.str [36]] H=some (.tup [.str (nV s),.bool (decide (s.head?=some 36))],H):=by
 have h:=VO hX s hl;refine zKM hX ?_;simp[Qw,aB,h]
theorem SK(hX:CX X)(s:Bs)(hl:s.length<=10000000):∃b:Bool,∀H:aA,cF X l5 [.str s] H=some (.bool (!b),H):=by
 have h:=BL hX s (by omega);have hlc:(nV s).length<=10000000:=by
  unfold nV;split
  ·rw[List.length_tail];omega
  ·exact hl
 obtain⟨w,hw, -⟩:=D2 hX (nV s) (by omega);obtain⟨o,ho, -⟩:=Gs hX s (by omega);by_cases hh:s.head?=some 36
 ·refine⟨w,fun H=>?_⟩
  refine ML hX ?_;simp[Cb,aB,h,hh,hw]
 ·refine⟨o,fun H=>?_⟩
  refine ML hX ?_;simp[Cb,aB,h,hh,ho]
theorem SM(hX:CX X)(d:Def)(hd:DB d):∃b:Bool,(∀H:aA,cF X Iv [.agg d.cells] H=some (.bool b,H))∧(b=true->d.name.length<=64∧d.params.length<=8∧d.body.kind≠0):=by
 have hd':d.name.length<=140737488355328∧d.params.length<=2000000∧∀s∈d.params,s.length<=2000000:=by
  cases d
  rw[DB]at hd;exact⟨hd.1,hd.2.1,hd.2.2.1⟩
 obtain⟨hl0,hl1,hl2⟩:=hd';obtain⟨o,ho,hol⟩:=Gs hX d.name (by omega);have hp:=Gr hX d.body;obtain⟨g,hg⟩:=Y9 true (fun s hs=>SK hX s (by have:=hl2 s hs;omega):∀s∈d.params,∃b:Bool,_);have hc:=ZF hX (g:=.func l5 [] []) (by simp) d.paramsF d.params (by omega) g hg;generalize d.params.all g=b1 at hc;have hpl:lK d.body=true->d.body.kind≠0:=fun h=>by
  simp[lK]at h;exact h.1.1
 generalize lK d.body=b2 at hp hpl;by_cases h8:d.params.length<=8
 ·have h8':(d.params.length:Int)<=8:=by omega
  refine⟨o && b2 && b1,fun H=>?_,fun h=>?_⟩
  ·refine MM hX ?_
   cases o <;> cases b2 <;> cases b1 <;> simp[Ca,aB,ho,hp,hc,h8,h8']
  ·simp at h
   exact⟨(hol h.1.1).1,h8,hpl h.1.2⟩
 ·have h8':¬(d.params.length:Int)<=8:=by omega
  refine⟨false,fun H=>?_,by simp⟩;refine MM hX ?_
  cases o <;> simp[Ca,aB,ho,hp,hc,h8,h8']
theorem zIP(hX:CX X)(f:Nl)(c:List Int)(H:aA):cF X Je [SL f (c.map (D.int .u32)) c.length,.nilsl] H=some (.bool (decide (c.length=0)),H):=by
 refine zKO hX ?_;obtain⟨n,hn⟩:∃n,c.length=n:=⟨_,rfl⟩;by_cases h:n=0
 ·subst h
  simp[Cm,hn];rw[eT];simp[OM,aB]
 ·have h':¬(n:Int)=0:=by omega
  simp[Cm,aB,hn,h,h']
end
section
variable {X:Ctx}
theorem zIR(hX:CX X)(f:Nl)(cs:List D)(n:Nat){g:D}(hg:g≠ .undef)(H:aA):cF X m5 [SL f cs n,.nilsl,g] H=some (.bool (decide (n=0)),H):=by
 have hok:∀H:aA,cM g H=some (g,H):=fun H=>nI hg
 refine zKQ hX ?_;by_cases h:n=0
 ·subst h
  simp[Co,hok];rw[eT];simp[OP,aB]
 ·have h':¬(n:Int)=0:=by omega
  simp[Co,aB,hok,h,h']
theorem zIQ(hX:CX X)(f:Nl)(cs:List D)(n:Nat){g:D}(hg:g≠ .undef)(H:aA):cF X m4 [SL f cs n,.nilsl,g] H=some (.bool (decide (n=0)),H):=by
 have hok:∀H:aA,cM g H=some (g,H):=fun H=>nI hg
 refine zKP hX ?_;by_cases h:n=0
 ·subst h
  simp[Cn,hok];rw[eT];simp[OO,aB]
 ·have h':¬(n:Int)=0:=by omega
  simp[Cn,aB,hok,h,h']
theorem zIS(hX:CX X)(f:Nl)(cs:List D)(n:Nat){g:D}(hg:g≠ .undef)(H:aA):cF X Jf [SL f cs n,.nilsl,g] H=some (.bool (decide (n=0)),H):=by
 have hok:∀H:aA,cM g H=some (g,H):=fun H=>nI hg
 refine zKR hX ?_;by_cases h:n=0
 ·subst h
  simp[Cp,hok];rw[eT];simp[OQ,aB]
 ·have h':¬(n:Int)=0:=by omega
  simp[Cp,aB,hok,h,h']
theorem Mm:dN.neg=false:=rfl
theorem Mn:dN.exp=0:=rfl
theorem Mo:SL dN.coefF (dN.coef.map (D.int .u32)) dN.coef.length=.nilsl:=rfl
theorem CU(hX:CX X)(d:Dec):tZ X b9 [.agg d.cells,.agg dN.cells]:=by
 have he:=zIP hX d.coefF d.coef;by_cases h1:d.neg=false
 ·by_cases h2:d.exp=0
  ·refine⟨decide (d.coef.length=0),fun H=>?_⟩
   refine Nh hX ?_;simp[P3,aB,h1,h2,he,Mm,Mn,Mo]
  ·refine⟨false,fun H=>?_⟩
   refine Nh hX ?_;simp[P3,aB,h1,h2,Mm,Mn,Mo]
 ·refine⟨false,fun H=>?_⟩
  have h1':d.neg=true:=by cases hd:d.neg <;> simp_all
  refine Nh hX ?_;simp[P3,aB,h1',Mm,Mn,Mo]
theorem Ao:e0.kind=0:=rfl
theorem An:e0.name=[]:=rfl
theorem Am:e0.text=[]:=rfl
theorem zJc:e0.num=dN:=rfl
theorem zJa:SL e0.kidsF (Expr.aC e0.kids) e0.kids.length=.nilsl:=by simp[e0,eK,Expr.kidsF,Expr.kids,SL]
theorem zI9:SL e0.patsF (Pat.aC e0.pats) e0.pats.length=.nilsl:=by simp[e0,eK,Expr.patsF,Expr.pats,SL]
theorem zJb:SL e0.defsF (Def.aC e0.defs) e0.defs.length=.nilsl:=by simp[e0,eK,Expr.defsF,Expr.defs,SL]
theorem WH(hX:CX X)(e:Expr):∃b:Bool,(∀H:aA,cF X vJ [.agg e.cells,.agg e0.cells] H=some (.bool b,H))∧(b=true->e.kids=[]∧e.pats=[]∧e.defs=[]):=by
 obtain⟨sn,hn⟩:=CU hX e.num;have q1:=fun H=>zIR hX e.kidsF (Expr.aC e.kids) e.kids.length (g:=.func vJ [] []) (by simp) H
 have q2:=fun H=>zIQ hX e.patsF (Pat.aC e.pats) e.pats.length (g:=.func Ik [] []) (by simp) H
 have q3:=fun H=>zIS hX e.defsF (Def.aC e.defs) e.defs.length (g:=.func HN [] []) (by simp) H
 have hl:(decide (e.kids.length=0) && decide (e.pats.length=0) && decide (e.defs.length=0))=true->e.kids=[]∧e.pats=[]∧e.defs=[]:=fun h=>by
  simp at h;exact⟨h.1.1,h.1.2,h.2⟩
 generalize decide (e.kids.length=0)=b1 at q1 hl;generalize decide (e.pats.length=0)=b2 at q2 hl;generalize decide (e.defs.length=0)=b3 at q3 hl;by_cases h0:e.kind=0
 ·by_cases h1:e.name=[]
  ·by_cases h2:e.text=[]
   ·refine⟨sn && b1 && b2 && b3,fun H=>?_,fun h=>hl (by simp at h ⊢;exact⟨⟨h.1.1.2,h.1.2⟩,h.2⟩)⟩
    refine Bh hX ?_
    cases sn <;> cases b1 <;> cases b2 <;> cases b3 <;> simp[A0,aB,h0,h1,h2,hn,q1,q2,q3,Ao,An,Am,zJc,zJa,zI9,zJb]
   ·refine⟨false,fun H=>?_,by simp⟩
    refine Bh hX ?_;simp[A0,aB,h0,h1,h2,Ao,An,Am]
  ·refine⟨false,fun H=>?_,by simp⟩
   refine Bh hX ?_;simp[A0,aB,h0,h1,Ao,An,Am]
 ·refine⟨false,fun H=>?_,by simp⟩
  refine Bh hX ?_;simp[A0,aB,h0,Ao,An,Am]
theorem SJ(hX:CX X)(e:Expr):∃b:Bool,(∀H:aA,cF X Iu [.agg e.cells] H=some (.bool b,H))∧(b=true->e.kids=[]∧e.pats=[]∧e.defs=[]):=by
 obtain⟨b,hb,hh⟩:=WH hX e;have hz:z0=e0.cells:=by rw[bP];rfl
 by_cases ha:e.at_=0
 ·refine⟨b,fun H=>?_,hh⟩
  refine MK hX ?_;simp[Bz,aB,ha,hz,hb]
 ·refine⟨false,fun H=>?_,by simp⟩
  refine MK hX ?_;simp[Bz,aB,ha]
theorem SD(hX:CX X)(e:Expr)(hw:e.num.wf):tZ X Im [.agg e.cells]:=by
 obtain⟨sn,hn⟩:=CU hX e.num;have hz:eG=dN.cells:=by simp[dN,Dec.cells,SL];rfl
 have hd:=fun H=>zJu hX H e.num hw
 by_cases h8:e.kind=8
 ·cases hg:e.num.neg with
  | false=>
   refine⟨decide (Ml e.num=0),fun H=>?_⟩;refine Ni hX ?_;simp[P5,aB,h8,hg,hd]
  | true=>
   refine⟨false,fun H=>?_⟩;refine Ni hX ?_;simp[P5,aB,h8,hg,hd]
 ·refine⟨sn,fun H=>?_⟩
  refine Ni hX ?_;simp[P5,aB,h8,hz,hn]
end
section
variable {X:Ctx}
def dB(k:Int):Int×Int×Int:=
 if k=3∨k=6∨k=7∨k=11∨k=15∨k=23∨k=25 then(1,1,0)else
 if k=4∨k=14∨k=26∨k=29 then(2,2,0)else
 if k=5 then(3,3,6)else
 if k=12 then(1,1,1)else
 if k=10∨k=13 then(0,4096,0)else
 if k=18 then(0,8,0)else
 if k=19 then(3,3,4)else
 if k=20 then(2,2,2)else
 if k=21 then(3,3,0)else
 if k=22 then(4,4,8)else
 if k=27∨k=28 then(2,4096,0)else(0,0,0)
theorem gC(a b c:D):aJ true 3 [a,b,c]=some (.agg [a,b,c]):=rfl
theorem RZ(hX:CX X)(k:Int)(H:aA):cF X Ij [.int .i64 k] H=some (.agg [.int .i64 (dB k).1,.int .i64 (dB k).2.1,.int .i64 (dB k).2.2],H):=by
 refine zKt hX ?_;by_cases h3:k=3
 ·subst h3;simp[fV,aB,dB,gC,aH]
 by_cases h6:k=6
 ·subst h6;simp[fV,aB,dB,gC,aH]
 by_cases h7:k=7
 ·subst h7;simp[fV,aB,dB,gC,aH]
 by_cases h11:k=11
 ·subst h11;simp[fV,aB,dB,gC,aH]
 by_cases h15:k=15
 ·subst h15;simp[fV,aB,dB,gC,aH]
 by_cases h23:k=23
 ·subst h23;simp[fV,aB,dB,gC,aH]
 by_cases h25:k=25
 ·subst h25;simp[fV,aB,dB,gC,aH]
 by_cases h4:k=4
 ·subst h4;simp[fV,aB,dB,gC,aH]
 by_cases h14:k=14
 ·subst h14;simp[fV,aB,dB,gC,aH]
 by_cases h26:k=26
 ·subst h26;simp[fV,aB,dB,gC,aH]
 by_cases h29:k=29
 ·subst h29;simp[fV,aB,dB,gC,aH]
 by_cases h5:k=5
 ·subst h5;simp[fV,aB,dB,gC,aH]
 by_cases h12:k=12
 ·subst h12;simp[fV,aB,dB,gC,aH]
 by_cases h10:k=10
 ·subst h10;simp[fV,aB,dB,gC,aH]
 by_cases h13:k=13
 ·subst h13;simp[fV,aB,dB,gC,aH]
 by_cases h18:k=18
 ·subst h18;simp[fV,aB,dB,gC,aH]
 by_cases h19:k=19
 ·subst h19;simp[fV,aB,dB,gC,aH]
 by_cases h20:k=20
 ·subst h20;simp[fV,aB,dB,gC,aH]
 by_cases h21:k=21
 ·subst h21;simp[fV,aB,dB,gC,aH]
 by_cases h22:k=22
 ·subst h22;simp[fV,aB,dB,gC,aH]
 by_cases h27:k=27
 ·subst h27;simp[fV,aB,dB,gC,aH]
 by_cases h28:k=28
 ·subst h28;simp[fV,aB,dB,gC,aH]
 simp[fV,aB,dB,gC,aH,h3,h6,h7,h11,h15,h23,h25,h4,h14,h26,h29,h5,h12,h10,h13,h18,h19,h20,h21,h22,h27,h28]
end
section
variable {X:Ctx}
def La(k:Int)(bt:Nat->Bool)(g:Expr->Bool)(i:Nat)(x:Expr):Bool:=
 if k=13 then decide (x.kind=14)else
 if k=10 then decide (x.kind=11) || decide (x.kind=9)else
 if x.kind=0 then bt i && g x else lK x
def rO(k:Int)(bt:Nat->Bool)(g:Expr->Bool):Nat->List Expr->Bool
 | _,[]=>true
 | i,x::r=>La k bt g i x && rO k bt g (i+1) r
theorem JD {k:Int}{bt:Nat->Bool}{g:Expr->Bool}:∀(l:List Expr) (i:Nat),rO k bt g i l=true->∀x∈l,x.kind=0->g x=true
 | [],_,_=>by simp
 | y::r,i,h=>by
  intro x hx h0;rw[rO,Bool.and_eq_true]at h;rcases List.mem_cons.1 hx with rfl | hx
  ·have h1:=h.1
   unfold La at h1;split at h1
   ·simp[h0]at h1
   ·split at h1
    ·simp[h0]at h1
    ·simp[h0]at h1
     exact h1.2
  ·exact JD r (i+1) h.2 x hx h0
theorem SG(hX:CX X)(e:Expr)(hl:e.kids.length<=2000000):∃b:Bool,(∀H:aA,cF X Ip [.agg e.cells] H=some (.bool b,H))∧(b=true->(dB e.kind).1<=e.kids.length∧e.kids.length<=(dB e.kind).2.1∧∀x∈e.kids,x.kind=0->x.kids=[]∧x.pats=[]∧x.defs=[]):=by
 obtain⟨g,hg⟩:=Y9 true (fun x _=>SJ hX x:∀x∈e.kids,∃b:Bool,_);have hs:=RZ hX e.kind;obtain⟨sv,hsv⟩:∃sv:Nat->Int,∀i:Nat,cQ .shr (.int .i64 (dB e.kind).2.2) (.int .i64 i)=some (.int .i64 (sv i)):=by
  refine⟨fun i=>(dB e.kind).2.2.fdiv (2 ^ min i IntKind.i64.bits),fun i=>?_⟩;rw[P0,if_neg (by omega)];simp
 obtain⟨bt,hbt⟩:∃bt:Nat->Bool,∀i,decide (eM .i64 (sv i) 1=1)=bt i:=⟨_,fun _=>rfl⟩;generalize hsp:dB e.kind=sp at hs hsv ⊢;obtain⟨n1,n2,n3⟩:=sp;simp only at hs hsv ⊢;by_cases h1:(e.kids.length:Int)<n1
 ·refine⟨false,fun H=>?_,by simp⟩
  refine Nk hX ?_;simp[P7,aB,hs,h1]
 ·by_cases h2:n2<(e.kids.length:Int)
  ·refine⟨false,fun H=>?_,by simp⟩
   refine Nk hX ?_;simp[P7,aB,hs,h1,h2]
  ·refine⟨rO e.kind bt g 0 e.kids,fun H=>?_,fun h=>⟨by omega,by omega,fun x hx h0=>(hg x hx).2 (JD _ _ h x hx h0)⟩⟩
   refine Nk hX ?_;simp[P7,hs,h1,h2];generalize hR:rO e.kind bt g 0 e.kids=R;refine cH (fun(i:Nat) v H'=>H'=H∧i<=e.kids.length∧v.get 1=.fptr e.cells∧v.get 3=.fptr [.int .i64 n1,.int .i64 n2,.int .i64 n3]∧v.get 25=SL e.kidsF (Expr.aC e.kids) e.kids.length∧v.get 26=.int .i64 e.kids.length∧v.get 27=.int .i64 i∧rO e.kind bt g i (e.kids.drop i)=R) (fun i=>e.kids.length-i) ?_ 0 (by simp[hR]);clear hR;rintro i v H' ⟨rfl,hi,g1,g3,g25,g26,g27,hq⟩ L ih;by_cases h:i<e.kids.length
   ·have h':(i:Int)<e.kids.length:=by omega
    have hw:IntKind.i64.wrap ((i:Int)+1)=(i:Int)+1:=wI;have hdr:=Expr.dG h;have hpl:=Gr hX e.kids[i];have hem:=(hg _ (List.getElem_mem h)).1;have hsi:=hsv i;have hbi:=hbt i;rw[List.drop_eq_getElem_cons h,rO,La]at hq;generalize e.kids[i]=x at *;have nxt:∀(e':Env),rO e.kind bt g (i+1) (e.kids.drop (i+1))=R->e'.get 1=.fptr e.cells->e'.get 3=.fptr [.int .i64 n1,.int .i64 n2,.int .i64 n3]->e'.get 25=SL e.kidsF (Expr.aC e.kids) e.kids.length->e'.get 26=.int .i64 e.kids.length->e'.get 27=.int .i64 ((i:Int)+1)->YS X H'.length none L.loop _ ⟨e',H',[]⟩ _:=fun e' k1 k2 k3 k4 k5 k6=>ih (i+1) e' H' (by omega) ⟨rfl,by omega,k2,k3,k4,k5,by rw[k6];simp,k1⟩
    generalize lK x=pb at hpl hq;generalize g x=gx at hem hq;generalize bt i=bi at hbi hq;have fal:∀ {z:Bool},(false && z)=R->R=false:=fun h=>by simpa using h.symm
    have tru:∀ {z:Bool},(true && z)=R->z=R:=fun h=>by simpa using h
    by_cases k13:e.kind=13
    ·rw[if_pos k13]at hq
     by_cases x14:x.kind=14
     ·have hq':=tru (by simpa [x14]using hq)
      simp[mC,g1,g3,g25,g26,g27,h,h',hdr,hpl,k13,x14,hw];exact nxt _ hq' (by simp[g1]) (by simp[g3]) (by simp[g25]) (by simp[g26]) (by simp)
     ·have hq':R=false:=by simpa [x14]using hq.symm
      subst hq';simp[mC,aB,g1,g3,g25,g26,g27,h,h',hdr,hpl,k13,x14]
    ·rw[if_neg k13]at hq
     by_cases k10:e.kind=10
     ·rw[if_pos k10]at hq
      by_cases x11:x.kind=11
      ·have hq':=tru (by simpa [x11]using hq)
       simp[mC,g1,g3,g25,g26,g27,h,h',hdr,hpl,k10,x11,hw];exact nxt _ hq' (by simp[g1]) (by simp[g3]) (by simp[g25]) (by simp[g26]) (by simp)
      ·by_cases x9:x.kind=9
       ·have hq':=tru (by simpa [x9]using hq)
        simp[mC,g1,g3,g25,g26,g27,h,h',hdr,hpl,k10,x9,hw];exact nxt _ hq' (by simp[g1]) (by simp[g3]) (by simp[g25]) (by simp[g26]) (by simp)
       ·have hq':R=false:=by simpa [x11,x9]using hq.symm
        subst hq';simp[mC,aB,g1,g3,g25,g26,g27,h,h',hdr,hpl,k10,x11,x9]
     ·rw[if_neg k10]at hq
      by_cases x0:x.kind=0
      ·rw[if_pos x0]at hq
       cases bi with
       | false=>
        have hq':R=false:=by simpa using hq.symm
        subst hq';simp[mC,aB,g1,g3,g25,g26,g27,h,h',hdr,hpl,k13,k10,x0,hsi,hbi, -P0]
       | true=>
        cases gx with
        | false=>
         have hq':R=false:=by simpa using hq.symm
         subst hq';simp[mC,aB,g1,g3,g25,g26,g27,h,h',hdr,hpl,k13,k10,x0,hsi,hbi,hem, -P0]
        | true=>
         have hq':=tru (by simpa using hq);simp[mC,g1,g3,g25,g26,g27,h,h',hdr,hpl,k13,k10,x0,hsi,hbi,hem,hw, -P0];exact nxt _ hq' (by simp[g1]) (by simp[g3]) (by simp[g25]) (by simp[g26]) (by simp)
      ·rw[if_neg x0]at hq
       cases pb with
       | false=>
        have hq':R=false:=by simpa using hq.symm
        subst hq';simp[mC,aB,g1,g3,g25,g26,g27,h,h',hdr,hpl,k13,k10,x0]
       | true=>
        have hq':=tru (by simpa using hq);simp[mC,g1,g3,g25,g26,g27,h,h',hdr,hpl,k13,k10,x0,hw];exact nxt _ hq' (by simp[g1]) (by simp[g3]) (by simp[g25]) (by simp[g26]) (by simp)
   ·obtain rfl:i=e.kids.length:=by omega
    rw[List.drop_length,rO]at hq;subst hq;simp[mC,aB,g1,g3,g25,g26,g27]
end
section
variable {X:Ctx}
def vR(l:List Expr):Nat->Nat->Bool->Bool
 | 0,_,f=>f
 | n+1,i,f=>if h:i<l.length then(if l[i].kind=9∧(l[i].text=[]∨(0<i∧(l[i-1]'(by omega)).kind=9))then false else vR l n (i+1) (f || decide (l[i].kind=11)))else f
theorem SH(hX:CX X)(e:Expr)(hl:e.kids.length<=2000000):tZ X It [.agg e.cells]:=by
 refine⟨vR e.kids e.kids.length 0 (!decide (e.name=[])),fun H=>?_⟩;refine zKA hX ?_;simp[Px];generalize hR:vR e.kids e.kids.length 0 (!decide (e.name=[]))=R;refine cH (fun(q:Nat×Bool) v H'=>H'=H∧q.1<=e.kids.length∧v.get 1=.fptr e.cells∧v.get 3=.bool q.2∧v.get 11=SL e.kidsF (Expr.aC e.kids) e.kids.length∧v.get 12=.int .i64 e.kids.length∧v.get 13=.int .i64 q.1∧vR e.kids (e.kids.length-q.1) q.1 q.2=R) (fun q=>e.kids.length-q.1) ?_ (0, !decide (e.name=[])) (by simp[hR]);clear hR;rintro⟨i,f⟩ v H' ⟨rfl,hi,g1,g3,g11,g12,g13,hq⟩ L ih;simp only at hi g3 g13 hq ih;by_cases h:i<e.kids.length
 ·have h':(i:Int)<e.kids.length:=by omega
  have hw:IntKind.i64.wrap ((i:Int)+1)=(i:Int)+1:=wI;have hdr:=Expr.dG h;obtain⟨m,hm⟩:∃m,e.kids.length-i=m+1:=⟨e.kids.length-i-1,by omega⟩;have hm2:e.kids.length-(i+1)=m:=by omega
  rw[hm,vR,dif_pos h]at hq;have nxt:∀(f':Bool) (e':Env),vR e.kids m (i+1) f'=R->e'.get 1=.fptr e.cells->e'.get 3=.bool f'->e'.get 11=SL e.kidsF (Expr.aC e.kids) e.kids.length->e'.get 12=.int .i64 e.kids.length->e'.get 13=.int .i64 ((i:Int)+1)->YS X H'.length none L.loop _ ⟨e',H',[]⟩ _:=fun f' e' k1 k2 k3 k4 k5 k6=>ih (i+1,f') e' H' (by simp;omega) ⟨rfl,by simp;omega,k2,k3,k4,k5,by rw[k6];simp,by simp[hm2,k1]⟩
  cases i with
  | zero=>
   simp at g13 h';simp at hdr;have w1:IntKind.i64.wrap 1=1:=by decide
   by_cases x9:e.kids[0].kind=9
   ·by_cases xt:e.kids[0].text=[]
    ·rw[if_pos ⟨x9,.inl xt⟩]at hq
     subst hq;simp[qK,aB,g1,g3,g11,g12,g13,h,h',hdr,x9,xt]
    ·rw[if_neg (by simp[xt])]at hq
     have n11:¬e.kids[0].kind=11:=by omega
     cases f <;> simp[n11]at hq <;> simp[qK,g1,g3,g11,g12,g13,h,h',hdr,x9,xt,w1] <;> exact nxt _ _ hq (by simp[g1]) (by simp[g3]) (by simp[g11]) (by simp[g12]) (by simp)
   ·rw[if_neg (by simp[x9])]at hq
    by_cases n11:e.kids[0].kind=11
    ·cases f <;> simp[n11]at hq <;> simp[qK,g1,g3,g11,g12,g13,h,h',hdr,n11,w1] <;> exact nxt _ _ hq (by simp[g1]) (by simp[g3]) (by simp[g11]) (by simp[g12]) (by simp)
    ·cases f <;> simp[n11]at hq <;> simp[qK,g1,g3,g11,g12,g13,h,h',hdr,x9,n11,w1] <;> exact nxt _ _ hq (by simp[g1]) (by simp[g3]) (by simp[g11]) (by simp[g12]) (by simp)
  | succ j=>
   have hj:j<e.kids.length:=by omega
   have hdj:=Expr.dG hj;have wj:IntKind.i64.wrap (j:Int)=(j:Int):=wI;have hp:(0:Int)<(j:Int)+1:=by omega
   have hp2:(0:Int)<=(j:Int)+1:=by omega
   have hw2:IntKind.i64.wrap ((j:Int)+1+1)=(j:Int)+1+1:=wI;simp at g13 h';simp only[Nat.add_sub_cancel]at hq;generalize e.kids[j+1]=x at *;generalize e.kids[j]=y at *;by_cases x9:x.kind=9
   ·have n11:¬x.kind=11:=by omega
    by_cases xt:x.text=[]
    ·rw[if_pos ⟨x9,.inl xt⟩]at hq
     subst hq;by_cases y9:y.kind=9 <;> simp[qK,aB,g1,g3,g11,g12,g13,h,h',hdr,x9,xt,hdj,wj,hp,hp2,hj,y9]
    ·by_cases y9:y.kind=9
     ·rw[if_pos ⟨x9,.inr ⟨by omega,y9⟩⟩]at hq
      subst hq;simp[qK,aB,g1,g3,g11,g12,g13,h,h',hdr,x9,xt,hdj,wj,hp,hp2,hj,y9]
     ·rw[if_neg (by simp[xt,y9])]at hq
      cases f <;> simp[n11]at hq <;> simp[qK,g1,g3,g11,g12,g13,h,h',hdr,x9,xt,hdj,wj,hp,hp2,hj,y9,hw2] <;> exact nxt _ _ hq (by simp[g1]) (by simp[g3]) (by simp[g11]) (by simp[g12]) (by simp)
   ·rw[if_neg (by simp[x9])]at hq
    by_cases y9:y.kind=9 <;> by_cases n11:x.kind=11 <;> cases f <;> simp[n11]at hq <;> simp[qK,g1,g3,g11,g12,g13,h,h',hdr,x9,hdj,wj,hp,hp2,hj,y9,n11,hw2] <;> exact nxt _ _ hq (by simp[g1]) (by simp[g3]) (by simp[g11]) (by simp[g12]) (by simp)
 ·obtain rfl:i=e.kids.length:=by omega
  rw[Nat.sub_self,vR]at hq;subst hq;simp[qK,aB,g1,g3,g11,g12,g13]
end
section
variable {X:Ctx}
theorem zH9(hX:CX X):∃(cells:List D) (n:Nat),(∀H:aA,cF X iM [.str [116,101,120,116,32,106,115,111,110,32,98,97,115,101,54,52,32,98,97,115,101,54,52,100,32,117,114,105,32,104,116,109,108,32,99,115,118,32,116,115,118,32,115,104]] H=some (.fsl cells n,H))∧∀s:Bs,tZ X lP [.fsl cells n,.str s]:=by
 refine⟨_,_,zKK hX,fun s=>⟨_,fun H=>Mr hX _ _ s ?_ ?_ ?_ ?_ H⟩⟩
 ·rfl
 ·rfl
 ·decide
 ·decide
theorem zH8(hX:CX X):∃(cells:List D) (n:Nat),(∀H:aA,cF X Jx [] H=some (.fsl cells n,H))∧∀s:Bs,tZ X lP [.fsl cells n,.str s]:=by
 obtain⟨cells,n,hf,hc⟩:=zH9 hX;refine⟨cells,n,fun H=>?_,hc⟩;refine zLo hX ?_;simp[Uc,aB,hf]
theorem zAD(hX:CX X):∃(cells:List D) (n:Nat),(∀H:aA,cF X iM [.str [47,47,32,111,114,32,97,110,100,32,61,32,124,61,32,43,61,32,45,61,32,42,61,32,47,61,32,37,61,32,47,47,61,32,61,61,32,33,61,32,60,61,32,62,61,32,60,32,62,32,43,32,45,32,42,32,47,32,37]] H=some (.fsl cells n,H))∧∀s:Bs,tZ X lP [.fsl cells n,.str s]:=by
 refine⟨_,_,zKL hX,fun s=>⟨_,fun H=>Mr hX _ _ s ?_ ?_ ?_ ?_ H⟩⟩
 ·rfl
 ·rfl
 ·decide
 ·decide
set_option maxHeartbeats 1000000 in
theorem SE(hX:CX X)(e:Expr)(hn:e.name.length<=2000000)(ht:e.text.length<=1000000000000):∃b:Bool,(∀H:aA,cF X G6 [.agg e.cells] H=some (.bool b,H))∧(b=true->e.kind=18->∃c r,e.name=c::r∧c≠36∧c≠42):=by
 obtain⟨cf0,nF,hF,hFc⟩:=zH8 hX;obtain⟨cO,nO,hO,hOc⟩:=zAD hX;obtain⟨k1,hk1⟩:=hFc e.name;obtain⟨k2,hk2⟩:=hOc e.name;obtain⟨w1,hw1, -⟩:=D2 hX e.text (by omega);obtain⟨w2,hw2, -⟩:=D2 hX e.name (by omega);obtain⟨o,ho,hoo0⟩:=Gs hX e.name (by omega);have hoo:=fun h=>(hoo0 h).2
 obtain⟨l,hl⟩:=SF hX e.text (by omega);obtain⟨n0,hn0⟩:∃b:Bool,b=decide (e.name=[]):=⟨_,rfl⟩;obtain⟨t0,ht0⟩:∃b:Bool,b=decide (e.text=[]):=⟨_,rfl⟩;clear hFc hOc;have key:∀b:Bool,e.kind≠18->(∀H:aA,cF X G6 [.agg e.cells] H=some (.bool b,H))->∃b:Bool,(∀H:aA,cF X G6 [.agg e.cells] H=some (.bool b,H))∧(b=true->e.kind=18->∃c r,e.name=c::r∧c≠36∧c≠42):=fun b h1 h2=>⟨b,h2,fun _ h=>absurd h h1⟩
 by_cases h3:e.kind=3
 ·refine key (n0 && w1) (by omega) fun H=>?_
  refine pX hX ?_;by_cases q1:e.name=[] <;> by_cases q2:e.text=[] <;> (try rw[q1]at hk1 hk2 hw2 ho) <;> (try rw[q2]at hw1 hl) <;> simp[q1]at hn0 <;> simp[q2]at ht0 <;> subst hn0 <;> subst ht0 <;> cases w1 <;> simp[mA,aB,hF,hk1,h3,q1,q2,hw1]
 by_cases h9:e.kind=9
 ·refine key (n0 && l) (by omega) fun H=>?_
  refine pX hX ?_;by_cases q1:e.name=[] <;> by_cases q2:e.text=[] <;> (try rw[q1]at hk1 hk2 hw2 ho) <;> (try rw[q2]at hw1 hl) <;> simp[q1]at hn0 <;> simp[q2]at ht0 <;> subst hn0 <;> subst ht0 <;> cases l <;> simp[mA,aB,hF,hk1,h9,q1,q2,hl]
 by_cases h10:e.kind=10
 ·refine key ((n0 || k1) && t0) (by omega) fun H=>?_
  refine pX hX ?_;by_cases q1:e.name=[] <;> by_cases q2:e.text=[] <;> (try rw[q1]at hk1 hk2 hw2 ho) <;> (try rw[q2]at hw1 hl) <;> simp[q1]at hn0 <;> simp[q2]at ht0 <;> subst hn0 <;> subst ht0 <;> cases k1 <;> simp[mA,aB,hF,hk1,h10,q1,q2]
 by_cases h16:e.kind=16
 ·refine key (w2 && t0) (by omega) fun H=>?_
  refine pX hX ?_;by_cases q1:e.name=[] <;> by_cases q2:e.text=[] <;> (try rw[q1]at hk1 hk2 hw2 ho) <;> (try rw[q2]at hw1 hl) <;> simp[q1]at hn0 <;> simp[q2]at ht0 <;> subst hn0 <;> subst ht0 <;> cases w2 <;> simp[mA,aB,hF,hk1,h16,q1,q2,hw2]
 by_cases h23:e.kind=23
 ·refine key (w2 && t0) (by omega) fun H=>?_
  refine pX hX ?_;by_cases q1:e.name=[] <;> by_cases q2:e.text=[] <;> (try rw[q1]at hk1 hk2 hw2 ho) <;> (try rw[q2]at hw1 hl) <;> simp[q1]at hn0 <;> simp[q2]at ht0 <;> subst hn0 <;> subst ht0 <;> cases w2 <;> simp[mA,aB,hF,hk1,h23,q1,q2,hw2]
 by_cases h24:e.kind=24
 ·refine key (w2 && t0) (by omega) fun H=>?_
  refine pX hX ?_;by_cases q1:e.name=[] <;> by_cases q2:e.text=[] <;> (try rw[q1]at hk1 hk2 hw2 ho) <;> (try rw[q2]at hw1 hl) <;> simp[q1]at hn0 <;> simp[q2]at ht0 <;> subst hn0 <;> subst ht0 <;> cases w2 <;> simp[mA,aB,hF,hk1,h24,q1,q2,hw2]
 by_cases h17:e.kind=17
 ·refine key (k1 && t0) (by omega) fun H=>?_
  refine pX hX ?_;by_cases q1:e.name=[] <;> by_cases q2:e.text=[] <;> (try rw[q1]at hk1 hk2 hw2 ho) <;> (try rw[q2]at hw1 hl) <;> simp[q1]at hn0 <;> simp[q2]at ht0 <;> subst hn0 <;> subst ht0 <;> cases k1 <;> simp[mA,aB,hF,hk1,h17,q1,q2]
 by_cases h18:e.kind=18
 ·refine⟨o && t0,fun H=>?_,fun h _=>hoo (by simp at h;exact h.1)⟩
  refine pX hX ?_;by_cases q1:e.name=[] <;> by_cases q2:e.text=[] <;> (try rw[q1]at hk1 hk2 hw2 ho) <;> (try rw[q2]at hw1 hl) <;> simp[q1]at hn0 <;> simp[q2]at ht0 <;> subst hn0 <;> subst ht0 <;> cases o <;> simp[mA,aB,hF,hk1,h18,q1,q2,ho]
 by_cases h29:e.kind=29
 ·refine key (!n0 && k2 && t0) (by omega) fun H=>?_
  refine pX hX ?_;by_cases q1:e.name=[] <;> by_cases q2:e.text=[] <;> (try rw[q1]at hk1 hk2 hw2 ho) <;> (try rw[q2]at hw1 hl) <;> simp[q1]at hn0 <;> simp[q2]at ht0 <;> subst hn0 <;> subst ht0 <;> cases k2 <;> simp[mA,aB,hF,hk1,hO,hk2,h29,q1,q2]
 refine key (n0 && t0) h18 fun H=>?_
 refine pX hX ?_;by_cases q1:e.name=[] <;> by_cases q2:e.text=[] <;> (try rw[q1]at hk1 hk2 hw2 ho) <;> (try rw[q2]at hw1 hl) <;> simp[q1]at hn0 <;> simp[q2]at ht0 <;> subst hn0 <;> subst ht0 <;> simp[mA,aB,hF,hk1,h3,h9,h10,h16,h23,h24,h17,h18,h29,q1,q2]
end
section
variable {X:Ctx}
theorem SO(hX:CX X)(p:Pat)(q:Bool)(h:∀H:aA,cF X vH [.agg p.cells] H=some (.bool q,H))(H:aA):cF X l7 [.agg p.cells] H=some (.bool (!q),H):=by
 refine zKB hX ?_;simp[Qe,aB,h]
structure BFine(e:Expr):Prop where
 pats:(e.kind=21∨e.kind=22∨e.kind=26)∨e.pats=[]
 fine:∀p∈e.pats,PFine p
 defs:e.kind=25->∃d,e.defs=[d]∧d.name.length<=64∧d.params.length<=8∧d.body.kind≠0
theorem SP(hX:CX X)(e:Expr)(he:EB e):∃b:Bool,(∀H:aA,cF X Iw [.agg e.cells] H=some (.bool b,H))∧(b=true->BFine e):=by
 have he':=xJ.1 he;obtain⟨g,hg⟩:=Y9 true (fun p hp=>SC hX _ p (Nat.le_refl _) (he'.2.2.2.2.2.2.1 p hp):∀p∈e.pats,∃b:Bool,_);have hpl:=oZ e.pats;have hc:=GL hX (g:=.func l7 [] []) (by simp) e.patsF e.pats (by omega) g fun p hp H=>SO hX p (g p) (hg p hp).1 H
 have hall:e.pats.all g=true->∀p∈e.pats,PFine p:=fun h p hp=>(hg p hp).2 (List.all_eq_true.1 h p hp)
 generalize e.pats.all g=b1 at hc hall;obtain⟨np,hnp⟩:∃n,e.pats.length=n:=⟨_,rfl⟩;obtain⟨nd,hnd⟩:∃n,e.defs.length=n:=⟨_,rfl⟩;have hp0:np=0->e.pats=[]:=fun h=>List.length_eq_zero_iff.1 (by omega)
 rw[hnp]at hc;by_cases k25:e.kind=25
 ·by_cases hd1:nd=1
  ·subst hd1
   obtain⟨d,hd⟩:∃d,e.defs=[d]:=List.length_eq_one_iff.1 hnd;obtain⟨b2,hb2,hbb⟩:=SM hX d (he'.2.2.2.2.2.2.2.2.1 d (by rw[hd];exact List.mem_singleton_self d));have hdr:Def.aC e.defs=d.cells++[]:=by rw[hd];simp[Def.aC]
   refine⟨decide (np=0) && b2 && b1,fun H=>?_,fun h=>?_⟩
   ·refine O0 hX ?_
    by_cases z:np=0
    ·subst z
     cases b2 <;> cases b1 <;> simp[kC,aB,k25,hnp,hnd,hdr,hb2,hc]
    ·have z':¬(np:Int)=0:=by omega
     cases b2 <;> simp[kC,aB,k25,hnp,hnd,hdr,hb2,hc,z,z']
   ·simp at h
    exact⟨.inr (hp0 h.1.1),hall h.2,fun _=>⟨d,hd,hbb h.1.2⟩⟩
  ·have hd1':¬(nd:Int)=1:=by omega
   refine⟨false,fun H=>?_,by simp⟩;refine O0 hX ?_;by_cases z:np=0
   ·subst z
    simp[kC,aB,k25,hnp,hnd,hd1,hd1']
   ·have z':¬(np:Int)=0:=by omega
    simp[kC,aB,k25,hnp,hnd,hd1,hd1',z,z']
 ·by_cases k21:e.kind=21∨e.kind=22
  ·refine⟨decide (np=1) && decide (nd=0) && b1,fun H=>?_,fun h=>?_⟩
   ·refine O0 hX ?_
    by_cases z:np=1
    ·subst z
     by_cases w:nd=0
     ·subst w
      rcases k21 with k | k <;> cases b1 <;> simp[kC,aB,k,hnp,hnd,hc]
     ·have w':¬(nd:Int)=0:=by omega
      rcases k21 with k | k <;> simp[kC,aB,k,hnp,hnd,w,w']
    ·have z':¬(np:Int)=1:=by omega
     rcases k21 with k | k <;> simp[kC,aB,k,hnp,hnd,z,z']
   ·simp at h
    exact⟨.inl (by omega),hall h.2,fun h=>absurd h k25⟩
  ·have k21a:¬e.kind=21:=by omega
   have k22a:¬e.kind=22:=by omega
   by_cases k26:e.kind=26
   ·refine⟨decide (0<np) && decide (nd=0) && b1,fun H=>?_,fun h=>?_⟩
    ·refine O0 hX ?_
     by_cases z:0<np
     ·have z':(0:Int)<np:=by omega
      by_cases w:nd=0
      ·subst w
       cases b1 <;> simp[kC,aB,k26,hnp,hnd,hc,z,z']
      ·have w':¬(nd:Int)=0:=by omega
       simp[kC,aB,k26,hnp,hnd,w,w',z,z']
     ·have z':¬(0:Int)<np:=by omega
      simp[kC,aB,k26,hnp,hnd,z,z']
    ·simp at h
     exact⟨.inl (by omega),hall h.2,fun h=>absurd h k25⟩
   ·refine⟨decide (np=0) && decide (nd=0) && b1,fun H=>?_,fun h=>?_⟩
    ·refine O0 hX ?_
     by_cases z:np=0
     ·subst z
      by_cases w:nd=0
      ·subst w
       cases b1 <;> simp[kC,aB,k21a,k22a,k25,k26,hnp,hnd,hc]
      ·have w':¬(nd:Int)=0:=by omega
       simp[kC,aB,k21a,k22a,k25,k26,hnp,hnd,w,w']
     ·have z':¬(np:Int)=0:=by omega
      simp[kC,aB,k21a,k22a,k25,k26,hnp,hnd,z,z']
    ·simp at h
     exact⟨.inr (hp0 h.1.1),hall h.2,fun h=>absurd h k25⟩
structure Sh(e:Expr):Prop where
 b:BFine e
 lo:(dB e.kind).1<=e.kids.length
 hi:e.kids.length<=(dB e.kind).2.1
 none:∀x∈e.kids,x.kind=0->x.kids=[]∧x.pats=[]∧x.defs=[]
 call:e.kind=18->∃c r,e.name=c::r∧c≠36∧c≠42
 at_:0<=e.at_
theorem RY(hX:CX X):Zm X Sh:=by
 intro e he;have he':=xJ.1 he;obtain⟨b1,h1,s1⟩:=SG hX e he'.2.2.2.1;obtain⟨b2,h2,s2⟩:=SE hX e he'.1 he'.2.1;obtain⟨b3,h3⟩:=SD hX e he'.2.2.1;obtain⟨b4,h4,s4⟩:=SP hX e he;obtain⟨b5,h5⟩:=SH hX e he'.2.2.2.1;by_cases k0:e.kind<=0
 ·refine⟨23,fun H=>?_,by simp⟩
  refine lY hX ?_;simp[kR,aB,k0]
 by_cases k29:29<e.kind
 ·refine⟨23,fun H=>?_,by simp⟩
  refine lY hX ?_;simp[kR,aB,k0,k29]
 cases b1 with
 | false=>
  refine⟨9,fun H=>?_,by simp⟩;refine lY hX ?_;simp[kR,aB,k0,k29,h1]
 | true=>
 cases b2 with
 | false=>
  refine⟨9,fun H=>?_,by simp⟩;refine lY hX ?_;simp[kR,aB,k0,k29,h1,h2]
 | true=>
 cases b3 with
 | false=>
  refine⟨9,fun H=>?_,by simp⟩;refine lY hX ?_;simp[kR,aB,k0,k29,h1,h2,h3]
 | true=>
 cases b4 with
 | false=>
  refine⟨9,fun H=>?_,by simp⟩;refine lY hX ?_;simp[kR,aB,k0,k29,h1,h2,h3,h4]
 | true=>
 by_cases ha:0<=e.at_
 ·have hsh:Sh e:=⟨s4 rfl,(s1 rfl).1,(s1 rfl).2.1,(s1 rfl).2.2,s2 rfl,ha⟩
  by_cases k10:e.kind=10
  ·cases b5 with
   | false=>
    refine⟨9,fun H=>?_,by simp⟩;refine lY hX ?_;simp[kR,aB,k10,h1,h2,h3,h4,h5,ha]
   | true=>
    refine⟨0,fun H=>?_,fun _=>hsh⟩;refine lY hX ?_;simp[kR,aB,k10,h1,h2,h3,h4,h5,ha]
  ·by_cases k5:e.kind=5
   ·have hlo:=hsh.lo
    rw[k5]at hlo;have hl3:3<=e.kids.length:=by simp[dB]at hlo;omega
    have hl1:1<e.kids.length:=by omega
    have hl2:2<e.kids.length:=by omega
    have d1:=Expr.dG hl1;have d2:=Expr.dG hl2;simp only[Nat.one_mul]at d1;simp at d2;generalize e.kids[1]=x at d1;generalize e.kids[2]=y at d2;have hl1':(1:Int)<e.kids.length:=by omega
    have hl2':(2:Int)<e.kids.length:=by omega
    by_cases hz:IntKind.i64.wrap (x.kind+y.kind)=0
    ·refine⟨9,fun H=>?_,by simp⟩
     refine lY hX ?_;simp[kR,aB,k5,h1,h2,h3,h4,ha,hl1,hl2,hl1',hl2',d1,d2,hz]
    ·refine⟨0,fun H=>?_,fun _=>hsh⟩
     refine lY hX ?_;simp[kR,aB,k5,h1,h2,h3,h4,ha,hl1,hl2,hl1',hl2',d1,d2,hz]
   ·refine⟨0,fun H=>?_,fun _=>hsh⟩
    refine lY hX ?_;simp[kR,aB,k0,k29,k10,k5,h1,h2,h3,h4,ha]
 ·refine⟨9,fun H=>?_,by simp⟩
  refine lY hX ?_;simp[kR,aB,k0,k29,h1,h2,h3,h4,ha]
theorem zJW(hX:CX X){e:Expr}(he:EB e):∃r:Int,(∀H:aA,cF X yG [.agg e.cells] H=some (.int .i64 r,H))∧(r=0->Fine Sh e∧dW (SizeOf.sizeOf e) e<=4096∧rV 1000 e<=60):=SU hX (RY hX) he
end
section
variable {X:Ctx}
abbrev Nm:=Bs
def fU(s:Nm)(n:Nat):Nm:=s++[47,UInt8.ofNat (48+n)]
def dM:List Nm->List Nm->List Nm
 | out,[]=>out
 | out,s::r=>dM (if s∈out then out else out++[s]) r
mutual
def oB:Pat->List Nm
 | .mk k n _ _ _ ps=>if k=1 then n::bZ [] ps else bZ [] ps
def bZ:List Nm->List Pat->List Nm
 | o,[]=>o
 | o,p::r=>bZ (dM o (oB p)) r
end
def cU(l:List Nm):List Nm:=l.map (36:: ·)
def bY(s l:List Nm):List Nm:=l.reverse++s
def vE(e:Expr):Option Nm:=if e.kind=16 then some (36::e.name)else if e.kind=18 then some (fU e.name e.kids.length)else if e.kind=24 then some (42::e.name)else none
abbrev fK:=List (Nm×Int)
def jM(s:List Nm)(e:Expr):fK:=match vE e with
 | some n=>if n∈s then []else [(n,e.at_)]
 | none=>[]
def jK(s:List Nm):List Nm->List Nm
 | []=>s
 | p::r=>jK (if p.head?=some 36 then bY s [p,fU (nV p) 0]else bY s [fU p 0]) r
def kK(fE:List Nm->Expr->fK)(fP:List Nm->Pat->fK)(kind:Int):List Nm->List Expr->List Pat->fK
 | _,_,[]=>[]
 | s,ks,p::r=>(if kind=3 then(match ks with | q::_=>fE s q | []=>[])else [])++(fP s p++kK fE fP kind (bY s (cU (bZ [] [p]))) ks.tail r)
mutual
def mE:Nat->List Nm->Expr->fK
 | 0,_,_=>[]
 | k+1,s,e=>jM s e++(
  if e.kind=21∨e.kind=22 then(e.kids.take 1).flatMap (mE k s)++(e.pats.flatMap (mP k s)++(((e.kids.drop 1).take 1).flatMap (mE k s)++(e.kids.drop 2).flatMap (mE k (bY s (cU (bZ [] e.pats))))))
  else if e.kind=23 then e.kids.flatMap (mE k (bY s [42::e.name]))
  else if e.kind=25 then(e.defs.take 1).flatMap (fun d=>mE k (jK (bY s [fU d.name d.params.length]) d.params) d.body++(e.kids.take 1).flatMap (mE k (bY s [fU d.name d.params.length])))
  else if e.kind=26 then(e.kids.take 1).flatMap (mE k s)++(e.pats.flatMap (mP k s)++((e.kids.drop 1).take 1).flatMap (mE k (bY s (cU (bZ [] e.pats)))))
  else e.kids.flatMap (mE k s))
def mP:Nat->List Nm->Pat->fK
 | 0,_,_=>[]
 | k+1,s,p=>kK (mE k) (mP k) p.kind s p.keys p.pats
end
theorem OC:∀(o a b:List Nm),dM o (a++b)=dM (dM o a) b
 | o,[],b=>rfl
 | o,s::r,b=>by simp only[List.cons_append,dM];exact OC _ r b
theorem HU {x:Nm}:∀(o l:List Nm),x∈dM o l↔x∈o∨x∈l
 | o,[]=>by simp[dM]
 | o,s::r=>by
  rw[dM,HU _ r];split
  ·rename_i h
   simp only[List.mem_cons];constructor
   ·rintro(h1 | h1) <;> simp[h1]
   ·rintro(h1 | rfl | h1)
    ·exact .inl h1
    ·exact .inl h
    ·exact .inr h1
  ·simp only[List.mem_cons,List.mem_append,List.mem_nil_iff,or_false,or_assoc]
theorem Oo(q:Nm->Bool):∀(o l:List Nm),dM (o.filter q) (l.filter q)=(dM o l).filter q
 | o,[]=>rfl
 | o,s::r=>by
  rw[List.filter_cons,dM]
  cases hq:q s with
  | true=>
   rw[if_pos rfl,dM, ← Oo q _ r];congr 1;by_cases h:s∈o
   ·rw[if_pos h,if_pos (List.mem_filter.2 ⟨h,hq⟩)]
   ·rw[if_neg h,if_neg (fun h2=>h (List.mem_filter.1 h2).1)]
    simp[hq]
  | false=>
   rw[if_neg (by simp), ← Oo q _ r];congr 1;by_cases h:s∈o
   ·rw[if_pos h]
   ·rw[if_neg h]
    simp[hq]
def kS(b s s':List Nm):Prop:=∀x,x∈s'↔x∈s∨x∈b
theorem kS.w {b s s':List Nm}(h:kS b s s')(l:List Nm):kS b (bY s l) (bY s' l):=fun x=>by
 have:=h x;simp only[bY,List.mem_append,this,or_assoc]
theorem kS.par {b:List Nm}:∀(l:List Nm) {s s':List Nm},kS b s s'->kS b (jK s l) (jK s' l)
 | [],_,_,h=>h
 | p::r,s,s',h=>by
  rw[jK,jK];split
  ·exact kS.par r (h.w _)
  ·exact kS.par r (h.w _)
def iR(b:List Nm)(l:fK):fK:=l.filter fun q=> !decide (q.1∈b)
theorem wG(b:List Nm)(l m:fK):iR b (l++m)=iR b l++iR b m:=List.filter_append ..
theorem Z0(fE:List Nm->Expr->fK)(fP:List Nm->Pat->fK)(kind:Int)(s:List Nm)(ks:List Expr)(p:Pat)(r:List Pat):kK fE fP kind s ks (p::r)=(if kind=3 then(match ks with | q::_=>fE s q | []=>[])else [])++(fP s p++kK fE fP kind (bY s (cU (bZ [] [p]))) ks.tail r):=rfl
theorem zFy {b s s':List Nm}(h:kS b s s')(e:Expr):jM s' e=iR b (jM s e):=by
 unfold jM;split
 ·rename_i n _
  have:=h n;by_cases h1:n∈s <;> by_cases h2:n∈b <;> simp[this,h1,h2,iR]
 ·rfl
theorem lU {α:Type}{b:List Nm}{f g:α->fK}(h:∀x,f x=iR b (g x)):∀l:List α,l.flatMap f=iR b (l.flatMap g)
 | []=>rfl
 | x::r=>by simp only[List.flatMap_cons,h x,lU h r,wG]
theorem GU {b:List Nm}{fE gE:List Nm->Expr->fK}{fP gP:List Nm->Pat->fK}(hE:∀s s' e,kS b s s'->fE s' e=iR b (gE s e))(hP:∀s s' e,kS b s s'->fP s' e=iR b (gP s e))(kind:Int):∀(l:List Pat) (ks:List Expr) (s s':List Nm),kS b s s'->kK fE fP kind s' ks l=iR b (kK gE gP kind s ks l)
 | [],_,_,_,_=>rfl
 | p::r,ks,s,s',h=>by
  rw[Z0,Z0,wG,wG, ← GU hE hP kind r ks.tail _ _ (h.w _), ← hP _ _ p h];congr 1;split
  ·cases ks with
   | nil=>rfl
   | cons q t=>exact hE _ _ q h
  ·rfl
theorem IB {b:List Nm}:∀(k:Nat),(∀s s' e,kS b s s'->mE k s' e=iR b (mE k s e))∧∀s s' p,kS b s s'->mP k s' p=iR b (mP k s p)
 | 0=>⟨fun _ _ _ _=>by rw[mE,mE];rfl,fun _ _ _ _=>by rw[mP,mP];rfl⟩
 | k+1=>by
  have ih:=IB (b:=b) k;refine⟨fun s s' e h=>?_,fun s s' p h=>?_⟩
  ·have f1:∀l:List Nm,∀x,mE k (bY s' l) x=iR b (mE k (bY s l) x):=fun l x=>ih.1 _ _ x (h.w l)
   have f0:∀x,mE k s' x=iR b (mE k s x):=fun x=>ih.1 _ _ x h
   have p0:∀x,mP k s' x=iR b (mP k s x):=fun x=>ih.2 _ _ x h
   rw[mE,mE,wG,zFy h];congr 1;split
   ·rw[lU f0,lU p0,lU f0,lU (f1 _)]
    simp only[wG]
   ·split
    ·rw[lU (f1 _)]
    ·split
     ·refine lU (fun d=>?_) _
      rw[lU (f1 _),ih.1 _ _ _ ((h.w _).par d.params)];simp only[wG]
     ·split
      ·rw[lU f0,lU p0,lU (f1 _)]
       simp only[wG]
      ·rw[lU f0]
  ·rw[mP,mP]
   exact GU ih.1 ih.2 _ _ _ _ _ h
def jZ(l:fK):List Nm:=dM [] (l.map Prod.fst)
theorem zH3(b:List Nm)(l:fK):jZ (iR b l)=(jZ l).filter (fun n=> !decide (n∈b)):=by
 unfold jZ;rw[← Oo];congr 1
 induction l with
 | nil=>rfl
 | cons x r ih=>
  simp only[iR]at ih ⊢;simp only[List.filter_cons,List.map_cons];by_cases h:x.1∈b <;> simp[h,ih]
end
section
variable {X:Ctx}
theorem Bq {b id:Nat}{H:aA}{A:List Nm}{nk:Bool}(x:Nm)(h:H[id]? =some (.row 1 (A.map D.str) nk))(hn:nk=true->A=[])(hl:A.length<=100000000):cR b H 1 16 (.osl id A.length 0 A.length) [.str x] 1=some (.osl id (A.length+1) 0 (A.length+1),H.set id (.row 1 ((A++[x]).map D.str) false)):=by
 rw[kB (hw:=A.length) (es:=1) (bytes:=16) (m:=1) (ys:=[.str x]) (cs:=A.map D.str) (nil:=nk) (n:=A.length) h (by simp) (by omega) (fun q=>by rw[hn q];rfl) (by unfold aX;omega) (by unfold aX;omega) (aH (fun n=>by simp) (by simp)) (by omega)];simp
theorem PD {H:aA}{b id:Nat}{l:List Nm}(hb:b<=id)(h:H[id]? =some (.row 1 (l.map D.str) (decide (l=[])))):fz H b 64 (.osl id l.length 0 l.length)=some (SL .nil (l.map D.str) l.length):=by
 rw[aB,if_neg (by omega),h];by_cases hl:l=[]
 ·subst hl;simp[SL]
 ·have hne:l.length≠0:=fun q=>hl (List.eq_nil_of_length_eq_zero q)
  obtain⟨n,hn⟩:∃n,l.length=n+1:=⟨l.length-1,by omega⟩;have htk:List.take l.length (l.map D.str)=l.map D.str:=List.take_of_length_le (by simp);simp[hl,htk];rw[hn];rfl
theorem zOB(hX:CX X)(H:aA)(id:Nat)(x:D)(h:H[id]? =some (.row 1 [x] false)):cF X yH [.osl id 1 0 1] H=some (.tup [],H):=by
 refine zKN hX ?_;have w0:IntKind.i64.wrap 0=0:=by decide
 simp[Q2,w0];rw[eT];simp[Ce,aB]
theorem zR(H:aA)(d:D):elems H 1 (.fsl [d] 1)=some ([d],1):=rfl
theorem zEU(hX:CX X)(n:Nat)(hn:n<=9)(H:aA):cF X Jr [.int .i64 n] H=some (.str [UInt8.ofNat (48+n)],H):=by
 refine zLf hX ?_;have hr:=fun v=>zOB hX (H++[.row 1 [.int .u8 v] false]) H.length (.int .u8 v) (by simp)
 have w1:¬(n:Int)<0:=by omega
 have w2:(n:Int).tmod 10=n:=by rw[Int.tmod_eq_emod_of_nonneg (by omega)];omega
 have w3:(n:Int).tdiv 10=0:=by rw[Int.tdiv_eq_ediv_of_nonneg (by omega)];omega
 have w4:IntKind.i64.wrap (-(n:Int))= -(n:Int):=wI;have w5:IntKind.i64.wrap (48+(n:Int))=48+(n:Int):=wI;have w6:IntKind.u8.wrap (48+(n:Int))=48+(n:Int):=wrap_u8 (by omega) (by omega);have hm:max (n:Int) (-(n:Int))=n:=by omega
 have ha:=fun b v=>Oj (b:=b) (H:=H++[.row 1 [] true]) (id:=H.length) (n:=0) (m:=1) (A:=[]) (B:=[.int .u8 v]) (nk:=true) (by simp) rfl rfl (by simp) (by omega) (fun k=>by simp) (by simp)
 simp at ha;have w0:IntKind.i64.wrap 0=0:=by decide
 have he:elems (H++[.row 1 [.int .u8 (48+(n:Int))] false]) 1 (.osl H.length 1 0 1)=some ([.int .u8 (48+(n:Int))],1):=by simp[elems]
 have hb:jD [.int .u8 (48+(n:Int))]=some [UInt8.ofNat (48+n)]:=by simp only[jD];rw[show(48+(n:Int)).toNat=48+n by omega];rfl
 simp[Tl,w1];rw[eT];simp[OW,w1,w2,w3,w4,w5,w6,hr,hm,z12,zR,ha,w0,he,hb,aB]
theorem b8(hX:CX X)(s:Nm)(n:Nat)(hn:n<=9)(hs:s.length<=100000000)(H:aA):cF X yJ [.str s,.int .i64 n] H=some (.str (fU s n),H):=by
 have hd:=zEU hX n hn;have q1:s.length<=9223372036854775806:=by omega
 have q2:¬9223372036854775805<s.length:=by omega
 refine zLg hX ?_;simp[To,aB,hd,fU,q1,q2]
theorem HL(hX:CX X)(f:Nl)(l:List Nm)(hl:l.length<=100000000)(hb:∀x∈l,x.length<=100000000)(H:aA):cF X m9 [SL f (l.map D.str) l.length] H=some (SL .nil ((cU l).map D.str) l.length,H):=by
 refine zK9 hX ?_;simp[Sz];refine cH (fun(i:Nat) e H'=>H'=H++[.row 1 [] true,.row 1 ((cU (l.take i)).map D.str) (decide (cU (l.take i)=[]))]∧i<=l.length∧e.get 3=.osl (H.length+1) i 0 i∧e.get 6=SL f (l.map D.str) l.length∧e.get 7=.int .i64 l.length∧e.get 8=.int .i64 i) (fun i=>l.length-i) ?_ 0 (by simp[cU]);rintro i e H' ⟨rfl,hi,g3,g6,g7,g8⟩ L ih;have w1:IntKind.i64.wrap ((i:Int)+1)=(i:Int)+1:=wI;have hlen:(cU (l.take i)).length=i:=by simp[cU];omega
 by_cases h:i<l.length
 ·have h':(i:Int)<l.length:=by omega
  have hdr:=jN (f:=D.str) h;have hx:=hb _ (List.getElem_mem h);have htk:cU (l.take (i+1))=cU (l.take i)++[36::l[i]]:=by rw[List.take_succ_eq_append_getElem h];simp only[cU,List.map_append,List.map_cons,List.map_nil]
  have hap:=fun b=>Bq (b:=b) (H:=H++[.row 1 [] true,.row 1 ((cU (l.take i)).map D.str) (decide (cU (l.take i)=[]))]) (id:=H.length+1) (A:=cU (l.take i)) (nk:=decide (cU (l.take i)=[])) (36::l[i]) (by simp) (by simp) (by omega)
  generalize cU (l.take i)=A at *;rw[hlen]at hap;have q1:l[i].length<=9223372036854775806:=by omega
  have q2:1+l[i].length<=9223372036854775807:=by omega
  simp[Sy,g3,g6,g7,g8,h,h',hdr,w1,hap,q1,q2,zR];refine ih (i+1) _ _ (by omega) ?_;rw[htk];simp[g6,g7];omega
 ·obtain rfl:i=l.length:=by omega
  rw[List.take_length]at hlen ⊢;have hf:=PD (H:=H++[.row 1 [] true,.row 1 ((cU l).map D.str) (decide (cU l=[]))]) (b:=H.length) (id:=H.length+1) (l:=cU l) (by omega) (by simp);rw[hlen]at hf;simp[Sy,g3,g6,g7,g8,hf]
def bK:List Nm->D
 | []=>.nilp
 | x::r=>.fptr [.str x,bK r]
theorem uQ(s:List Nm):(bK s).one=true:=by cases s <;> rfl
theorem uP(s:List Nm)(m:Nat):(bK s).under m=true:=by cases s <;> rfl
theorem uS(s:List Nm)(H:aA)(m g:Nat):fz H m (g+1) (bK s)=some (bK s):=by cases s <;> rfl
theorem uR(s:List Nm)(H:aA):cM (bK s) H=some (bK s,H):=by cases s <;> rfl
theorem uT(s:List Nm):(bK s).cells=[bK s]:=by cases s <;> rfl
attribute [local simp] uQ uP uS uR uT
theorem Ic(hX:CX X)(f:Nl)(s l:List Nm)(hl:l.length<=100000000)(H:aA):cF X lQ [bK s,SL f (l.map D.str) l.length] H=some (bK (bY s l),H):=by
 refine zLa hX ?_;simp[Tc];refine cH (fun(i:Nat) e H'=>H'=H∧i<=l.length∧e.get 0=bK (bY s (l.take i))∧e.get 7=SL f (l.map D.str) l.length∧e.get 8=.int .i64 l.length∧e.get 9=.int .i64 i) (fun i=>l.length-i) ?_ 0 (by simp[bY]);rintro i e H' ⟨rfl,hi,g0,g7,g8,g9⟩ L ih;have w1:IntKind.i64.wrap ((i:Int)+1)=(i:Int)+1:=wI;by_cases h:i<l.length
 ·have h':(i:Int)<l.length:=by omega
  have hdr:=jN (f:=D.str) h;have htk:bY s (l.take (i+1))=l[i]::bY s (l.take i):=by rw[List.take_succ_eq_append_getElem h];simp only[bY,List.reverse_append,List.reverse_singleton,List.singleton_append,List.cons_append,List.nil_append]
  generalize hS:bY s (l.take i)=S at *;simp[Tb,g0,g7,g8,g9,h,h',hdr,w1,z9];refine ih (i+1) _ _ (by omega) ?_;rw[htk];simp[g7,g8,bK];omega
 ·obtain rfl:i=l.length:=by omega
  rw[List.take_length]at g0;simp[Tb,aB,g0,g7,g8,g9]
theorem zET(hX:CX X)(s:List Nm)(x:Nm)(H:aA):cF X Jo [bK s,.str x] H=some (.bool (decide (x∈s)),H):=by
 refine zLb hX ?_;simp[Te];refine cH (fun(q:List Nm) e H'=>H'=H∧e.get 0=bK q∧e.get 1=.str x∧(x∈s↔x∈q)) (fun q=>q.length) ?_ s (by simp);rintro q e H' ⟨rfl,g0,g1,hq⟩ L ih
 cases q with
 | nil=>
  simp at hq;simp[Da,aB,lW,pA,g0,g1,bK,hq]
 | cons y r=>
  by_cases hy:y=x
  ·subst hy
   simp at hq;simp[Da,aB,lW,pA,g0,g1,bK,hq]
  ·have hy':¬x=y:=fun q=>hy q.symm
   simp[hy']at hq;simp[Da,lW,pA,g0,g1,bK,hy];refine ih r _ _ (by simp) ?_;simp[g1,hq]
theorem zER(hX:CX X)(e:Expr)(hn:e.name.length<=2000000)(hk:e.kind=18->e.kids.length<=9)(H:aA):cF X Jp [.agg e.cells] H=some (.tup [.str ((vE e).getD []),.bool (vE e).isSome],H):=by
 refine zLc hX ?_;unfold vE;have q1:¬9223372036854775807<1+e.name.length:=by omega
 have q2:1+e.name.length<=9223372036854775807:=by omega
 by_cases k16:e.kind=16
 ·simp[A4,aB,k16,q1,q2]
 ·by_cases k18:e.kind=18
  ·have hc:=b8 hX e.name e.kids.length (hk k18) (by omega)
   simp[A4,aB,k18,hc]
  ·by_cases k24:e.kind=24
   ·simp[A4,aB,k24,q1,q2]
   ·simp[A4,aB,k16,k18,k24]
end
end Go.AM.T
