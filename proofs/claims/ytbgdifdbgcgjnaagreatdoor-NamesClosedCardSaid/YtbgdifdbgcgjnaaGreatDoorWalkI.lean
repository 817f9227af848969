/- Walks. -/
import Derived.Test.YtbgdifdbgcgjnaaGreatDoorWalkH
set_option linter.unusedVariables false
set_option linter.unusedSimpArgs false
set_option linter.unnecessarySimpa false
set_option maxRecDepth 100000
namespace Go.AM.T
section
variable {X:Ctx}
theorem zG4(hX:CX X)(l:List Nm)(x:Nm)(hl:(l.length:Int)<=9223372036854775807)(H:aA)(id:Nat)(nk:Bool)(hg:H[id]? =some (.row 1 (l.map D.str) nk))(hnk:nk=true->l=[]):∃d H',cF X m3 [.osl id l.length 0 l.length,.str x] H=some (d,H')∧(∃i:Int,d=.int .i64 i∧(0<=i↔x∈l)∧H'=H):=by
 refine GY hX ?_;simp[Cg];refine cH (fun(i:Nat) e H'=>H'=H∧i<=l.length∧e.get 0=.osl id l.length 0 l.length∧e.get 1=.str x∧e.get 7=.int .i64 l.length∧e.get 8=.int .i64 i∧x∉l.take i) (fun i=>l.length-i) ?_ 0 (by simp);rintro i e H' ⟨rfl,hi,g0,g1,g7,g8,hq⟩ L ih;by_cases h:i<l.length
 ·have h':(i:Int)<l.length:=by omega
  have w1:IntKind.i64.wrap ((i:Int)+1)=(i:Int)+1:=wI;have hdr:=jN (f:=D.str) h;have hnf:nk=false:=by cases nk with
   | false=>rfl
   | true=>rw[hnk rfl]at h;simp at h
  rw[hnf]at hg;by_cases hx:x=l[i]
  ·have hm:x∈l:=hx ▸ List.getElem_mem h
   simp[wV,g0,g1,g7,g8,h,h',hg,hdr,w1,hx]
  ·simp[wV,g0,g1,g7,g8,h,h',hg,hdr,w1,hx]
   refine ih (i+1) _ _ (by omega) ?_;simp only[true_and];refine⟨by omega,by simp[g0],by simp[g1],by simp[g7],by simp,?_⟩;rw[List.take_succ_eq_append_getElem h,List.mem_append];rintro(h2 | h2)
   ·exact hq h2
   ·exact hx (by simpa using h2)
 ·obtain rfl:i=l.length:=by omega
  rw[List.take_length]at hq;simp[wV,g0,g1,g7,g8,hq]
theorem LI(hX:CX X)(l:List Nm)(x:Nm)(hl:(l.length:Int)<=9223372036854775807)(H:aA)(id:Nat)(nk:Bool)(hg:H[id]? =some (.row 1 (l.map D.str) nk))(hnk:nk=true->l=[]):cF X lP [.osl id l.length 0 l.length,.str x] H=some (.bool (decide (x∈l)),H):=by
 obtain⟨d,H',hc,i,rfl,hi,rfl⟩:=zG4 hX l x hl H id nk hg hnk;refine MO hX ?_;by_cases hx:x∈l
 ·have:=hi.2 hx
  simp[A1,aB,hc,hx,this]
 ·have:¬0<=i:=fun h=>hx (hi.1 h)
  simp[A1,aB,hc,hx,this]
theorem zX:∀(o l:List Nm),(dM o l).length<=o.length+l.length
 | o,[]=>Nat.le_refl _
 | o,s::r=>by
  rw[dM];split
  ·have:=zX o r;simp;omega
  ·have:=zX (o++[s]) r;simp at this ⊢;omega
theorem OB {o l:List Nm}{i:Nat}(h:i<l.length):dM o (l.take (i+1))=if l[i]∈dM o (l.take i)then dM o (l.take i)else dM o (l.take i)++[l[i]]:=by
 rw[List.take_succ_eq_append_getElem h,OC];rfl
theorem zM5 {b id:Nat}{H:aA}{A B:List Nm}{nk:Bool}(h:H[id]? =some (.row 1 (A.map D.str) nk))(hn:nk=true->A=[])(hl:A.length+B.length<=100000000):cR b H 1 16 (.osl id A.length 0 A.length) (B.map D.str) B.length=some (.osl id (A.length+B.length) 0 (A.length+B.length),H.set id (.row 1 ((A++B).map D.str) (nk && decide (B=[])))):=by
 by_cases hB:B=[]
 ·subst hB
  simp[cR,h,aH,aX,D9 h];simp at hl;refine⟨hn,by omega,by omega,?_⟩;exact aH (fun n=>rfl) rfl
 ·have hm:B.length≠0:=fun q=>hB (List.eq_nil_of_length_eq_zero q)
  rw[kB (hw:=A.length) (es:=1) (bytes:=16) (m:=B.length) (ys:=B.map D.str) (cs:=A.map D.str) (nil:=nk) (n:=A.length) h (by simp) (by omega) (fun q=>by rw[hn q];rfl) (by unfold aX;omega) (by unfold aX;omega) (aH (fun n=>AX _) (HC _)) hm];simp[hB]
mutual
theorem NL:∀p:Pat,(oB p).length<=pw p
 | .mk k n _ ks _ ps=>by
  have:=zV [] ps;simp only[oB,pw];simp only[List.length_nil]at this;split <;> simp <;> omega
theorem zV:∀(o:List Nm) (l:List Pat),(bZ o l).length<=o.length+bV l
 | o,[]=>by simp[bZ,bV]
 | o,p::r=>by
  have h1:=NL p;have h2:=zV (dM o (oB p)) r;have h3:=zX o (oB p);simp only[bZ,bV];omega
end
mutual
theorem zMS:∀p:Pat,PB p->∀x∈oB p,x.length<=2000000
 | .mk k n _ ks _ ps=>by
  intro h x hx;rw[PB]at h;have:=Bo [] ps h.2.2.2.2 (by simp);rw[oB]at hx;split at hx
  ·rcases List.mem_cons.1 hx with rfl | hx
   ·exact h.1
   ·exact this x hx
  ·exact this x hx
theorem Bo:∀(o:List Nm) (l:List Pat),jF l->(∀x∈o,x.length<=2000000)->∀x∈bZ o l,x.length<=2000000
 | o,[],_,ho=>by rw[bZ];exact ho
 | o,p::r,h,ho=>by
  rw[jF]at h;rw[bZ];refine Bo _ r h.2 fun x hx=>?_
  rcases(HU o (oB p)).1 hx with hx | hx
  ·exact ho x hx
  ·exact zMS p h.1 x hx
end
theorem NM:∀(o:List Nm) (a b:List Pat),bZ o (a++b)=bZ (bZ o a) b
 | o,[],b=>by rw[bZ];rfl
 | o,p::r,b=>by rw[List.cons_append,bZ,bZ,NM]
theorem zMU {l:List Pat}{i:Nat}(h:i<l.length):bZ [] (l.take (i+1))=dM (bZ [] (l.take i)) (oB l[i]):=by
 rw[List.take_succ_eq_append_getElem h,NM];simp[bZ]
theorem zMT(p:Pat):oB p=if p.kind=1 then p.name::bZ [] p.pats else bZ [] p.pats:=by cases p;rw[oB];rfl
set_option maxHeartbeats 1000000 in
theorem HM (hX : CX X) : ∀ (k : Nat) (f : Nl) (l : List Pat), SizeOf.sizeOf l <= k -> jF l -> bV l <= 8000000 -> ∀ H : aA, cF X yK [SL f (Pat.aC l) l.length] H = some (SL .nil ((bZ [] l).map D.str) (bZ [] l).length, H) := by
  intro k
  induction k with
  | zero => intro f l h; have : 0 < SizeOf.sizeOf l := by cases l <;> simp <;> omega
            omega
  | succ k ih =>
    intro f l hk hl hw H
    have hll := oZ l
    refine zLh hX ?_
    simp [Tq, Env.dL, List.nil_append, List.append_nil]
    refine cH (fun (i : Nat) e H' => ∃ E, H' = H ++ (.row 1 [] true :: .row 1 ((bZ [] (l.take i)).map D.str) (decide (bZ [] (l.take i) = [])) :: E) ∧ i <= l.length ∧ e.get 3 = .osl (H.length + 1) (bZ [] (l.take i)).length 0 (bZ [] (l.take i)).length ∧ e.get 9 = SL f (Pat.aC l) l.length ∧ e.get 10 = .int .i64 l.length ∧ e.get 11 = .int .i64 i) (fun i => l.length - i) ?_ 0 (by simp [bZ])
    rintro i e H' ⟨E, rfl, hi, g3, g9, g10, g11⟩ L ih2
    have w1 : IntKind.i64.wrap ((i : Int) + 1) = (i : Int) + 1 := wrap_i64 (by omega) (by omega)
    by_cases h : i < l.length
    · have h' : (i : Int) < l.length := by omega
      have hdr := Pat.dG h
      have hmem := List.getElem_mem h
      have hp : PB l[i] := (mH.1 hl) _ hmem
      have hsz := List.sizeOf_lt_of_mem hmem
      have hpw : pw l[i] <= bV l := yA hmem
      have htl := zV [] (l.take i)
      have htw := Gn (l := l) i
      have hbl := NL l[i]
      have htk := zMU h
      have hbe := zMT l[i]
      generalize l[i] = p at *
      have hps : jF p.pats ∧ SizeOf.sizeOf p.pats < SizeOf.sizeOf p ∧ bV p.pats <= pw p := by
        cases p
        rw [PB] at hp
        simp [Pat.pats, pw]
        exact ⟨hp.2.2.2.2, by omega⟩
      have hc := fun H => ih p.patsF p.pats (by omega) hps.1 (by omega) H
      have hln := zV [] p.pats
      generalize bZ [] p.pats = own at *
      generalize bZ [] (l.take i) = out at *
      simp only [List.length_nil] at hln htl
      have hel : ∀ H : aA, elems H 1 (SL .nil (own.map D.str) own.length) = some (own.map D.str, own.length) := fun H => wO (by simp)
      have hcon := fun (o : List Nm) (x : Nm) (h : o.length <= 100000000) (T : aA) => LI hX o x (by omega) (H ++ (.row 1 [] true :: .row 1 (o.map D.str) (decide (o = [])) :: T)) (H.length + 1) (decide (o = [])) (by simp) (by simp)
      have hap := fun (o : List Nm) (x : Nm) (h : o.length <= 100000000) (T : aA) b => Bq (b := b) (H := H ++ (.row 1 [] true :: .row 1 (o.map D.str) (decide (o = [])) :: T)) (id := H.length + 1) (A := o) (nk := decide (o = [])) x (by simp) (by simp) h
      by_cases k1 : p.kind = 1
      · rw [if_pos k1] at hbe
        have ha0 := fun b => zM5 (b := b) (H := H ++ (.row 1 [] true :: .row 1 (out.map D.str) (decide (out = [])) :: (E ++ [.row 1 [.str p.name] false]))) (id := H.length + (E.length + 2)) (A := [p.name]) (B := own) (nk := false) (by simp) (by simp) (by simp; omega)
        simp at ha0
        obtain ⟨own1, ho1⟩ : ∃ o, o = p.name :: own := ⟨_, rfl⟩
        have hl1 : own1.length = 1 + own.length := by rw [ho1]; simp; omega
        have hm1 : own1.map D.str = D.str p.name :: own.map D.str := by rw [ho1]; rfl
        rw [← ho1] at hbe
        simp only [← hl1, ← hm1] at ha0
        simp [De, g3, g9, g10, g11, h, h', hdr, hc, k1, hel, ha0]
        refine cH (fun (j : Nat) e H' => H' = H ++ (.row 1 [] true :: .row 1 ((dM out (own1.take j)).map D.str) (decide (dM out (own1.take j) = [])) :: (E ++ [.row 1 (own1.map D.str) false])) ∧ j <= own1.length ∧ e.get 3 = .osl (H.length + 1) (dM out (own1.take j)).length 0 (dM out (own1.take j)).length ∧ e.get 9 = SL f (Pat.aC l) l.length ∧ e.get 10 = .int .i64 l.length ∧ e.get 11 = .int .i64 i ∧ e.get 26 = .osl (H.length + (E.length + 2)) own1.length 0 own1.length ∧ e.get 27 = .int .i64 own1.length ∧ e.get 28 = .int .i64 j) (fun j => own1.length - j) ?_ 0 (by simp [dM, g3, g9, g10, g11, ← hl1, ← hm1])
        rintro j e2 H2 ⟨rfl, hj, q3, q9, q10, q11, q26, q27, q28⟩ L2 ih3
        have w2 : IntKind.i64.wrap ((j : Int) + 1) = (j : Int) + 1 := wrap_i64 (by omega) (by omega)
        have hol := zX out (own1.take j)
        have hol2 : (own1.take j).length <= own1.length := by simp; omega
        by_cases hjl : j < own1.length
        · have hjl' : (j : Int) < own1.length := by omega
          have hd2 := jN (f := D.str) hjl
          have ht2 := OB (o := out) hjl
          generalize own1[j] = x at *
          generalize dM out (own1.take j) = o at *
          have hco := hcon o x (by omega) (E ++ [.row 1 (own1.map D.str) false])
          have hao := hap o x (by omega) (E ++ [.row 1 (own1.map D.str) false])
          by_cases hx : x ∈ o
          · rw [if_pos hx] at ht2
            simp [wY, q3, q9, q10, q11, q26, q27, q28, hjl, hjl', hd2, hco, hx, w2]
            refine ih3 (j + 1) _ _ (by omega) ?_
            rw [ht2]
            simp [q3, q9, q10, q11, q26, q27]
            omega
          · rw [if_neg hx] at ht2
            simp [wY, q3, q9, q10, q11, q26, q27, q28, hjl, hjl', hd2, hco, hx, w2, hao, zR]
            refine ih3 (j + 1) _ _ (by omega) ?_
            rw [ht2]
            simp [q9, q10, q11, q26, q27]
            omega
        · obtain rfl : j = own1.length := by omega
          rw [List.take_length] at *
          simp [wY, q3, q9, q10, q11, q26, q27, q28, w1]
          refine ih2 (i + 1) _ _ (by omega) ?_
          refine ⟨E ++ [.row 1 (own1.map D.str) false], ?_, by omega, ?_, ?_, ?_, ?_⟩
          · rw [htk, hbe]
          · rw [htk, hbe]; simp [q3]
          · simp [q9]
          · simp [q10]
          · simp
      · rw [if_neg k1] at hbe
        simp [De, g3, g9, g10, g11, h, h', hdr, hc, k1]
        refine cH (fun (j : Nat) e H' => H' = H ++ (.row 1 [] true :: .row 1 ((dM out (own.take j)).map D.str) (decide (dM out (own.take j) = [])) :: E) ∧ j <= own.length ∧ e.get 3 = .osl (H.length + 1) (dM out (own.take j)).length 0 (dM out (own.take j)).length ∧ e.get 9 = SL f (Pat.aC l) l.length ∧ e.get 10 = .int .i64 l.length ∧ e.get 11 = .int .i64 i ∧ e.get 26 = SL .nil (own.map D.str) own.length ∧ e.get 27 = .int .i64 own.length ∧ e.get 28 = .int .i64 j) (fun j => own.length - j) ?_ 0 (by simp [dM, g3, g9, g10, g11])
        rintro j e2 H2 ⟨rfl, hj, q3, q9, q10, q11, q26, q27, q28⟩ L2 ih3
        have w2 : IntKind.i64.wrap ((j : Int) + 1) = (j : Int) + 1 := wrap_i64 (by omega) (by omega)
        have hol := zX out (own.take j)
        have hol2 : (own.take j).length <= own.length := by simp; omega
        by_cases hjl : j < own.length
        · have hjl' : (j : Int) < own.length := by omega
          have hd2 := jN (f := D.str) hjl
          have ht2 := OB (o := out) hjl
          generalize own[j] = x at *
          generalize dM out (own.take j) = o at *
          have hco := hcon o x (by omega) E
          have hao := hap o x (by omega) E
          by_cases hx : x ∈ o
          · rw [if_pos hx] at ht2
            simp [wY, q3, q9, q10, q11, q26, q27, q28, hjl, hjl', hd2, hco, hx, w2]
            refine ih3 (j + 1) _ _ (by omega) ?_
            rw [ht2]
            simp [q3, q9, q10, q11, q26, q27]
            omega
          · rw [if_neg hx] at ht2
            simp [wY, q3, q9, q10, q11, q26, q27, q28, hjl, hjl', hd2, hco, hx, w2, hao, zR]
            refine ih3 (j + 1) _ _ (by omega) ?_
            rw [ht2]
            simp [q9, q10, q11, q26, q27]
            omega
        · obtain rfl : j = own.length := by omega
          rw [List.take_length] at *
          simp [wY, q3, q9, q10, q11, q26, q27, q28, w1]
          refine ih2 (i + 1) _ _ (by omega) ?_
          refine ⟨E, ?_, by omega, ?_, ?_, ?_, ?_⟩
          · rw [htk, hbe]
          · rw [htk, hbe]; simp [q3]
          · simp [q9]
          · simp [q10]
          · simp
    · obtain rfl : i = l.length := by omega
      rw [List.take_length] at *
      have hf := PD (H := H ++ (.row 1 [] true :: .row 1 ((bZ [] l).map D.str) (decide (bZ [] l = [])) :: E)) (b := H.length) (id := H.length + 1) (l := bZ [] l) (by omega) (by simp)
      simp [De, fO, oS, finish, g3, g9, g10, g11, hf]
end
section
variable {X:Ctx}
theorem yX(d:D)(r:List D):aJ true 1 (d::r)=some (.agg [d]):=by simp[aJ]
attribute [local simp] uQ uP uS uR uT yX
structure Vis2(X:Ctx){σ:Type}(id:Nat)(HS:σ->aA)(n:Nat)(f:σ->Nm×Int->σ×Bool)(ok:σ->Prop)(P:Nm×Int->Prop):Prop where
 len:∀s,(HS s).length=n
 idn:id<n
 call:∀(s:σ) (x:Nm×Int) (E:aA),ok s->P x->aU X (.yield id) [.str x.1,.int .i64 x.2] (HS s++E)=some (.bool (f s x).2,HS (f s x).1++E)
 keep:∀(s:σ) (x:Nm×Int),ok s->P x->(f s x).2=true->ok (f s x).1
def jR(X:Ctx){σ:Type}(HS:σ->aA)(f:σ->Nm×Int->σ×Bool)(ok:σ->Prop)(g:Nat)(args:List D)(M:fK):Prop:=∀(s:σ) (E:aA),ok s->cF X g args (HS s++E)=some (.bool (visit f s M).2,HS (visit f s M).1++E)
theorem Fw {σ α β:Type}(f:σ->β->σ×Bool)(g:α->List β):∀(l:List α) (s:σ),visit (fun s x=>visit f s (g x)) s l=visit f s (l.flatMap g)
 | [],s=>rfl
 | x::r,s=>by
  rw[List.flatMap_cons,jG,visit]
  cases hb:(visit f s (g x)).2 with
  | true=>rw[if_pos rfl,if_pos rfl];exact Fw f g r _
  | false=>simp;exact(Prod.ext rfl hb.symm)
variable {σ:Type}{id:Nat}{HS:σ->aA}{n:Nat}{f:σ->Nm×Int->σ×Bool}{ok:σ->Prop}{P:Nm×Int->Prop}
theorem U5(hX:CX X)(hv:Vis2 X id HS n f ok P){sc:List Nm}{g:Expr->fK}(f0:Nl)(l:List Expr)(hl:l.length<=10000000)(hg:∀x∈l,jR X HS f ok kY [.agg [.yield id],bK sc,.agg x.cells] (g x))(hP:∀x∈l,∀y∈g x,P y):jR X HS f ok pF [.agg [.yield id],bK sc,SL f0 (Expr.aC l) l.length] (l.flatMap g):=by
 intro s E hs;have hst:Stops X (fun x:Expr=>.agg x.cells) (.func Jn [] [.ptr (n+E.length) 0,.ptr (n+(E.length+1)) 0]) HS (fun s x=>visit f s (g x)) ok (fun x=>x∈l) (E++[.box [.yield id],.box [bK sc]]):=⟨fun t x ht hx=>by
  have hc:=hg x hx t (E++[.box [.yield id],.box [bK sc]]) ht;have hl:=hv.len t;have hl2:=hv.len (visit f t (g x)).1;have h1:(HS t++(E++[Chunk.box [.yield id],.box [bK sc]]))[n+E.length]? =some (.box [.yield id]):=by rw[← hl,gJ];simp
  have h2:(HS t++(E++[Chunk.box [.yield id],.box [bK sc]]))[n+(E.length+1)]? =some (.box [bK sc]):=by rw[← hl,gJ];simp
  refine zK7 hX ?_;generalize(visit f t (g x)).1=t' at *;generalize(visit f t (g x)).2=b at *;have htk:List.take ((HS t).length+(E.length+2)) (HS t'++(E++[.box [.yield id],.box [bK sc]]))=HS t'++(E++[.box [.yield id],.box [bK sc]]):=List.take_of_length_le (by rw[List.length_append,hl,hl2];simp);simp[Sv,h1,h2,hc,htk],fun t x ht hx hb=>iC hv.keep _ t ht (hP x hx) hb⟩
 have h1:=Bd hX hv.len (E:=E++[.box [.yield id],.box [bK sc]]) (by simp) hst f0 l hl (fun x hx=>hx) s hs;rw[Fw]at h1;have hln:=hv.len s;have hs1:∀H:aA,n+E.length<=H.length->storable (n+E.length) H (n+E.length) [.yield id]=true:=fun H h=>bG (Nat.le_refl _) (by have:=hv.idn;simp[Go.AM.D.aD,Go.AM.D.under];omega) (by simp[Go.AM.D.aF,Go.AM.D.one])
 have hs2:∀(H:aA) k,storable (n+E.length) H k [bK sc]=true:=fun H k=>aH (fun n=>by simp) (by simp)
 refine zK8 hX ?_;have htk:∀t':σ,List.take (n+E.length) (HS t'++(E++[.box [.yield id],.box [bK sc]]))=HS t'++E:=fun t'=>by
  rw[← List.append_assoc, ← hv.len t', ← List.length_append,List.take_left'];rfl
 simp[Su,hln,hs1,hs2,D.fA,h1,htk]
theorem AK(hX:CX X)(hv:Vis2 X id HS n f ok P){sc:List Nm}{g:Pat->fK}(f0:Nl)(l:List Pat)(hl:l.length<=10000000)(hg:∀x∈l,jR X HS f ok sY [.agg [.yield id],bK sc,.agg x.cells] (g x))(hP:∀x∈l,∀y∈g x,P y):jR X HS f ok m8 [.agg [.yield id],bK sc,SL f0 (Pat.aC l) l.length] (l.flatMap g):=by
 intro s E hs;have hst:Stops X (fun x:Pat=>.agg x.cells) (.func Jl [] [.ptr (n+E.length) 0,.ptr (n+(E.length+1)) 0]) HS (fun s x=>visit f s (g x)) ok (fun x=>x∈l) (E++[.box [.yield id],.box [bK sc]]):=⟨fun t x ht hx=>by
  have hc:=hg x hx t (E++[.box [.yield id],.box [bK sc]]) ht;have hl:=hv.len t;have hl2:=hv.len (visit f t (g x)).1;have h1:(HS t++(E++[Chunk.box [.yield id],.box [bK sc]]))[n+E.length]? =some (.box [.yield id]):=by rw[← hl,gJ];simp
  have h2:(HS t++(E++[Chunk.box [.yield id],.box [bK sc]]))[n+(E.length+1)]? =some (.box [bK sc]):=by rw[← hl,gJ];simp
  refine zK2 hX ?_;generalize(visit f t (g x)).1=t' at *;generalize(visit f t (g x)).2=b at *;have htk:List.take ((HS t).length+(E.length+2)) (HS t'++(E++[.box [.yield id],.box [bK sc]]))=HS t'++(E++[.box [.yield id],.box [bK sc]]):=List.take_of_length_le (by rw[List.length_append,hl,hl2];simp);simp[Sl,h1,h2,hc,htk],fun t x ht hx hb=>iC hv.keep _ t ht (hP x hx) hb⟩
 have h1:=Bc hX hv.len (E:=E++[.box [.yield id],.box [bK sc]]) (by simp) hst f0 l hl (fun x hx=>hx) s hs;rw[Fw]at h1;have hln:=hv.len s;have hs1:∀H:aA,n+E.length<=H.length->storable (n+E.length) H (n+E.length) [.yield id]=true:=fun H h=>bG (Nat.le_refl _) (by have:=hv.idn;simp[Go.AM.D.aD,Go.AM.D.under];omega) (by simp[Go.AM.D.aF,Go.AM.D.one])
 have hs2:∀(H:aA) k,storable (n+E.length) H k [bK sc]=true:=fun H k=>aH (fun n=>by simp) (by simp)
 refine zK3 hX ?_;have htk:∀t':σ,List.take (n+E.length) (HS t'++(E++[.box [.yield id],.box [bK sc]]))=HS t'++E:=fun t'=>by
  rw[← List.append_assoc, ← hv.len t', ← List.length_append,List.take_left'];rfl
 simp[Sk,hln,hs1,hs2,D.fA,h1,htk]
end
section
variable {X:Ctx}
attribute [local simp] uQ uP uS uR uT yX
variable {σ:Type}{id:Nat}{HS:σ->aA}{n:Nat}{f:σ->Nm×Int->σ×Bool}{ok:σ->Prop}{P:Nm×Int->Prop}
theorem AG(hX:CX X)(sc:List Nm)(x:Nm)(H:aA):cF X lQ [bK sc,.fsl [.str x] 1] H=some (bK (bY sc [x]),H):=Ic hX .full sc [x] (by simp) H
theorem PX(hX:CX X)(sc:List Nm)(x y:Nm)(H:aA):cF X lQ [bK sc,.fsl [.str x,.str y] 2] H=some (bK (bY sc [x,y]),H):=Ic hX .full sc [x,y] (by simp) H
theorem zJv(s:Nm):(nV s).length<=s.length:=by unfold nV;split <;> simp
theorem QB(hX:CX X)(hv:Vis2 X id HS n f ok P){sc:List Nm}(d:Def)(e:Expr)(hn:d.name.length<=2000000)(hp:d.params.length<=9)(hp2:∀s∈d.params,s.length<=2000000){mB mR:fK}(hB:jR X HS f ok kY [.agg [.yield id],bK (jK (bY sc [fU d.name d.params.length]) d.params),.agg d.body.cells] mB)(hR:jR X HS f ok kY [.agg [.yield id],bK (bY sc [fU d.name d.params.length]),.agg e.cells] mR)(hP:∀y∈mB,P y):jR X HS f ok Jm [.agg [.yield id],bK sc,.agg d.cells,.agg e.cells] (mB++mR):=by
 intro s E hs;have hln:=hv.len s;have hs1:∀H:aA,n+E.length<=H.length->storable (n+E.length) H (n+E.length) [.yield id]=true:=fun H h=>bG (Nat.le_refl _) (by have:=hv.idn;simp[Go.AM.D.aD,Go.AM.D.under];omega) (by simp[Go.AM.D.aF,Go.AM.D.one])
 have hc0:=b8 hX d.name d.params.length hp (by omega);have hw1:=AG hX;have hw2:=PX hX;refine zK6 hX ?_;have htk:∀t':σ,List.take (n+E.length) (HS t'++(E++[.box [.yield id]]))=HS t'++E:=fun t'=>by
  rw[← List.append_assoc, ← hv.len t', ← List.length_append,List.take_left'];rfl
 have hb1:=hB s (E++[.box [.yield id]]) hs;have hsB:=iC hv.keep mB s hs hP;have hb2:=fun hb=>hR (visit f s mB).1 (E++[.box [.yield id]]) (hsB hb)
 rw[jG];generalize hS0:bY sc [fU d.name d.params.length]=S0 at *;simp[Sr,hln,hs1,D.fA,hc0,hw1,z4];have hg:∀t:σ,(HS t++(E++[.box [.yield id]]))[n+E.length]? =some (.box [.yield id]):=fun t=>by rw[← hv.len t,gJ];simp
 refine cH (fun(q:Nat×List Nm) v H'=>H'=HS s++(E++[.box [.yield id]])∧q.1<=d.params.length∧v.get 1=bK S0∧v.get 4=.ptr (n+E.length) 0∧v.get 6=.fptr d.cells∧v.get 7=.fptr e.cells∧v.get 9=bK q.2∧v.get 25=SL d.paramsF (d.params.map D.str) d.params.length∧v.get 26=.int .i64 d.params.length∧v.get 27=.int .i64 q.1∧jK q.2 (d.params.drop q.1)=jK S0 d.params) (fun q=>d.params.length-q.1) ?_ (0,S0) (by simp[hS0]);rintro⟨i,S⟩ v H' ⟨rfl,hi,g1,g4,g6,g7,g9,g25,g26,g27,hq⟩ L ih;simp only at hi g9 g27 hq ih;have w1:IntKind.i64.wrap ((i:Int)+1)=(i:Int)+1:=wI;by_cases h:i<d.params.length
 ·have h':(i:Int)<d.params.length:=by omega
  have hdr:=jN (f:=D.str) h;have hm:=hp2 _ (List.getElem_mem h);rw[List.drop_eq_getElem_cons h,jK]at hq;generalize d.params[i]=p at *;have hcp:=BL hX p (by omega);have hc1:=b8 hX (nV p) 0 (by omega) (by have:=zJv p;omega);have hc2:=b8 hX p 0 (by omega) (by omega);simp only[Int.cast_ofNat_Int]at hc1 hc2;by_cases hd:p.head?=some 36
  ·rw[if_pos hd]at hq
   simp[Q7,g1,g4,g6,g7,g9,g25,g26,g27,h,h',hdr,w1,hcp,hd,hc1,hw2,z4];refine ih (i+1,bY S [p,fU (nV p) 0]) _ _ (by simp;omega) ?_;simp[g1,g4,g6,g7,g25,g26];exact⟨by omega,hq⟩
  ·rw[if_neg hd]at hq
   simp[Q7,g1,g4,g6,g7,g9,g25,g26,g27,h,h',hdr,w1,hcp,hd,hc2,hw1];refine ih (i+1,bY S [fU p 0]) _ _ (by simp;omega) ?_;simp[g1,g4,g6,g7,g25,g26];exact⟨by omega,hq⟩
 ·obtain rfl:i=d.params.length:=by omega
  simp[jK]at hq;subst hq
  cases hb:(visit f s mB).2 with
  | true=>
   rw[hb]at hb1;replace hb2:=hb2 hb;rw[if_pos rfl];generalize(visit f s mB).1=s1 at *;simp[Q7,g1,g4,g6,g7,g9,g25,g26,g27,hg,hb1,hb2,htk]
  | false=>
   rw[hb]at hb1;simp[Q7,g1,g4,g6,g7,g9,g25,g26,g27,hg,hb1,htk,hb]
end
section
variable {X:Ctx}
attribute [local simp] uQ uP uS uR uT yX
variable {σ:Type}{id:Nat}{HS:σ->aA}{n:Nat}{f:σ->Nm×Int->σ×Bool}{ok:σ->Prop}{P:Nm×Int->Prop}
theorem AO(l:List Nm):(cU l).length=l.length:=by simp[cU]
theorem AF(hX:CX X)(l:List Nm)(hl:l.length<=100000000)(sc:List Nm)(H:aA):cF X lQ [bK sc,SL .nil ((cU l).map D.str) l.length] H=some (bK (bY sc (cU l)),H):=by
 have:=Ic hX .nil sc (cU l) (by rw[AO];exact hl) H;rw[AO]at this;exact this
theorem PZ(hX:CX X)(hv:Vis2 X id HS n f ok P){fE:List Nm->Expr->fK}{fP:List Nm->Pat->fK}(p:Pat)(hp:PB p)(hw:bV p.pats<=4000000)(hk:p.kind=3->p.keys.length=p.pats.length)
  (hE:∀q∈p.keys,∀sc,(∀y∈fE sc q,P y)->jR X HS f ok kY [.agg [.yield id],bK sc,.agg q.cells] (fE sc q))
  (hPt:∀q∈p.pats,∀sc,(∀y∈fP sc q,P y)->jR X HS f ok sY [.agg [.yield id],bK sc,.agg q.cells] (fP sc q))
  {sc:List Nm} (hP:∀y∈kK fE fP p.kind sc p.keys p.pats,P y):jR X HS f ok sY [.agg [.yield id],bK sc,.agg p.cells] (kK fE fP p.kind sc p.keys p.pats):=by
 intro s E hs;have hln:=hv.len s;have hs1:∀H:aA,n+E.length<=H.length->storable (n+E.length) H (n+E.length) [.yield id]=true:=fun H h=>bG (Nat.le_refl _) (by have:=hv.idn;simp[Go.AM.D.aD,Go.AM.D.under];omega) (by simp[Go.AM.D.aF,Go.AM.D.one])
 have hpb:p.pats.length<=2000000∧p.keys.length<=2000000∧∀q∈p.pats,PB q:=by
  cases p
  rw[PB,mH]at hp;exact⟨hp.2.2.2.1,hp.2.1,hp.2.2.2.2⟩
 obtain⟨hl1,hl2,hqs⟩:=hpb;refine zK4 hX ?_;have htk:∀t':σ,List.take (n+E.length) (HS t'++(E++[.box [.yield id]]))=HS t'++E:=fun t'=>by
  rw[← List.append_assoc, ← hv.len t', ← List.length_append,List.take_left'];rfl
 have hg:∀t:σ,(HS t++(E++[.box [.yield id]]))[n+E.length]? =some (.box [.yield id]):=fun t=>by rw[← hv.len t,gJ];simp
 simp[So,hln,hs1,D.fA];generalize hR:visit f s (kK fE fP p.kind sc p.keys p.pats)=R;refine cH (fun(q:Nat×σ×List Nm) v H'=>H'=HS q.2.1++(E++[.box [.yield id]])∧q.1<=p.pats.length∧ok q.2.1∧v.get 1=bK q.2.2∧v.get 3=.ptr (n+E.length) 0∧v.get 5=.fptr p.cells∧v.get 10=SL p.patsF (Pat.aC p.pats) p.pats.length∧v.get 11=.int .i64 p.pats.length∧v.get 12=.int .i64 q.1∧(∀y∈kK fE fP p.kind q.2.2 (p.keys.drop q.1) (p.pats.drop q.1),P y)∧visit f q.2.1 (kK fE fP p.kind q.2.2 (p.keys.drop q.1) (p.pats.drop q.1))=R) (fun q=>p.pats.length-q.1) ?_ (0,s,sc) (by simp[hs,hR];exact fun a b h=>hP _ h);clear hR hP;rintro⟨i,t,S⟩ v H' ⟨rfl,hi,ht,g1,g3,g5,g10,g11,g12,hP,hq⟩ L ih;simp only at hi ht g1 g12 hP hq ih;have w1:IntKind.i64.wrap ((i:Int)+1)=(i:Int)+1:=wI;by_cases h:i<p.pats.length
 ·have h':(i:Int)<p.pats.length:=by omega
  have hdr:=Pat.dG h;have hm:=List.getElem_mem h;have hlnt:=hv.len t;rw[List.drop_eq_getElem_cons h,Z0]at hq hP;rw[List.tail_drop]at hq hP;have hPx:=hPt _ hm S;have hxb:=hqs _ hm;have hxw:=yA hm;generalize p.pats[i]=x at *;have hbd:∀H:aA,cF X yK [.fsl x.cells 1] H=some (SL .nil ((bZ [] [x]).map D.str) (bZ [] [x]).length,H):=fun H=>by
   have:=HM hX _ .full [x] (Nat.le_refl _) ⟨hxb,trivial⟩ (by simp[bV];omega) H;simpa [Pat.aC,SL]using this
  have hbl:=zV [] [x];simp[bV]at hbl;have hbm:=Bo [] [x] ⟨hxb,trivial⟩ (by simp);have hva:=HL hX .nil (bZ [] [x]) (by omega) (fun y hy=>by have:=hbm y hy;omega);have hwv:=AF hX (bZ [] [x]) (by omega);generalize bZ [] [x]=bl at *;by_cases k3:p.kind=3
  ·rw[if_pos k3]at hq hP
   have hkl:=hk k3;have hik:i<p.keys.length:=by omega
   have hik':(i:Int)<p.keys.length:=by omega
   have hdk:=Expr.dG hik;have hEx:=hE _ (List.getElem_mem hik) S;rw[List.drop_eq_getElem_cons hik]at hq hP;simp only at hq hP;generalize p.keys[i]=y at *;have he1:=hEx (fun z hz=>hP z (List.mem_append_left _ hz)) t (E++[.box [.yield id]]) ht;have hok1:=iC hv.keep (fE S y) t ht (fun z hz=>hP z (List.mem_append_left _ hz));have hp1:=fun hb=>hPx (fun z hz=>hP z (List.mem_append_right _ (List.mem_append_left _ hz))) (visit f t (fE S y)).1 (E++[.box [.yield id]]) (hok1 hb)
   have hok2:=fun hb=>iC hv.keep (fP S x) _ (hok1 hb) (fun z hz=>hP z (List.mem_append_right _ (List.mem_append_left _ hz)))
   rw[jG]at hq
   cases hb:(visit f t (fE S y)).2 with
   | true=>
    rw[hb]at he1 hq;replace hp1:=hp1 hb;replace hok2:=hok2 hb;rw[if_pos rfl,jG]at hq;generalize(visit f t (fE S y)).1=t1 at *
    cases hb2:(visit f t1 (fP S x)).2 with
    | true=>
     rw[hb2]at hp1 hq;replace hok2:=hok2 hb2;rw[if_pos rfl]at hq;have hlt1:=hv.len (visit f t1 (fP S x)).1;generalize(visit f t1 (fP S x)).1=t2 at *;simp[wX,g1,g3,g5,g10,g11,g12,h,h',hik,hik',hdr,hdk,k3,w1,hg,he1,hp1,hbd,hva,hwv,z3,aQ,aR,aS,aT,aO,aP, -aN];refine ih (i+1,t2,bY S (cU bl)) _ _ (by simp;omega) ?_;rw[k3]at hq hP;simp[g3,g5,g10,g11,hok2,k3,hq];exact⟨by omega,fun a c hz=>hP _ (List.mem_append_right _ (List.mem_append_right _ hz))⟩
    | false=>
     rw[hb2]at hp1 hq;simp only[Bool.false_eq_true,if_false]at hq;subst hq;simp[wX,g1,g3,g5,g10,g11,g12,h,h',hik,hik',hdr,hdk,k3,w1,hg,he1,hp1,hb2,htk,aQ,aR,aS,aT,aO,aP, -aN]
   | false=>
    rw[hb]at he1 hq;simp only[Bool.false_eq_true,if_false]at hq;subst hq;simp[wX,g1,g3,g5,g10,g11,g12,h,h',hik,hik',hdr,hdk,k3,w1,hg,he1,hb,htk,aQ,aR,aS,aT,aO,aP, -aN]
  ·rw[if_neg k3,List.nil_append]at hq hP
   have hp1:=hPx (fun z hz=>hP z (List.mem_append_left _ hz)) t (E++[.box [.yield id]]) ht;have hok1:=iC hv.keep (fP S x) t ht (fun z hz=>hP z (List.mem_append_left _ hz));rw[jG]at hq
   cases hb:(visit f t (fP S x)).2 with
   | true=>
    rw[hb]at hp1 hq;replace hok1:=hok1 hb;rw[if_pos rfl]at hq;have hlt1:=hv.len (visit f t (fP S x)).1;generalize(visit f t (fP S x)).1=t1 at *;simp[wX,g1,g3,g5,g10,g11,g12,h,h',hdr,k3,w1,hg,hp1,hbd,hva,hwv,z3,aQ,aR,aS,aT,aO,aP, -aN];refine ih (i+1,t1,bY S (cU bl)) _ _ (by simp;omega) ?_;simp[g3,g5,g10,g11,hok1,hq];exact⟨by omega,fun a c hz=>hP _ (List.mem_append_right _ hz)⟩
   | false=>
    rw[hb]at hp1 hq;simp only[Bool.false_eq_true,if_false]at hq;subst hq;simp[wX,g1,g3,g5,g10,g11,g12,h,h',hdr,k3,w1,hg,hp1,hb,htk,aQ,aR,aS,aT,aO,aP, -aN]
 ·obtain rfl:i=p.pats.length:=by omega
  simp[kK,visit]at hq;simp[wX,g1,g3,g5,g10,g11,g12,htk, ← hq]
end
section
variable {X:Ctx}
attribute [local simp] uQ uP uS uR uT yX
variable {σ:Type}{id:Nat}{HS:σ->aA}{n:Nat}{f:σ->Nm×Int->σ×Bool}{ok:σ->Prop}{P:Nm×Int->Prop}
def iN(k:Nat)(s:List Nm)(e:Expr):fK:=
  if e.kind=21∨e.kind=22 then(e.kids.take 1).flatMap (mE k s)++(e.pats.flatMap (mP k s)++(((e.kids.drop 1).take 1).flatMap (mE k s)++(e.kids.drop 2).flatMap (mE k (bY s (cU (bZ [] e.pats))))))
  else if e.kind=23 then e.kids.flatMap (mE k (bY s [42::e.name]))
  else if e.kind=25 then(e.defs.take 1).flatMap (fun d=>mE k (jK (bY s [fU d.name d.params.length]) d.params) d.body++(e.kids.take 1).flatMap (mE k (bY s [fU d.name d.params.length])))
  else if e.kind=26 then(e.kids.take 1).flatMap (mE k s)++(e.pats.flatMap (mP k s)++((e.kids.drop 1).take 1).flatMap (mE k (bY s (cU (bZ [] e.pats)))))
  else e.kids.flatMap (mE k s)
theorem u4(k:Nat)(s:List Nm)(e:Expr):mE (k+1) s e=jM s e++iN k s e:=by rw[mE];rfl
def Wf(e:Expr):Prop:=Fine Sh e∨(e.kind=0∧e.kids=[]∧e.pats=[]∧e.defs=[])
theorem Wf.kids {e:Expr}(h:Fine Sh e):∀x∈e.kids,Wf x:=fun x hx=>by
 cases h with
 | mk h1 h2=>
  by_cases k0:x.kind=0
  ·exact .inr ⟨k0,h1.none x hx k0⟩
  ·exact .inl (h2 x (List.mem_append_left _ hx) k0)
theorem Ac {e:Expr}(h:Fine Sh e):Sh e:=by cases h with | mk h1 _=>exact h1
theorem KD {e:Expr}(h:Fine Sh e):∀p∈e.pats,∀x∈dS p,x.kind≠0->Fine Sh x:=fun p hp x hx hk=>by
 cases h with
 | mk h1 h2=>exact h2 x (List.mem_append_right _ (List.mem_append_left _ (Y8 hp hx))) hk
theorem zIg {e:Expr}(h:Fine Sh e){d:Def}(hd:e.defs=[d])(hk:d.body.kind≠0):Fine Sh d.body:=by
 cases h with
 | mk h1 h2=>exact h2 _ (List.mem_append_right _ (List.mem_append_right _ (Od (by rw[hd];exact List.mem_singleton_self d)))) hk
def lG:ACode:=match iA with
 | .seq _ (.seq _ r)=>r
 | c=>c
theorem J7 {l:List Expr}{i:Nat}(h:i<l.length):aJ true 10 (List.drop (i*10) (Expr.aC l))=some (.agg l[i].cells):=by rw[Expr.dG h,Expr.load]
theorem ldD {l:List Def}{i:Nat}(h:i<l.length):aJ true 12 (List.drop (i*12) (Def.aC l))=some (.agg l[i].cells):=by rw[Def.dG h,Def.load]
theorem VV {f:Nl}{a b:Expr}{r:List Expr}:iD 10 (SL f (Expr.aC (a::b::r)) (r.length+1+1)) (some (.int .i64 2)) none none=some (SL .full (Expr.aC r) r.length):=by
 have h20:List.drop 20 (Expr.aC (a::b::r))=Expr.aC r:=by
  have ha:=Expr.aK a;have hb:=Expr.aK b;simp only[Expr.aC];rw[← List.append_assoc,List.drop_left' (by simp[ha,hb])]
 have hl:(r.length+1+1)*10=(Expr.aC (a::b::r)).length:=by rw[Expr.bC];rfl
 have ht:List.take ((r.length+1+1)*10) (Expr.aC (a::b::r))=Expr.aC (a::b::r):=List.take_of_length_le (by rw[hl];exact Nat.le_refl _);simp only[SL,iD,dY,hl,if_true];simp only[← hl,ht];have h2:(2:Int)<=(r.length:Int)+1+1:=by omega
 have h3:r.length+1+1-2=r.length:=by omega
 simp[h2,h20]
 cases r.length <;> rfl
theorem Br(hX:CX X)(hv:Vis2 X id HS n f ok P){sc:List Nm}{M:fK}(x:Expr)(hg:jR X HS f ok kY [.agg [.yield id],bK sc,.agg x.cells] M)(hP:∀y∈M,P y):jR X HS f ok pF [.agg [.yield id],bK sc,.fsl x.cells 1] M:=by
 have:=U5 hX hv (g:=fun _=>M) .full [x] (by simp) (by simpa using hg) (by simpa using hP);simpa [Expr.aC,SL]using this
set_option maxHeartbeats 2000000 in
theorem PY(hX:CX X)(hv:Vis2 X id HS n f ok P)(k:Nat)
  (ihE:∀x:Expr,SizeOf.sizeOf x<=k->EB x->Wf x->∀sc,(∀y∈mE k sc x,P y)->jR X HS f ok kY [.agg [.yield id],bK sc,.agg x.cells] (mE k sc x))
  (ihP:∀p:Pat,SizeOf.sizeOf p<=k->PB p->bV p.pats<=4000000->PFine p->(∀x∈dS p,x.kind≠0->Fine Sh x)->∀sc,(∀y∈mP k sc p,P y)->jR X HS f ok sY [.agg [.yield id],bK sc,.agg p.cells] (mP k sc p))
  (e:Expr) (hsz:SizeOf.sizeOf e<=k+1) (he:EB e) (hf:Wf e) (sc:List Nm) (hP:∀y∈iN k sc e,P y):∀(t:σ) (E:aA) (env:Env),ok t->env.get 1=bK sc->env.get 3=.ptr (n+E.length) 0->env.get 5=.fptr e.cells->YS X (n+E.length) none lG [] ⟨env,HS t++(E++[.box [.yield id]]),[]⟩ (fO [.tmp 6] none (n+E.length) (.bool (visit f t (iN k sc e)).2,HS (visit f t (iN k sc e)).1++E)):=by
 intro t E env ht g1 g3 g5;have he':=xJ.1 he;have hpw:=oZ e.pats;have hbd:=HM hX _ e.patsF e.pats (Nat.le_refl _) (mH.2 he'.2.2.2.2.2.2.1) (by have:=he'.2.2.2.2.2.1;omega);have hbl:=zV [] e.pats;have hbm:=Bo [] e.pats (mH.2 he'.2.2.2.2.2.2.1) (by simp);have hb4:(bZ [] e.pats).length<=4000000:=by have:=he'.2.2.2.2.2.1;simp at hbl;omega
 have hva:=HL hX .nil (bZ [] e.pats) (by omega) (fun y hy=>by have:=hbm y hy;omega);have hwv:=AF hX (bZ [] e.pats) (by omega);have hw1:=AG hX;have htk:∀t':σ,List.take (n+E.length) (HS t'++(E++[.box [.yield id]]))=HS t'++E:=fun t'=>by
  rw[← List.append_assoc, ← hv.len t', ← List.length_append,List.take_left'];rfl
 have hg:∀t:σ,(HS t++(E++[.box [.yield id]]))[n+E.length]? =some (.box [.yield id]):=fun t=>by rw[← hv.len t,gJ];simp
 have hkl:e.kids.length<=2000000:=he'.2.2.2.1;have hks:∀x∈e.kids,SizeOf.sizeOf x<=k∧EB x:=fun x hx=>⟨by
  have:=F7 (e:=e) (List.mem_append_left _ hx:x∈fF e);omega,he'.2.2.2.2.1 x hx⟩
 have hps:∀p∈e.pats,SizeOf.sizeOf p<=k∧PB p∧bV p.pats<=4000000:=fun p hp=>by
  refine⟨?_,he'.2.2.2.2.2.2.1 p hp,?_⟩
  ·cases e
   have:=List.sizeOf_lt_of_mem hp;simp[Expr.pats]at this hsz;omega
  ·have h1:=yA hp
   have h2:=he'.2.2.2.2.2.1;rw[Y6]at h1;omega
 by_cases k21:e.kind=21∨e.kind=22
 ·have hfi:Fine Sh e:=hf.resolve_right (fun h=>by omega)
  have hsh:=Ac hfi;have hlo:=hsh.lo;have hl3:3<=e.kids.length:=by rcases k21 with h | h <;> rw[h]at hlo <;> simp[dB]at hlo <;> omega
  obtain⟨a,b,r,hk⟩:∃a b r,e.kids=a::b::r:=by
   match e.kids,hl3 with
   | a::b::r,_=>exact⟨a,b,r,rfl⟩
  have hkk:=Wf.kids hfi;have hpp:=KD hfi;have hM:iN k sc e=mE k sc a++(e.pats.flatMap (mP k sc)++(mE k sc b++r.flatMap (mE k (bY sc (cU (bZ [] e.pats)))))):=by
   unfold iN;rw[if_pos k21,hk];simp
  rw[hM]at hP ⊢;have hA:=Br hX hv a (ihE a (hks a (by rw[hk];simp)).1 (hks a (by rw[hk];simp)).2 (hkk a (by rw[hk];simp)) sc (fun y hy=>hP y (List.mem_append_left _ hy))) (fun y hy=>hP y (List.mem_append_left _ hy));have hPA0:∀y∈mE k sc a,P y:=fun y hy=>hP y (List.mem_append_left _ hy)
  replace hP:=fun y hy=>hP y (List.mem_append_right _ hy)
  have hB:=AK hX hv (g:=mP k sc) e.patsF e.pats (by have:=he'.2.2.2.2.2.1;omega) (fun p hp=>ihP p (hps p hp).1 (hps p hp).2.1 (hps p hp).2.2 (hsh.b.fine p hp) (hpp p hp) sc (fun y hy=>hP y (List.mem_append_left _ (List.mem_flatMap.2 ⟨p,hp,hy⟩)))) (fun p hp y hy=>hP y (List.mem_append_left _ (List.mem_flatMap.2 ⟨p,hp,hy⟩)));have hPB:∀y∈e.pats.flatMap (mP k sc),P y:=fun y hy=>hP y (List.mem_append_left _ hy)
  have hPA:∀y∈mE k sc a,P y:=hPA0;have hPC:∀y∈mE k sc b,P y:=fun y hy=>hP y (List.mem_append_right _ (List.mem_append_left _ hy))
  have hPD:∀y∈r.flatMap (mE k (bY sc (cU (bZ [] e.pats)))),P y:=fun y hy=>hP y (List.mem_append_right _ (List.mem_append_right _ hy))
  have hC:=Br hX hv b (ihE b (hks b (by rw[hk];simp)).1 (hks b (by rw[hk];simp)).2 (hkk b (by rw[hk];simp)) sc hPC) hPC;have hmr:∀x∈r,x∈e.kids:=fun x hx=>by rw[hk];simp[hx]
  have hD:=U5 hX hv (sc:=bY sc (cU (bZ [] e.pats))) (g:=mE k (bY sc (cU (bZ [] e.pats)))) .full r (by rw[hk]at hkl;simp at hkl;omega) (fun x hx=>ihE x (hks x (hmr x hx)).1 (hks x (hmr x hx)).2 (hkk x (hmr x hx)) _ (fun y hy=>hPD y (List.mem_flatMap.2 ⟨x,hx,hy⟩))) (fun x hx y hy=>hPD y (List.mem_flatMap.2 ⟨x,hx,hy⟩));have hl0:0<e.kids.length:=by omega
  have hl0':(0:Int)<e.kids.length:=by omega
  have hl1:1<e.kids.length:=by omega
  have hl1':(1:Int)<e.kids.length:=by omega
  have hld0:aJ true 10 (Expr.aC e.kids)=some (.agg a.cells):=by have:=J7 hl0;simpa [hk]using this
  have hld1:aJ true 10 (List.drop 10 (Expr.aC e.kids))=some (.agg b.cells):=by have:=J7 hl1;simpa [hk]using this
  have hsl:iD 10 (SL e.kidsF (Expr.aC e.kids) e.kids.length) (some (.int .i64 2)) none none=some (SL .full (Expr.aC r) r.length):=by rw[hk];exact VV
  have w0:=hA t (E++[.box [.yield id]]) ht;have ok0:=iC hv.keep (mE k sc a) t ht hPA;rw[jG]
  cases hb0:(visit f t (mE k sc a)).2 with
  | false=>
   rw[hb0]at w0;rcases k21 with q | q <;> simp[lG,iA,g1,g3,g5,hbd,hva,hg,z0,q,hl0,hl0',hl1,hl1',hld0,hld1,hsl,hwv,w0,hb0,htk,aQ,aR,aS,aT,aO,aP, -aN]
  | true=>
   rw[hb0]at w0;replace ok0:=ok0 hb0;rw[if_pos rfl];generalize(visit f t (mE k sc a)).1=t0 at *;have w1:=hB t0 (E++[.box [.yield id]]) ok0;have ok1:=iC hv.keep (e.pats.flatMap (mP k sc)) t0 ok0 hPB;rw[jG]
   cases hb1:(visit f t0 (e.pats.flatMap (mP k sc))).2 with
   | false=>
    rw[hb1]at w1;rcases k21 with q | q <;> simp[lG,iA,g1,g3,g5,hbd,hva,hg,z0,q,hl0,hl0',hl1,hl1',hld0,hld1,hsl,hwv,w0,w1,hb1,htk,aQ,aR,aS,aT,aO,aP, -aN]
   | true=>
    rw[hb1]at w1;replace ok1:=ok1 hb1;rw[if_pos rfl];generalize(visit f t0 (e.pats.flatMap (mP k sc))).1=t1 at *;have w2:=hC t1 (E++[.box [.yield id]]) ok1;have ok2:=iC hv.keep (mE k sc b) t1 ok1 hPC;rw[jG]
    cases hb2:(visit f t1 (mE k sc b)).2 with
    | false=>
     rw[hb2]at w2;rcases k21 with q | q <;> simp[lG,iA,g1,g3,g5,hbd,hva,hg,z0,q,hl0,hl0',hl1,hl1',hld0,hld1,hsl,hwv,w0,w1,w2,hb2,htk,aQ,aR,aS,aT,aO,aP, -aN]
    | true=>
     rw[hb2]at w2;replace ok2:=ok2 hb2;rw[if_pos rfl];generalize(visit f t1 (mE k sc b)).1=t2 at *;have w3:=hD t2 (E++[.box [.yield id]]) ok2;have ok3:=iC hv.keep (r.flatMap (mE k (bY sc (cU (bZ [] e.pats))))) t2 ok2 hPD;rcases k21 with q | q <;> simp[lG,iA,g1,g3,g5,hbd,hva,hg,z0,q,hl0,hl0',hl1,hl1',hld0,hld1,hsl,hwv,w0,w1,w2,w3,htk,aQ,aR,aS,aT,aO,aP, -aN]
 ·have k21a:¬e.kind=21:=fun h=>k21 (.inl h)
  have k22a:¬e.kind=22:=fun h=>k21 (.inr h)
  by_cases k23:e.kind=23
  ·have hfi:Fine Sh e:=hf.resolve_right (fun h=>by omega)
   have hkk:=Wf.kids hfi;have hM:iN k sc e=e.kids.flatMap (mE k (bY sc [42::e.name])):=by unfold iN;rw[if_neg k21,if_pos k23]
   rw[hM]at hP ⊢;have hA:=U5 hX hv (sc:=bY sc [42::e.name]) (g:=mE k (bY sc [42::e.name])) e.kidsF e.kids (by omega) (fun x hx=>ihE x (hks x hx).1 (hks x hx).2 (hkk x hx) _ (fun y hy=>hP y (List.mem_flatMap.2 ⟨x,hx,hy⟩))) (fun x hx y hy=>hP y (List.mem_flatMap.2 ⟨x,hx,hy⟩));have q1:1+e.name.length<=9223372036854775807:=by have:=he'.1;omega
   have q2:¬9223372036854775807<1+e.name.length:=by omega
   have w0:=hA t (E++[.box [.yield id]]) ht;simp[lG,iA,g1,g3,g5,hbd,hva,hg,z0,k23,hw1,q1,q2,w0,htk,aQ,aR,aS,aT,aO,aP, -aN]
  ·by_cases k25:e.kind=25
   ·have hfi:Fine Sh e:=hf.resolve_right (fun h=>by omega)
    have hsh:=Ac hfi;have hlo:=hsh.lo;rw[k25]at hlo;obtain⟨d,hd,hdn,hdp,hdk⟩:=hsh.b.defs k25;obtain⟨a,r,hk⟩:∃a r,e.kids=a::r:=by
     match hh:e.kids,(by simp[dB]at hlo;omega:1<=e.kids.length)with
     | a::r,_=>exact⟨a,r,rfl⟩
     | [],h=>simp at h
    have hkk:=Wf.kids hfi;have hM:iN k sc e=mE k (jK (bY sc [fU d.name d.params.length]) d.params) d.body++mE k (bY sc [fU d.name d.params.length]) a:=by
     unfold iN;rw[if_neg k21,if_neg k23,if_pos k25,hd,hk];simp
    rw[hM]at hP ⊢;have hdm:d∈e.defs:=by rw[hd];simp
    have hdb:=he'.2.2.2.2.2.2.2.2.1 d hdm;have hdz:SizeOf.sizeOf d.body<=k:=by
     have:=F7 (e:=e) (List.mem_append_right _ (List.mem_append_right _ (Od hdm)):d.body∈fF e);omega
    have hdb2:(∀s∈d.params,s.length<=2000000)∧EB d.body:=by
     cases d
     exact⟨hdb.2.2.1,hdb.2.2.2⟩
    have hPA:∀y∈mE k (jK (bY sc [fU d.name d.params.length]) d.params) d.body,P y:=fun y hy=>hP y (List.mem_append_left _ hy)
    have hA:=QB hX hv (sc:=sc) d a (by omega) (by omega) hdb2.1 (ihE d.body hdz hdb2.2 (.inl (zIg hfi hd hdk)) _ hPA) (ihE a (hks a (by rw[hk];simp)).1 (hks a (by rw[hk];simp)).2 (hkk a (by rw[hk];simp)) _ (fun y hy=>hP y (List.mem_append_right _ hy))) hPA;have hl0:0<e.kids.length:=by rw[hk];simp
    have hl0':(0:Int)<e.kids.length:=by omega
    have hd0:0<e.defs.length:=by rw[hd];simp
    have hd0':(0:Int)<e.defs.length:=by omega
    have hld0:aJ true 10 (Expr.aC e.kids)=some (.agg a.cells):=by have:=J7 hl0;simpa [hk]using this
    have hld1:aJ true 12 (Def.aC e.defs)=some (.agg d.cells):=by have:=ldD hd0;simpa [hd]using this
    have w0:=hA t (E++[.box [.yield id]]) ht;simp[lG,iA,g1,g3,g5,hbd,hva,hg,z0,k25,hl0,hl0',hd0,hd0',hld0,hld1,w0,htk,aQ,aR,aS,aT,aO,aP, -aN]
   ·by_cases k26:e.kind=26
    ·have hfi:Fine Sh e:=hf.resolve_right (fun h=>by omega)
     have hsh:=Ac hfi;have hlo:=hsh.lo;rw[k26]at hlo;have hl2:2<=e.kids.length:=by simp[dB]at hlo;omega
     obtain⟨a,b,r,hk⟩:∃a b r,e.kids=a::b::r:=by
      match e.kids,hl2 with
      | a::b::r,_=>exact⟨a,b,r,rfl⟩
     have hkk:=Wf.kids hfi;have hpp:=KD hfi;have hM:iN k sc e=mE k sc a++(e.pats.flatMap (mP k sc)++mE k (bY sc (cU (bZ [] e.pats))) b):=by
      unfold iN;rw[if_neg k21,if_neg k23,if_neg k25,if_pos k26,hk];simp
     rw[hM]at hP ⊢;have hPA:∀y∈mE k sc a,P y:=fun y hy=>hP y (List.mem_append_left _ hy)
     have hPB:∀y∈e.pats.flatMap (mP k sc),P y:=fun y hy=>hP y (List.mem_append_right _ (List.mem_append_left _ hy))
     have hPC:∀y∈mE k (bY sc (cU (bZ [] e.pats))) b,P y:=fun y hy=>hP y (List.mem_append_right _ (List.mem_append_right _ hy))
     have hA:=Br hX hv a (ihE a (hks a (by rw[hk];simp)).1 (hks a (by rw[hk];simp)).2 (hkk a (by rw[hk];simp)) sc hPA) hPA;have hB:=AK hX hv (g:=mP k sc) e.patsF e.pats (by have:=he'.2.2.2.2.2.1;omega) (fun p hp=>ihP p (hps p hp).1 (hps p hp).2.1 (hps p hp).2.2 (hsh.b.fine p hp) (hpp p hp) sc (fun y hy=>hPB y (List.mem_flatMap.2 ⟨p,hp,hy⟩))) (fun p hp y hy=>hPB y (List.mem_flatMap.2 ⟨p,hp,hy⟩));have hC:=Br hX hv b (ihE b (hks b (by rw[hk];simp)).1 (hks b (by rw[hk];simp)).2 (hkk b (by rw[hk];simp)) _ hPC) hPC;have hl0:0<e.kids.length:=by omega
     have hl0':(0:Int)<e.kids.length:=by omega
     have hl1:1<e.kids.length:=by omega
     have hl1':(1:Int)<e.kids.length:=by omega
     have hld0:aJ true 10 (Expr.aC e.kids)=some (.agg a.cells):=by have:=J7 hl0;simpa [hk]using this
     have hld1:aJ true 10 (List.drop 10 (Expr.aC e.kids))=some (.agg b.cells):=by have:=J7 hl1;simpa [hk]using this
     have w0:=hA t (E++[.box [.yield id]]) ht;have ok0:=iC hv.keep (mE k sc a) t ht hPA;rw[jG]
     cases hb0:(visit f t (mE k sc a)).2 with
     | false=>
      rw[hb0]at w0;simp[lG,iA,g1,g3,g5,hbd,hva,hg,z0,k26,hl0,hl0',hl1,hl1',hld0,hld1,hwv,w0,hb0,htk,aQ,aR,aS,aT,aO,aP, -aN]
     | true=>
      rw[hb0]at w0;replace ok0:=ok0 hb0;rw[if_pos rfl];generalize(visit f t (mE k sc a)).1=t0 at *;have w1:=hB t0 (E++[.box [.yield id]]) ok0;have ok1:=iC hv.keep (e.pats.flatMap (mP k sc)) t0 ok0 hPB;rw[jG]
      cases hb1:(visit f t0 (e.pats.flatMap (mP k sc))).2 with
      | false=>
       rw[hb1]at w1;simp[lG,iA,g1,g3,g5,hbd,hva,hg,z0,k26,hl0,hl0',hl1,hl1',hld0,hld1,hwv,w0,w1,hb1,htk,aQ,aR,aS,aT,aO,aP, -aN]
      | true=>
       rw[hb1]at w1;replace ok1:=ok1 hb1;rw[if_pos rfl];generalize(visit f t0 (e.pats.flatMap (mP k sc))).1=t1 at *;have w2:=hC t1 (E++[.box [.yield id]]) ok1;simp[lG,iA,g1,g3,g5,hbd,hva,hg,z0,k26,hl0,hl0',hl1,hl1',hld0,hld1,hwv,w0,w1,w2,htk,aQ,aR,aS,aT,aO,aP, -aN]
    ·have hM:iN k sc e=e.kids.flatMap (mE k sc):=by unfold iN;rw[if_neg k21,if_neg k23,if_neg k25,if_neg k26]
     rw[hM]at hP ⊢;have hkk:∀x∈e.kids,Wf x:=by
      rcases hf with h | h
      ·exact Wf.kids h
      ·rw[h.2.1];simp
     have hA:=U5 hX hv (sc:=sc) (g:=mE k sc) e.kidsF e.kids (by omega) (fun x hx=>ihE x (hks x hx).1 (hks x hx).2 (hkk x hx) _ (fun y hy=>hP y (List.mem_flatMap.2 ⟨x,hx,hy⟩))) (fun x hx y hy=>hP y (List.mem_flatMap.2 ⟨x,hx,hy⟩));have w0:=hA t (E++[.box [.yield id]]) ht;simp[lG,iA,g1,g3,g5,hbd,hva,hg,z0,k21a,k22a,k23,k25,k26,w0,htk,aQ,aR,aS,aT,aO,aP, -aN]
end
section
variable {X:Ctx}
attribute [local simp] uQ uP uS uR uT yX
variable {σ:Type}{id:Nat}{HS:σ->aA}{n:Nat}{f:σ->Nm×Int->σ×Bool}{ok:σ->Prop}{P:Nm×Int->Prop}
def C3:ACode:=match iA with
 | .seq r _=>r
 | c=>c
def C4:ACode:=match iA with
 | .seq _ (.seq h _)=>h
 | c=>c
theorem wB:iA=.seq C3 (.seq C4 lG):=rfl
theorem zAw {e:Expr}(hf:Wf e)(h:e.kind=18):e.kids.length<=9:=by
 have hfi:Fine Sh e:=hf.resolve_right (fun h=>by omega);have:=(Ac hfi).hi;rw[h]at this;simp[dB]at this;omega
theorem QC {σ α:Type}(f:σ->α->σ×Bool)(s:σ)(x:α):visit f s [x]=f s x:=by
 rw[visit];generalize f s x=q;obtain⟨t,b⟩:=q
 cases b <;> rfl
theorem QA(hX:CX X)(hv:Vis2 X id HS n f ok P):∀k:Nat,
  (∀x:Expr,SizeOf.sizeOf x<=k->EB x->Wf x->∀sc,(∀y∈mE k sc x,P y)->jR X HS f ok kY [.agg [.yield id],bK sc,.agg x.cells] (mE k sc x))∧
  (∀p:Pat,SizeOf.sizeOf p<=k->PB p->bV p.pats<=4000000->PFine p->(∀x∈dS p,x.kind≠0->Fine Sh x)->∀sc,(∀y∈mP k sc p,P y)->jR X HS f ok sY [.agg [.yield id],bK sc,.agg p.cells] (mP k sc p)):=by
 intro k
 induction k with
 | zero=>
  refine⟨fun x h=>?_,fun x h=>?_⟩
  ·have:0<SizeOf.sizeOf x:=by cases x;simp;omega
   omega
  ·have:0<SizeOf.sizeOf x:=by cases x;simp;omega
   omega
 | succ k ih=>
  refine⟨fun e hsz he hf sc hP=>?_,fun p hsz hp hw hf hk sc hP=>?_⟩
  ·intro s E hs
   have he':=xJ.1 he;have hown:=zER hX e (by have:=he'.1;omega) (zAw hf);rw[u4]at hP ⊢;have hr:=PY hX hv k ih.1 ih.2 e hsz he hf sc (fun y hy=>hP y (List.mem_append_right _ hy));have hln:=hv.len s;have hs1:∀H:aA,n+E.length<=H.length->storable (n+E.length) H (n+E.length) [.yield id]=true:=fun H h=>bG (Nat.le_refl _) (by have:=hv.idn;simp[Go.AM.D.aD,Go.AM.D.under];omega) (by simp[Go.AM.D.aF,Go.AM.D.one])
   have htk:∀t':σ,List.take (n+E.length) (HS t'++(E++[.box [.yield id]]))=HS t'++E:=fun t'=>by
    rw[← List.append_assoc, ← hv.len t', ← List.length_append,List.take_left'];rfl
   have hg:∀t:σ,(HS t++(E++[.box [.yield id]]))[n+E.length]? =some (.box [.yield id]):=fun t=>by rw[← hv.len t,gJ];simp
   refine zK5 hX ?_;rw[wB];rw[jG]
   cases ho:vE e with
   | none=>
    have hm:jM sc e=[]:=by unfold jM;rw[ho]
    rw[hm];rw[ho]at hown;simp only[visit,if_true];simp[C3,C4,iA,hln,hs1,D.fA,hown];exact hr s E _ hs (by simp) (by simp) (by simp)
   | some nm=>
    rw[ho]at hown;have hhas:=zET hX sc nm;by_cases hin:nm∈sc
    ·have hm:jM sc e=[]:=by unfold jM;rw[ho];simp[hin]
     rw[hm];simp only[visit,if_true];simp[C3,C4,iA,hln,hs1,D.fA,hown,hhas,hin];exact hr s E _ hs (by simp) (by simp) (by simp)
    ·have hm:jM sc e=[(nm,e.at_)]:=by unfold jM;rw[ho];simp[hin]
     rw[hm]at hP ⊢;have hPn:P (nm,e.at_):=hP _ (by simp);have hc:=hv.call s (nm,e.at_) (E++[.box [.yield id]]) hs hPn;have hk:=hv.keep s (nm,e.at_) hs hPn;rw[QC];generalize f s (nm,e.at_)=q at *;obtain⟨t,b⟩:=q
     cases b with
     | true=>
      replace hk:=hk rfl;simp only[if_true];simp at hc;simp[C3,C4,iA,hln,hs1,D.fA,hown,hhas,hin,hg,hc];exact hr t E _ hk (by simp) (by simp) (by simp)
     | false=>
      simp at hc;simp[C3,C4,iA,hln,hs1,D.fA,hown,hhas,hin,hg,hc,htk]
  ·rw[mP]at hP ⊢
   have hpf:p.kind=3->p.keys.length=p.pats.length:=by cases hf with | mk _ _ _ h _ _=>exact h
   have hpn:∀x∈p.keys,x.kind≠0:=by cases hf with | mk _ _ _ _ _ h=>exact h
   have hpp:∀x∈p.pats,PFine x:=by cases hf with | mk _ _ _ _ h _=>exact h
   have hpe:=Ht p;have hpb:sK p.keys∧jF p.pats:=by
    cases p
    rw[PB]at hp;exact⟨hp.2.2.1,hp.2.2.2.2⟩
   refine PZ hX hv p hp hw hpf (fun q hq sc hy=>ih.1 q ?_ (Fj.1 hpb.1 q hq) (.inl (hk q (by rw[hpe];exact List.mem_append_left _ hq) (hpn q hq))) sc hy) (fun q hq sc hy=>ih.2 q ?_ (mH.1 hpb.2 q hq) ?_ (hpp q hq) (fun x hx=>hk x (by rw[hpe];exact List.mem_append_right _ (Y8 hq hx))) sc hy) hP
   ·have:=List.sizeOf_lt_of_mem hq
    cases p
    simp[Pat.keys]at this hsz;omega
   ·have:=List.sizeOf_lt_of_mem hq
    cases p
    simp[Pat.pats]at this hsz;omega
   ·have h1:=yA hq
    rw[Y6]at h1;omega
end
section
variable {X:Ctx}
attribute [local simp] uQ uP uS uR uT yX
theorem zES(hX:CX X)(e:Expr)(sc:List Nm)(H:aA):cF X Jq [.agg e.cells,bK sc] H=some (.func yI [] [.fptr [bK sc],.fptr e.cells],H):=by
 refine zLe hX ?_;simp[Th,aB,aH,D.fA]
theorem zFg(hX:CX X){σ:Type}{id:Nat}{HS:σ->aA}{n:Nat}{f:σ->Nm×Int->σ×Bool}{ok:σ->Prop}{P:Nm×Int->Prop}(hv:Vis2 X id HS n f ok P)(k:Nat)(e:Expr)(hk:SizeOf.sizeOf e<=k)(he:EB e)(hf:Wf e)(sc:List Nm)(hP:∀y∈mE k sc e,P y)(s:σ)(hs:ok s):aU X (.func yI [] [.fptr [bK sc],.fptr e.cells]) [.yield id] (HS s)=some (.tup [],HS (visit f s (mE k sc e)).1):=by
 have hw:=(QA hX hv k).1 e hk he hf sc hP s [] hs;rw[List.append_nil,List.append_nil]at hw;have hln:=hv.len s;have htk:∀t':σ,List.take n (HS t')=HS t':=fun t'=>List.take_of_length_le (by rw[hv.len];exact Nat.le_refl _)
 refine zLd hX ?_;simp[Ti,hln,hw,htk]
def zY(o:List Nm)(x:Nm×Int):List Nm×Bool:=(if x.1∈o then o else o++[x.1],true)
theorem AN:∀(M:fK) (o:List Nm),visit zY o M=(dM o (M.map Prod.fst),true)
 | [],o=>rfl
 | x::r,o=>by
  rw[visit,List.map_cons,dM];simp only[zY,if_true];exact AN r _
theorem HI:∀(o L:List Nm),o.Nodup->(∀y∈o,y∈L)->o.length<=L.length
 | [],L,_,_=>by simp
 | x::r,L,hn,hs=>by
  have hn':=List.nodup_cons.1 hn;have hx:x∈L:=hs x (List.mem_cons_self ..);have h1:=HI r (L.erase x) hn'.2 fun y hy=>(List.mem_erase_of_ne (by rintro rfl;exact hn'.1 hy)).2 (hs y (List.mem_cons_of_mem _ hy))
  have h2:=List.length_erase_of_mem hx;have h3:=List.length_pos_of_mem hx;simp only[List.length_cons];omega
abbrev zH4(H:aA)(e:Expr):Env:=(((((((((((Env.nil.put 0 (D.agg e.cells)).put 1 (D.fptr e.cells)).put 2 (D.osl (List.length H) 0 0 0)).put 3 (D.int IntKind.i64 0)).put 7 (D.agg e.cells)).put 8 (D.int IntKind.i64 0)).put 4 (D.int IntKind.i64 0)).put 9 (D.int IntKind.i64 0)).put 10 (D.bool false)).put 5 (D.ptr (List.length H+2) 0)).put 12 (D.agg e.cells)).put 13 (D.func yI [] [D.fptr [D.nilp],D.fptr e.cells])
abbrev Ll(H:aA)(e:Expr):ALoop:=⟨zH4 H e,[14,15],Dd,Db,.ready,none,H.length+3⟩
def zF(H:aA)(e:Expr)(o:List Nm):aA:=H++[.row 1 [] true,.row 1 (o.map D.str) (decide (o=[])),.box [.osl (H.length+1) o.length 0 o.length],.dfr false,.loop (Ll H e)]
theorem zEW(hX:CX X)(e:Expr)(r:Int)(hr:r≠0)(hc:∀H:aA,cF X yG [.agg e.cells] H=some (.int .i64 r,H))(H:aA):cF X sZ [.agg e.cells] H=some (.tup [.osl H.length 0 0 0,.int .i64 r],H++[.row 1 [] true]):=by
 refine MR hX ?_;simp[Dc,aB,hc,hr]
theorem zEV(hX:CX X)(e:Expr)(k:Nat)(hk:SizeOf.sizeOf e<=k)(he:EB e)(hf:Wf e)(hn:(mE k [] e).length<=10000000)(hc:∀H:aA,cF X yG [.agg e.cells] H=some (.int .i64 0,H))(H:aA):cF X sZ [.agg e.cells] H=some (.tup [.osl H.length (jZ (mE k [] e)).length 0 (jZ (mE k [] e)).length,.int .i64 0],H++[.row 1 ((jZ (mE k [] e)).map D.str) (decide (jZ (mE k [] e)=[]))]):=by
 have hm:=zES hX e [];have hs0:bK []=.nilp:=rfl;rw[hs0]at hm;refine MR hX ?_;simp[Dc,hc,hm,bU,aH];have hv:Vis2 X (H.length+4) (zF H e) (H.length+5) zY (fun o=>o.Nodup∧∀y∈o,y∈(mE k [] e).map Prod.fst) (fun x=>x.1∈(mE k [] e).map Prod.fst):=by
  refine⟨fun s=>by simp[zF],by omega,fun o x E ho hx=>?_,fun o x ho hx _=>?_⟩
  ·have hl:=HI o _ ho.1 ho.2
   rw[List.length_map]at hl;have hcon:=fun T=>LI hX o x.1 (by omega) (H++(.row 1 [] true:: .row 1 (o.map D.str) (decide (o=[]))::T)) (H.length+1) (decide (o=[])) (by simp) (by simp)
   have hap:=fun T b=>Bq (b:=b) (H:=H++(.row 1 [] true:: .row 1 (o.map D.str) (decide (o=[]))::T)) (id:=H.length+1) (A:=o) (nk:=decide (o=[])) x.1 (by simp) (by simp) (by omega)
   have hst:∀(T:aA) (n:Nat),storable (H.length+(n+1+1+1+1+1)) T (H.length+2) [.osl (H.length+1) (o.length+1) 0 (o.length+1)]=true:=fun T n=>V1 (by omega) (by simp) (by simp)
   refine qW (L:=Ll H e) (by simp[zF]) rfl rfl ?_;by_cases hin:x.1∈o
   ·simp[Dd,Db,Env.dX,eA,hcon,hin,aH,zY,zF]
   ·simp[Dd,Db,Env.dX,eA,hcon,hap,hin,aH,zY,zF,zR,hst]
  ·simp only[zY]
   split
   ·exact ho
   ·rename_i h
    refine⟨List.nodup_append.2 ⟨ho.1,by simp,?_⟩,fun y hy=>?_⟩
    ·intro a ha b hb
     simp at hb;subst hb;exact fun q=>h (q ▸ ha)
    ·rcases List.mem_append.1 hy with hy | hy
     ·exact ho.2 y hy
     ·simp at hy;subst hy;exact hx
 have hr:=zFg hX hv k e hk he hf [] (fun y hy=>List.mem_map_of_mem hy) [] (by simp);rw[AN]at hr;rw[hs0]at hr;refine oR (H.length+3) (H.length+4) (Ll H e) (by simp) rfl (g:=yI) (pre:=[]) (caps:=[.fptr [.nilp],.fptr e.cells]) (by simp) (by simpa [zF]using hr) (by simp) (by simp) ?_;simp[iO,lH,kI,jZ];exact decide_eq_decide.2 Iff.rfl
end
section
variable {X:Ctx}
def cY {α:Type}(c:α->Nat):List α->Nat
 | []=>0
 | x::r=>c x+cY c r
theorem D4 {α:Type}(c:α->Nat):∀a b:List α,cY c (a++b)=cY c a+cY c b
 | [],b=>by simp[cY]
 | x::r,b=>by simp only[List.cons_append,cY,D4 c r b];omega
theorem D3 {α:Type}{c d:α->Nat}(h:∀x,c x<=d x):∀a:List α,cY c a<=cY d a
 | []=>Nat.le_refl _
 | x::r=>by have:=h x;have:=D3 h r;simp only[cY];omega
theorem Ls {α β:Type}{g:α->List β}{c:α->Nat}(h:∀x,(g x).length<=c x):∀l:List α,(l.flatMap g).length<=cY c l
 | []=>by simp[cY]
 | x::r=>by have:=h x;have:=Ls h r;simp only[List.flatMap_cons,List.length_append,cY];omega
def gM:Nat->Expr->Nat
 | 0,_=>0
 | k+1,e=>1+cY (gM k) (fF e)
theorem Mx:∀(k:Nat) (e:Expr),gM k e<=gM (k+1) e
 | 0,e=>by simp[gM]
 | k+1,e=>by rw[gM,gM];have:=D3 (Mx k) (fF e);omega
theorem Gu(c:Expr->Nat):∀l:List Pat,cY c (iK l)=cY (fun p=>cY c (dS p)) l
 | []=>rfl
 | p::r=>by rw[iK,D4,cY,Gu c r]
theorem Hw {fE:List Nm->Expr->fK}{fP:List Nm->Pat->fK}{cE:Expr->Nat}{cP:Pat->Nat}(hE:∀s e,(fE s e).length<=cE e)(hP:∀s e,(fP s e).length<=cP e)(kind:Int):∀(l:List Pat) (ks:List Expr) (s:List Nm),(kK fE fP kind s ks l).length<=cY cE ks+cY cP l
 | [],_,_=>by simp[kK]
 | p::r,ks,s=>by
  have h1:=hP s p;rw[Z0]
  cases ks with
  | nil=>
   have:=Hw hE hP kind r [] (bY s (cU (bZ [] [p])));simp only[List.length_append,cY,List.tail_nil]at this ⊢;split <;> simp <;> omega
  | cons q t=>
   have h2:=hE s q;have:=Hw hE hP kind r t (bY s (cU (bZ [] [p])));simp only[List.length_append,cY,List.tail_cons]at this ⊢;split <;> simp <;> omega
theorem IA:∀k:Nat,(∀s e,(mE k s e).length<=gM k e)∧∀s p,(mP k s p).length<=cY (gM k) (dS p)
 | 0=>⟨fun s e=>by simp[mE],fun s p=>by simp[mP]⟩
 | k+1=>by
  obtain⟨ih1,ih2⟩:=IA k;refine⟨fun s e=>?_,fun s p=>?_⟩
  ·rw[u4,List.length_append,gM,fF,D4,D4,Gu]
   have h0:(jM s e).length<=1:=by
    unfold jM;split
    ·split <;> simp
    ·simp
   have hp:(e.pats.flatMap (mP k s)).length<=cY (fun p=>cY (gM k) (dS p)) e.pats:=Ls (ih2 s) e.pats;have hk:∀s (l:List Expr),(l.flatMap (mE k s)).length<=cY (gM k) l:=fun s l=>Ls (ih1 s) l
   have ht:cY (gM k) (e.kids.take 1)+(cY (gM k) ((e.kids.drop 1).take 1)+cY (gM k) (e.kids.drop 2))=cY (gM k) e.kids:=by
    cases e.kids with
    | nil=>rfl
    | cons a r=>
     cases r with
     | nil=>simp[cY]
     | cons b t=>simp[cY]
   have h1:(iN k s e).length<=cY (gM k) e.kids+(cY (fun p=>cY (gM k) (dS p)) e.pats+cY (gM k) (eL e.defs)):=by
    unfold iN;split
    ·have a1:=hk s (e.kids.take 1)
     have a2:=hk s ((e.kids.drop 1).take 1);have a3:=hk (bY s (cU (bZ [] e.pats))) (e.kids.drop 2);simp only[List.length_append];omega
    ·split
     ·have:=hk (bY s [42::e.name]) e.kids;omega
     ·split
      ·cases e.defs with
       | nil=>simp
       | cons d r=>
        have a1:=ih1 (jK (bY s [fU d.name d.params.length]) d.params) d.body;have a2:=hk (bY s [fU d.name d.params.length]) (e.kids.take 1);simp only[List.take_succ_cons,List.take_zero,List.flatMap_cons,List.flatMap_nil,List.length_append,List.length_nil,eL,cY];omega
      ·split
       ·have a1:=hk s (e.kids.take 1)
        have a2:=hk (bY s (cU (bZ [] e.pats))) ((e.kids.drop 1).take 1);simp only[List.length_append];omega
       ·have:=hk s e.kids;omega
   omega
  ·rw[mP,Ht,D4,Gu]
   have h1:=Hw ih1 ih2 p.kind p.pats p.keys s;have h2:=D3 (Mx k) p.keys;have h3:=D3 (fun q=>D3 (Mx k) (dS q)) p.pats;omega
theorem size_pos:∀(k:Nat) (e:Expr),1<=dW k e
 | 0,e=>by simp[dW]
 | k+1,e=>by
  have:∀(l:List Expr) (s:Int×Bool),1<=s.1->1<=(visit (iJ (dW k)) s l).1.1:=by
   intro l
   induction l with
   | nil=>intro s h;exact h
   | cons x r ih=>
    intro s h;have:=size_pos k x;simp only[visit,iJ];split
    ·simp;omega
    ·simp;exact ih _ (by simp;omega)
  rw[dW];split
  ·decide
  ·exact this _ _ (by simp)
theorem CK {g:Expr->Int}(hg:∀x,1<=g x):∀(l:List Expr) (a:Int),0<=a->(visit (iJ g) (a,false) l).1.2=false->(∀x∈l,g x<1048576)∧∀c:Expr->Nat,(∀x∈l,(c x:Int)<=g x)->a+cY c l<=(visit (iJ g) (a,false) l).1.1
 | [],a,ha,h=>by simp[visit,cY]
 | x::r,a,ha,h=>by
  have h1:=hg x;rw[visit]at h ⊢;by_cases hb:1048576<=a+g x
  ·simp[iJ,hb]at h
  ·simp[iJ,hb]at h ⊢
   have:=CK hg r (a+g x) (by omega) h;refine⟨⟨by omega,this.1⟩,fun c hc hr=>?_⟩;have h3:=this.2 c hr;simp only[cY];omega
theorem LO : ∀ (k k' : Nat) (e : Expr), SizeOf.sizeOf e <= k' -> dW k' e < 1048576 -> (gM k e : Int) <= dW k' e
  | 0, k', e, _, _ => by have := size_pos k' e; simp [gM]; omega
  | k + 1, 0, e, h, _ => by have : 0 < SizeOf.sizeOf e := by cases e; simp; omega
                            omega
  | k + 1, k' + 1, e, h, hs => by
    rw [dW] at hs ⊢
    split at hs
    · omega
    · rename_i hf
      rw [if_neg hf, gM]
      have hf' : (visit (iJ (dW k')) (1, false) (fF e)).1.2 = false := by simpa using hf
      have := CK (size_pos k') (fF e) 1 (by omega) hf'
      have h2 := this.2 (gM k) fun x hx => LO k k' x (by have := F7 hx; omega) (this.1 x hx)
      omega
theorem IC {k k':Nat}{e:Expr}(h:SizeOf.sizeOf e<=k')(hs:dW k' e<=4096)(s:List Nm):(mE k s e).length<=4096:=by
 have h1:=(IA k).1 s e;have h2:=LO k k' e h (by omega);omega
end
section
variable {X:Ctx}
abbrev jA(l:List Nm):Chunk:=.row 1 (l.map D.str) (decide (l=[]))
abbrev rI(id:Nat)(l:List Nm):D:=.osl id l.length 0 l.length
theorem Lk(hX:CX X){e:Expr}(he:EB e):(∃r:Int,r≠0∧∀H:aA,cF X sZ [.agg e.cells] H=some (.tup [rI H.length [],.int .i64 r],H++[jA []]))∨(Fine Sh e∧dW (SizeOf.sizeOf e) e<=4096∧∀k,SizeOf.sizeOf e<=k->∀H:aA,cF X sZ [.agg e.cells] H=some (.tup [rI H.length (jZ (mE k [] e)),.int .i64 0],H++[jA (jZ (mE k [] e))])):=by
 obtain⟨r,hc,hr⟩:=zJW hX he;by_cases h:r=0
 ·subst h
  obtain⟨h1,h2,h3⟩:=hr rfl;refine .inr ⟨h1,h2,fun k hk H=>?_⟩;have:=IC (k:=k) (Nat.le_refl _) h2 [];exact zEV hX e k hk he (.inl h1) (by omega) hc H
 ·exact .inl ⟨r,h,fun H=>zEW hX e r h hc H⟩
theorem zGd(hX:CX X)(r:Int)(H:aA):cF X J1 [.int .i64 r] H=some (.int .i64 r,H):=by
 refine zMg hX ?_;simp[Zh,aB]
theorem WG(hX:CX X)(l:List Nm)(hl:l.length<=100000000)(i1 i2:Nat)(H:aA)(h1:H[i1]? =some (jA l))(h2:H[i2]? =some (jA l)):cF X u2 [rI i1 l,rI i2 l] H=some (.bool true,H):=by
 refine zMf hX ?_;simp[Zf];refine cH (fun(i:Nat) e H'=>H'=H∧i<=l.length∧e.get 0=rI i1 l∧e.get 1=rI i2 l∧e.get 5=.int .i64 i) (fun i=>l.length-i) ?_ 0 (by simp);rintro i e H' ⟨rfl,hi,g0,g1,g5⟩ L ih;have w1:IntKind.i64.wrap ((i:Int)+1)=(i:Int)+1:=wI;by_cases h:i<l.length
 ·have h':(i:Int)<l.length:=by omega
  have hdr:=jN (f:=D.str) h;have hnf:decide (l=[])=false:=by cases l with
   | nil=>simp at h
   | cons x r=>simp
  simp only[jA,hnf]at h1 h2;simp[Ze,g0,g1,g5,h,h',h1,h2,hdr,w1];refine ih (i+1) _ _ (by omega) ?_;simp[g0,g1];omega
 ·obtain rfl:i=l.length:=by omega
  simp[Ze,aB,g0,g1,g5]
def iS(name:Nm)(e:Expr):Expr:=.mk 25 [] [] dN .full [e] .nil [] .full [.mk name .nil [] (.mk 1 [] [] dN .nil [] .nil [] .nil [] 0)] 0
theorem zJq {name:Nm}{e:Expr}(hn:name.length<=140737488355328)(he:EB e):EB (iS name e):=by
 have hd:dN.wf:=by simp[dN,Dec.wf,Dec.coef]
 simp[iS,EB,sK,jF,xK,DB,hd,he,hn,bV]
theorem zJn(name:Nm)(e:Expr):SizeOf.sizeOf e<=SizeOf.sizeOf (iS name e)∧1<=SizeOf.sizeOf (iS name e):=by
 simp[iS];omega
theorem zJo(name:Nm)(e:Expr)(k:Nat)(hk:1<=k):mE (k+1) [] (iS name e)=iR [fU name 0] (mE k [] e):=by
 rw[u4, ← (IB (b:=[fU name 0]) k).1 [] [fU name 0] e (fun x=>by simp)];obtain⟨j,rfl⟩:∃j,k=j+1:=⟨k-1,by omega⟩;have h1:jM [] (iS name e)=[]:=by simp[jM,vE,iS,Expr.kind]
 have h2:∀s,mE (j+1) s (.mk 1 [] [] dN .nil [] .nil [] .nil [] 0)=[]:=fun s=>by
  rw[u4];simp[jM,vE,iN,Expr.kind,Expr.kids]
 rw[h1];simp[iN,iS,Expr.kind,Expr.kids,Expr.defs,Def.name,Def.params,Def.body,jK,bY,h2]
theorem zJT(name:Nm)(e:Expr)(k:Nat)(hk:1<=k):jZ (mE (k+1) [] (iS name e))=(jZ (mE k [] e)).filter (fun n=> !decide (n=fU name 0)):=by
 rw[zJo name e k hk,zH3];simp
end
section
variable {X:Ctx}
theorem zJp(name:Nm)(e:Expr):(iS name e).cells=[.int .i64 25,.str [],.str [],.bool false,.nilsl,.int .i64 0,.fsl e.cells 1,.nilsl,.fsl ([.str name,.nilsl,.int .i64 1,.str [],.str [],.bool false,.nilsl,.int .i64 0,.nilsl,.nilsl,.nilsl,.int .i64 0]) 1,.int .i64 0]:=by
 simp[iS,Expr.cells,Def.aC,Def.cells,Expr.aC,Dec.cells,dN,SL,Dec.neg,Dec.coef,Dec.coefF,Dec.exp]
theorem NamesClosed(hX:CX X)(s name:Nm)(hn:name.length<=140737488355328)(H:aA):cF X HQ [.str s,.str name] H=some (.bool true,H):=by
 obtain⟨e,a,c,hok,hp⟩:=YN hX s;have he:=Zv e hok;have hx:=zJq hn he;have hal:=zMh hX;have hnum:=zGd hX;have hxc:=zJp name e;refine zMi hX ?_;rcases Lk hX he with⟨r1,hr1,hf1⟩ | ⟨hfe,hse,hf1⟩
 ·rcases Lk hX hx with⟨r2,hr2,hf2⟩ | ⟨hfx,hsx,hf2⟩
  ·rw[hxc]at hf2
   by_cases hc:c=0
   ·simp[qP,aB,hal,hp,z0,z1,aW,hf1,hf2,hnum,hr1,hr2,hc]
   ·simp[qP,aB,hal,hp,z0,z1,aW,hf1,hf2,hnum,hr1,hr2,hc]
  ·have hf2:=hf2 _ (Nat.le_refl _)
   rw[hxc]at hf2;by_cases hc:c=0
   ·simp[qP,aB,hal,hp,z0,z1,aW,hf1,hf2,hnum,hr1,hc]
   ·simp[qP,aB,hal,hp,z0,z1,aW,hf1,hf2,hnum,hr1,hc]
 ·rcases Lk hX hx with⟨r2,hr2,hf2⟩ | ⟨hfx,hsx,hf2⟩
  ·have hf1:=hf1 _ (Nat.le_refl _)
   rw[hxc]at hf2;by_cases hc:c=0
   ·simp[qP,aB,hal,hp,z0,z1,aW,hf1,hf2,hnum,hr2,hc]
   ·simp[qP,aB,hal,hp,z0,z1,aW,hf1,hf2,hnum,hr2,hc]
  ·have hsz:=zJn name e
   have hf1:=hf1 (SizeOf.sizeOf (iS name e)) hsz.1;have hf2:=hf2 (SizeOf.sizeOf (iS name e)+1) (by omega);rw[zJT name e _ hsz.2,hxc]at hf2;have hlen:=IC (k:=SizeOf.sizeOf (iS name e)) (Nat.le_refl _) hse [];have hfl:(jZ (mE (SizeOf.sizeOf (iS name e)) [] e)).length<=4096:=by
    have:=zX [] ((mE (SizeOf.sizeOf (iS name e)) [] e).map Prod.fst);simp at this;unfold jZ;omega
   generalize jZ (mE (SizeOf.sizeOf (iS name e)) [] e)=l at *;by_cases hc:c=0
   ·subst hc
    simp[qP,hal,hp,z0,z1,aW,hf1,hf2,hnum];clear hf1 hf2 hxc;have hcn:fU name 0=name++[47,48]:=rfl;obtain⟨q,hq⟩:∃q:Nm->Bool,q=fun n=> !decide (n=fU name 0):=⟨_,rfl⟩
    rw[← hq];have q1:name.length<=9223372036854775805:=by omega
    have hle:=List.length_filter_le q l;generalize hm:l.filter q=m at *;have hsame:=WG hX m (by omega) (H.length+1) (H.length+2) (H++[jA l,jA m,jA m]) (by simp) (by simp);refine cH (fun(i:Nat) v H'=>H'=H++[jA l,jA m,jA ((l.take i).filter q)]∧i<=l.length∧v.get 1=.str name∧v.get 9=rI H.length l∧v.get 11=rI (H.length+1) m∧v.get 13=rI (H.length+2) ((l.take i).filter q)∧v.get 14=.int .i64 i) (fun i=>l.length-i) ?_ 0 (by simp);rintro i v H' ⟨rfl,hi,g1,g9,g11,g13,g14⟩ L ih;have w1:IntKind.i64.wrap ((i:Int)+1)=(i:Int)+1:=wI;by_cases h:i<l.length
    ·have h':(i:Int)<l.length:=by omega
     have hdr:=jN (f:=D.str) h;have hnf:decide (l=[])=false:=by cases l with
      | nil=>simp at h
      | cons x r=>simp
     have htk:(l.take (i+1)).filter q=(l.take i).filter q++(if q l[i]then [l[i]]else []):=by
      rw[List.take_succ_eq_append_getElem h,List.filter_append];congr 1
      cases hh:q l[i] <;> simp[List.filter_cons,hh]
     have hwl:((l.take i).filter q).length<=4096:=by
      have:=List.length_filter_le q (l.take i);simp at this;omega
     have hap:=fun b=>Bq (b:=b) (H:=H++[jA l,jA m,jA ((l.take i).filter q)]) (id:=H.length+2) (A:=(l.take i).filter q) (nk:=decide ((l.take i).filter q=[])) l[i] (by simp) (by simp) (by omega)
     have hg:∀T:aA,(H++jA l::T)[H.length]? =some (.row 1 (l.map D.str) false):=fun T=>by simp[hnf]
     generalize(l.take i).filter q=w at *;generalize l[i]=y at *;by_cases hy:y=name++[47,48]
     ·have hqy:q y=false:=by rw[hq,hcn];simp[hy]
      rw[hqy]at htk;simp at htk;simp only[jA,hnf]at *;simp[Ez,g1,g9,g11,g13,g14,h,h',hdr,w1,q1,hy];refine ih (i+1) _ _ (by omega) ?_;rw[htk];simp[g1,g9,g11,g13,hnf];omega
     ·have hqy:q y=true:=by rw[hq,hcn];simp[hy]
      rw[hqy]at htk;simp only[if_true]at htk;simp only[jA,hnf]at *;simp[Ez,g1,g9,g11,g13,g14,h,h',hdr,w1,q1,hy,zR,hap];refine ih (i+1) _ _ (by omega) ?_;rw[htk];simp[g1,g9,g11,hnf];omega
    ·obtain rfl:i=l.length:=by omega
     rw[List.take_length,hm]at *;simp[Ez,g1,g9,g11,g13,g14,hsame]
   ·simp[qP,aB,hal,hp,z0,z1,aW,hf1,hf2,hnum,hc]
end
end Go.AM.T
