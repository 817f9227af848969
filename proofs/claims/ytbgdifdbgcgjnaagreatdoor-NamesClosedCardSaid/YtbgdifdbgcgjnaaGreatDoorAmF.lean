/- The abstract machine: ends of functions; code; calls are the program's calls. -/
import Derived.Test.YtbgdifdbgcgjnaaGreatDoorAmD
set_option linter.unusedVariables false
set_option linter.unusedSimpArgs false
set_option linter.unnecessarySimpa false
set_option maxRecDepth 100000
namespace Go.AM
open Classical in
noncomputable def Fz.close(β:Bk)(Φ :Fz)(H:aA)(w:World)(n:Nat)(keep:Option Nat):Fz:=fun k=>
 match Φ k with
 | some o=>some o
 | none=>if∃id,∃c:Chunk,n<=id∧keep≠some id∧H[id]? =some c∧c.blk β id=some k then w.heap[k]? else none
def Bk.close(β:Bk)(n:Nat)(keep:Option Nat):Bk:=fun id v=>if id<n then β id v else if id=n then(match keep with | some i=>β i v | Option.none=>Option.none)else Option.none
section
variable {P:Program}{G:Nat->Option (List D)}{β β0:Bk}{Φ Φ0 :Fz}{b n:Nat}{H H0:aA}{w w0:World}{keep:Option Nat}
theorem Fz.close_more(k:Nat)(o:Obj)(h: Φ k=some o):Fz.close β Φ H w n keep k=some o:=by
 unfold Fz.close;rw[h]
theorem Fz.Mz {k:Nat}{o:Obj}(h:Fz.close β Φ H w n keep k=some o): Φ k=some o∨(Φ k=none∧w.heap[k]? =some o∧∃id,∃c:Chunk,n<=id∧keep≠some id∧H[id]? =some c∧c.blk β id=some k):=by
 unfold Fz.close at h;split at h
 ·rename_i o' ho;cases h;exact .inl ho
 ·rename_i ho
  split at h
  ·rename_i hh;exact .inr ⟨ho,h,hh⟩
  ·cases h
theorem Fz.LU(hw:WR P G β Φ b H w){id k:Nat}{c:Chunk}{o:Obj}(hid:n<=id)(hk:keep≠some id)(hc:H[id]? =some c)(hb:c.blk β id=some k)(ho:w.heap[k]? =some o):Fz.close β Φ H w n keep k=some o:=by
 unfold Fz.close;rw[hw.apart id c k hc hb];simp only;rw[if_pos ⟨id,c,hid,hk,hc,hb⟩];exact ho
theorem Bk.My {id v:Nat}(h:id<n):Bk.close β n keep id v=β id v:=by unfold Bk.close;rw[if_pos h]
theorem close_more:More n β Φ (Bk.close β n keep) (Fz.close β Φ H w n keep):=
 ⟨fun id v x hi hx=>by rw[Bk.My hi];exact hx,fun id hi hx=>by rw[Bk.My hi];exact hx,fun k o h=>Fz.close_more k o h⟩
def kM(H:aA)(n:Nat):Option Chunk->aA
 | none=>H.take n
 | some c=>H.take n++[c]
theorem BG {α:Type}{l:List α}{n i:Nat}{x:α}(h:(l.take n)[i]? =some x):i<n∧l[i]? =some x:=by
 rw[List.getElem?_take]at h;split at h
 ·rename_i hlt;exact⟨hlt,h⟩
 ·cases h
theorem Bm {β β':Bk}{id id':Nat}{c:Chunk}(h:∀v,β' id' v=β id v):c.blk β' id'=c.blk β id:=by
 cases c <;> simp[Chunk.blk,h]
theorem WR.close(h:WR P G β Φ 0 H w)(hn:iB n H)(hx:Ext β0 Φ0 H0 w0 β Φ H w)(h0:H0.length=n){ck:Option Chunk}(hk:(keep=none∧ck=none)∨∃i c es cs nl,keep=some i∧ck=some c∧n<=i∧H[i]? =some c∧c=.row es cs nl∧D.aD n cs=true):
  WR P G (Bk.close β n keep) (Fz.close β Φ H w n keep) 0 (kM H n ck) w∧Ext β0 Φ0 H0 w0 (Bk.close β n keep) (Fz.close β Φ H w n keep) (kM H n ck) w:=by
 have hle:=hn.1;have htl:(H.take n).length=n:=by simp;omega
 have hm:More n β Φ (Bk.close β n keep) (Fz.close β Φ H w n keep):=close_more;have hfrom:∀id (c:Chunk),(kM H n ck)[id]? =some c->∃id',H[id']? =some c∧(∀v,Bk.close β n keep id v=β id' v)∧c.aD n∧((id<n∧id'=id)∨(id=n∧keep=some id'∧n<=id'∧∃es cs nl,c=.row es cs nl)):=by
  intro id c hc;have old:(H.take n)[id]? =some c->∃id',H[id']? =some c∧(∀v,Bk.close β n keep id v=β id' v)∧c.aD n∧((id<n∧id'=id)∨(id=n∧keep=some id'∧n<=id'∧∃es cs nl,c=.row es cs nl)):=fun hc=>by
   obtain⟨h1,h2⟩:=BG hc;refine⟨id,h2,fun v=>Bk.My h1,?_,.inl ⟨h1,rfl⟩⟩;have:=hn.2 id c h2
   rwa [if_pos h1]at this
  rcases hk with⟨h1,rfl⟩ | ⟨i,c0,es,cs,nl,h1,rfl,h2,h3,h4,h5⟩
  ·exact old hc
  ·rcases gU hc with h6 | ⟨h6,h7⟩
   ·exact old h6
   ·rw[htl]at h6
    subst h7;refine⟨i,h3,fun v=>?_,by rw[h4];exact h5,.inr ⟨h6,h1,h2,es,cs,nl,h4⟩⟩;unfold Bk.close;rw[if_neg (by omega),if_pos h6,h1]
 have hll:n<=(kM H n ck).length:=by
  rcases hk with⟨_,rfl⟩ | ⟨i,c0,es,cs,nl,_,rfl,_⟩
  ·simp[kM];omega
  ·simp[kM];omega
 have hlk:∀id,(kM H n ck).length<=id->(n<id∨(id=n∧keep=none)):=by
  intro id hid;rcases hk with⟨h1,rfl⟩ | ⟨i,c0,es,cs,nl,_,rfl,_⟩
  ·simp only[kM,htl]at hid
   rcases Nat.lt_or_ge n id with h | h
   ·exact .inl h
   ·exact .inr ⟨by omega,h1⟩
  ·simp only[kM,List.length_append,htl,List.length_singleton]at hid
   exact .inl (by omega)
 have inj':∀(id:Nat) (c:Chunk) (id':Nat) (c':Chunk),H[id]? =some c->H[id']? =some c'->∀k,c.blk β id=some k->c'.blk β id'=some k->id=id':=fun id c id' c' h1 h2 k h3 h4=>h.inj id c id' c' k h1 h2 h3 h4
 refine⟨⟨fun id c hc=>?_,fun k o hk=>?_,fun id c k hc hkk=>?_,fun id c id' c' k hc hc' hkk hkk'=>?_,fun id v hid=>?_,Nat.zero_le _,fun id c hc=>?_,fun g cs hg=>?_⟩,
  ⟨?_,by rw[h0];exact hll,hx.os,hx.tape,hx.output,hx.size,hx.same,fun k hl=>?_,fun k o hk=>?_⟩⟩
 ·obtain⟨id',h1,h2,h3,h4⟩:=hfrom id c hc
  have hch:=h.ch id' c h1;rcases h4 with⟨h4,rfl⟩ | ⟨rfl,h5,h6,es,cs,nl,rfl⟩
  ·exact hch.more h3 h4 hm h2 (fun _ _=>rfl)
  ·obtain⟨q0,q1,q2,q3⟩:=hch
   refine⟨q0,q1,fun v hv=>by rw[h2];exact q2 v hv,?_⟩
   cases nl with
   | true=>simp only[if_true]at q3 ⊢;exact⟨q3.1,by rw[h2];exact q3.2⟩
   | false=>
    simp only[Bool.false_eq_true,if_false]at q3 ⊢;obtain⟨k,c,cur,e,r1,r2,r3,r4,r5,r6⟩:=q3;exact⟨k,c,cur,e,by rw[h2];exact r1,r2,r3,r4,r5,aE.more cs h3 hm r6⟩
 ·rcases Fz.Mz hk with h1 | ⟨_,h1,_⟩
  ·exact h.fz k o h1
  ·exact h1
 ·obtain⟨id',h1,h2,_,h4⟩:=hfrom id c hc
  rw[Bm h2]at hkk
  cases hcl:Fz.close β Φ H w n keep k with
  | none=>rfl
  | some o=>
   rcases Fz.Mz hcl with h5 | ⟨_,_,i,c',h6,h7,h8,h9⟩
   ·rw[h.apart id' c k h1 hkk]at h5;cases h5
   ·have:=inj' i c' id' c h8 h1 k h9 hkk
    subst this;rcases h4 with⟨h4,rfl⟩ | ⟨_,h4,_⟩
    ·omega
    ·exact absurd h4 h7
 ·obtain⟨i,h1,h2,_,h4⟩:=hfrom id c hc
  obtain⟨i',h1',h2',_,h4'⟩:=hfrom id' c' hc';rw[Bm h2]at hkk;rw[Bm h2']at hkk';have:=inj' i c i' c' h1 h1' k hkk hkk';subst this;rcases h4 with⟨_,rfl⟩ | ⟨e1,_,e2,_⟩ <;> rcases h4' with⟨_,e3⟩ | ⟨e4,_,e5,_⟩
  ·exact e3
  ·omega
  ·omega
  ·omega
 ·unfold Bk.close
  rcases hlk id hid with h1 | ⟨h1,h2⟩
  ·rw[if_neg (by omega),if_neg (by omega)]
  ·rw[if_neg (by omega),if_pos h1,h2]
 ·obtain⟨_,_,_,h3,_⟩:=hfrom id c hc
  simp only[Nat.not_lt_zero,if_false];exact Chunk.dI hll h3
 ·obtain⟨cur,e,fr,h1,h2⟩:=h.glob g cs hg
  exact⟨cur,e,fr,Fz.close_more _ _ h1,bJ.more cs (fun k o h=>Fz.close_more k o h) h2⟩
 ·exact hx.more.trans (by omega) hm
 ·obtain⟨id,c,hc,hkk⟩:=hl
  obtain⟨i,h1,h2,_,_⟩:=hfrom id c hc;rw[Bm h2]at hkk;exact hx.fresh k ⟨i,c,h1,hkk⟩
 ·rcases Fz.Mz hk with h1 | ⟨_,_,i,c,_,_,h8,h9⟩
  ·exact hx.fzn k o h1
  ·exact .inr (hx.fresh k ⟨i,c,h8,h9⟩)
end
end Go.AM
namespace Go.AM
section
variable {P:Program}{G:Nat->Option (List D)}{β β0:Bk}{Φ Φ0 :Fz}{b n N:Nat}{B:Nat->Prop}{H H0:aA}{w w0:World}{keep:Option Nat}{env:Env}{a:Act}
theorem rM {g:D->Option D}{β':Bk}{Φ' :Fz}(hg:∀d d' v,g d=some d'->VR d β Φ v->VR d' β' Φ' v):∀ {ds ds':List D} {vs:List Value},bN g ds=some ds'->aE ds β Φ vs->aE ds' β' Φ' vs
 | [],ds',vs,h,hv=>by simp[bN]at h;subst h;exact hv
 | d::ds,ds',vs,h,hv=>by
  simp only[bN]at h;split at h
  ·rename_i d1 h1
   split at h
   ·rename_i ds1 h2
    cases h
    simp only[aE]at hv ⊢;obtain⟨v,r,e,q1,q2⟩:=hv;exact⟨v,r,e,hg d d1 v h1 q1,rM hg h2 q2⟩
   ·cases h
  ·cases h
def Zs(Hz H:aA)(keep:Option Nat):Prop:=∀i (c:Chunk),Hz[i]? =some c->(∀t,c≠ .dfr t)->H[i]? =some c∧keep≠some i
theorem JP(h:WR P G β Φ b H w){Hz:aA}(hz:Zs Hz H keep):∀(f:Nat) (d d':D) (v:Value),fz Hz n f d=some d'->VR d β Φ v->VR d' (Bk.close β n keep) (Fz.close β Φ H w n keep) v:=by
 have hm:More n β Φ (Bk.close β n keep) (Fz.close β Φ H w n keep):=close_more;intro f
 induction f with
 | zero=>intro d d' v hf;simp[fz]at hf
 | succ f ih=>
  intro d d' v hf hv;have stay:∀d,d.under n=true->VR d β Φ v->VR d (Bk.close β n keep) (Fz.close β Φ H w n keep) v:=fun d hu hv=>VR.more d hu hm hv
  cases d
  case ptr id off=>
   simp only[fz]at hf;split at hf
   ·rename_i hlt;cases hf;exact stay _ (by simpa [D.under,Nat.blt_eq]using hlt) hv
   ·rename_i hge
    split at hf
    ·rename_i cs hc
     split at hf
     ·rename_i cs' hcs
      split at hf
      ·rename_i hok
       cases hf
       simp only[Bool.and_eq_true]at hok;obtain⟨h1,h2⟩:=hz id _ hc (fun t=>by simp);obtain⟨q1,k,c,cur,e,q2,q3,q4⟩:=h.ch id _ h1;simp only[VR]at hv;obtain⟨k',c',q5,rfl⟩:=hv;rw[q2]at q5;cases q5;have hbk:(Chunk.box cs).blk β id=some k:=by simp[Chunk.blk,q2]
       simp only[VR];refine⟨_,rfl,.inr ⟨cur,e,(0,0),Fz.LU h (by omega) h2 h1 hbk q3,rfl,?_⟩⟩;have hvs:=rM ih hcs (q4.drop off);refine U1 hvs hok.1 (fun j u hj=>?_);simpa using hj
      ·cases hf
     ·cases hf
    ·cases hf
  case osl id hw off m=>
   simp only[fz]at hf;split at hf
   ·rename_i hlt;cases hf;exact stay _ (by simpa [D.under,Nat.blt_eq]using hlt) hv
   ·rename_i hge
    split at hf
    ·rename_i es cs nil hc
     obtain⟨h1,h2⟩:=hz id _ hc (fun t=>by simp);obtain⟨p0,p1,p2,p3⟩:=h.ch id _ h1
     cases nil with
     | true=>
      simp only[if_true]at p3 hf;split at hf
      ·rename_i hm0
       cases hf
       obtain⟨rfl,p4⟩:=p3;simp only[VR]at hv ⊢;rcases hv with⟨k,c,q1,_⟩ | ⟨_,_,_,_,q⟩
       ·cases hw with
        | zero=>rw[p4]at q1;cases q1
        | succ hw=>rw[p2 (hw+1) (by simp)]at q1;cases q1
       ·exact q
      ·cases hf
     | false=>
      simp only[Bool.false_eq_true,if_false]at p3 hf;obtain⟨k,c,cur,e,q1,q2,q3,q4,q5,q6⟩:=p3;split at hf
      ·rename_i hh
       split at hf
       ·rename_i cs' hcs
        split at hf
        ·rename_i hok
         cases hf
         simp only[Bool.and_eq_true]at hok;obtain⟨hh1,hh2⟩:=hh;have hbk:(Chunk.row es cs false).blk β id=some k:=by simp[Chunk.blk,q1]
         have hfz:Fz.close β Φ H w n keep k=some (.cells cur e (0,0)):=Fz.LU h (by omega) h2 h1 hbk q2;have hvs:=rM ih hcs ((q6.drop off).take (m*es));have hfr:bJ cs' (Fz.close β Φ H w n keep) cur off:=by
          refine U1 hvs hok.1 (fun j u hj=>?_);rw[List.getElem?_take]at hj;split at hj
          ·rw[List.getElem?_drop,List.getElem?_take]at hj
           split at hj
           ·simpa using hj
           ·cases hj
          ·cases hj
         have hnil:m=0->cs'=[]:=fun hm0=>by
          subst hm0;simp[bN]at hcs;exact hcs
         simp only[VR]at hv ⊢;rcases hv with⟨k',c',r1,r2⟩ | ⟨r1,r2,_⟩
         ·rw[← hh1,q1]at r1;cases r1
          rcases r2 with⟨r2,r3,r4⟩ | ⟨r2,ad,cap,r3,r4,r5⟩
          ·subst r2
           exact⟨_,_,r3,r4,.inr ⟨cur,e,(0,0),hfz,rfl,hfr⟩⟩
          ·refine⟨ad,cap,r3,r4,?_⟩
           by_cases hm0:m=0
           ·exact .inl (hnil hm0)
           ·rw[r5 hm0];exact .inr ⟨cur,e,(0,0),hfz,rfl,hfr⟩
         ·rw[r2]at hh1
          rw[hh1,r1]at q1;cases q1
        ·cases hf
       ·cases hf
      ·cases hf
    ·cases hf
  case agg cs=>
   simp only[fz]at hf;split at hf
   ·rename_i cs' hcs
    cases hf
    simp only[VR]at hv ⊢;obtain⟨vs,e,hv⟩:=hv;exact⟨vs,e,rM ih hcs hv⟩
   ·cases hf
  case tup cs=>
   simp only[fz]at hf;split at hf
   ·rename_i cs' hcs
    cases hf
    simp only[VR]at hv ⊢;obtain⟨vs,e,hv⟩:=hv;exact⟨vs,e,rM ih hcs hv⟩
   ·cases hf
  case func g ps cs=>
   simp only[fz]at hf;split at hf
   ·rename_i ps' cs' hps hcs
    cases hf
    simp only[VR]at hv ⊢;obtain⟨us,vs,e,hu,hv⟩:=hv;exact⟨us,vs,e,rM ih hps hu,rM ih hcs hv⟩
   ·cases hf
  case rptr id hw off=>
   simp only[fz]at hf;split at hf
   ·rename_i hlt;cases hf;exact stay _ (by simpa [D.under,Nat.blt_eq]using hlt) hv
   ·cases hf
  case yield id=>
   simp only[fz]at hf;split at hf
   ·rename_i hlt;cases hf;exact stay _ (by simpa [D.under,Nat.blt_eq]using hlt) hv
   ·cases hf
  case mp id=>
   simp only[fz]at hf;split at hf
   ·rename_i hlt;cases hf;exact stay _ (by simpa [D.under,Nat.blt_eq]using hlt) hv
   ·cases hf
  case undef=>simp[fz]at hf
  all_goals (simp only[fz,Option.some.injEq]at hf;subst hf;exact stay _ rfl hv)
def E6(tmps:Array Value):ResultVar->Sem Value
 | .tmp t=>pure (tmps.getD t undef)
 | .cell a t=>do loadVar t (← asAddr (tmps.getD a undef))
theorem Hn(h:WR P G β Φ b H w)(he:ER β Φ env a.tmps):∀ {rs:List ResultVar} {ars:List ARes} {ds:List D},rY P rs=some ars->kI env H ars=some ds->∃vs,(rs.mapM (E6 a.tmps)).run P w=.ok vs w∧aE ds β Φ vs
 | [],ars,ds,hc,hr=>by
  simp[rY]at hc;subst hc;simp[kI]at hr;subst hr;exact⟨[],by simp,rfl⟩
 | .tmp t::r,ars,ds,hc,hr=>by
  simp only[rY]at hc;split at hc
  ·rename_i l hl
   cases hc
   simp only[kI]at hr;split at hr
   ·rename_i ds' hd
    cases hr
    obtain⟨vs,q1,q2⟩:=Hn h he hl hd;exact⟨a.tmps.getD t undef::vs,by simp[List.mapM_cons,E6,q1],⟨_,_,rfl,he t,q2⟩⟩
   ·cases hr
  ·cases hc
 | .cell x t::r,ars,ds,hc,hr=>by
  simp only[rY]at hc;split at hc
  ·rename_i ag s l h1 h2 hl
   cases hc
   simp only[kI]at hr;split at hr
   ·rename_i cs hcs
    split at hr
    ·rename_i d hd
     split at hr
     ·rename_i ds' hds
      cases hr
      obtain⟨vs,q1,q2⟩:=Hn h he hl hds;obtain⟨ad,us,g1,g2,g3⟩:=LV h (he x) hcs;obtain⟨v,g4,g5⟩:=FF (P:=P) h1 h2 g2 g3 hd;exact⟨v::vs,by simp[List.mapM_cons,E6,g1,asAddr,g4,q1],⟨_,_,rfl,g5,q2⟩⟩
     ·cases hr
    ·cases hr
   ·cases hr
  ·cases hc
theorem Hx {ds:List D}{vs:List Value}(h:aE ds β Φ vs):VR (pack ds) β Φ (if h:vs.toArray.size=1 then vs.toArray[0]else .tuple vs.toArray):=by
 have hl:=aE.length h
 cases ds with
 | nil=>
  simp only[aE]at h;subst h;simp[pack,VR,aE]
 | cons d r=>
  cases r with
  | nil=>
   simp only[aE]at h;obtain⟨v,r,rfl,h1,rfl⟩:=h;simpa [pack]using h1
  | cons d' r'=>
   have hne:¬vs.toArray.size=1:=by simp at hl ⊢;omega
   rw[dif_neg hne];simp only[pack,VR];exact⟨vs,rfl,h⟩
theorem XX {fn:Func}{vs:List Value}{w:World}(h:(fn.results.toList.mapM (E6 a.tmps)).run P w=.ok vs w):(results fn a.tmps).run P w=.ok (if h:vs.toArray.size=1 then vs.toArray[0]else .tuple vs.toArray) w:=by
 have hf:results fn a.tmps=(do let vs ← fn.results.mapM (E6 a.tmps);pure (if h:vs.size=1 then vs[0]else .tuple vs)):=by
  unfold results;congr 1
 rw[hf,Array.mapM_eq_mapM_toList];simp[h]
end
end Go.AM
namespace Go.AM
def DR(P:Program)(β:Bk):List Nat->List Deferred->Prop
 | l,[]=>l=[]
 | l,d::ds=>(Fh P d∧DR P β l ds)∨∃id r k c,l=id::r∧d= { target:=.collected k,args:= #[] } ∧β id 0=some (k,c)∧DR P β r ds
theorem DR.more {P:Program}{β β':Bk}{Φ Φ' :Fz}{n:Nat}(hm:More n β Φ β' Φ'):∀ {ds:List Deferred} {l:List Nat},(∀id∈l,id<n)->DR P β l ds->DR P β' l ds
 | [],l,_,h=>h
 | d::ds,l,hl,h=>by
  rcases h with⟨h1,h2⟩ | ⟨id,r,k,c,rfl,h1,h2,h3⟩
  ·exact .inl ⟨h1,DR.more hm hl h2⟩
  ·exact .inr ⟨id,r,k,c,rfl,h1,hm.some _ _ _ (hl id (by simp)) h2,DR.more hm (fun i hi=>hl i (by simp[hi])) h3⟩
theorem DR.harmless {P:Program}{β:Bk}{l:List Nat}{ds:List Deferred}(h:DR P β l ds):∀ {hs:List Deferred},(∀d∈hs,Fh P d)->DR P β l (hs++ds)
 | [],_=>h
 | d::hs,hh=>.inl ⟨hh d (by simp),DR.harmless h (fun x hx=>hh x (by simp[hx]))⟩
section
variable {P:Program}{G:Nat->Option (List D)}{β β0:Bk}{Φ Φ0 :Fz}{b n N:Nat}{B:Nat->Prop}{H H0:aA}{w w0:World}{keep:Option Nat}{env:Env}{a:Act}
theorem iB.set {b id:Nat}{c c':Chunk}(h:iB b H)(hc:H[id]? =some c)(hu:∀n,c.aD n->c'.aD n):iB b (H.set id c'):=by
 refine⟨by simpa using h.1,fun i x hx=>?_⟩;rw[List.length_set];rcases kG hx with⟨h1,h2⟩ | ⟨h1,h2,h3⟩
 ·exact h.2 i x h2
 ·subst h1;subst h2;exact hu _ (h.2 _ _ hc)
theorem WQ {k:Nat}{w:World}(h:w.heap[k]? =some (.deferred (some []))):(Instr.takeDeferred k).run P w=.ok [] { w with heap:=w.heap.setIfInBounds k (.deferred none) } :=by
 simp[Instr.takeDeferred,getObj,setObj,Sem.run,Sem.run_bind,h,Result.andThen]
theorem Gy {w:World}{k:Nat}(o:Obj)(hk:k<w.heap.size):Turn w { w with heap:=w.heap.setIfInBounds k o } k o:=
 ⟨rfl,rfl,rfl,by simp,by simp[hk],fun i hi=>by simp[Array.getElem?_setIfInBounds,Ne.symm hi]⟩
theorem M9 {f:Nat}(he:Fk P f)(args:Array Value)(w:World):(callFunc f args).run P w=.ok (.enter f args) w:=by
 obtain⟨fn,h1,h2,h3⟩:=he;unfold callFunc;have h2':¬fn.name= "runtime.NumGoroutine" :=by simpa using h2
 have h3':¬fn.body=none:=by intro e;rw[e]at h3;cases h3
 simp[Sem.run_bind,h1,h2',h3',program,Sem.run]
theorem Ext.zEA {b0:Nat}{β:Bk}{Φ :Fz}{H:aA}{w w':World}(hw:WR P G β Φ b0 H w)(h1:w.heap.size<=w'.heap.size∧∀k,k<w.heap.size->w'.heap[k]? =w.heap[k]?)(h2:w'.os=w.os)(h3:w'.tape=w.tape)(h4:w'.output=w.output):Ext β Φ H w β Φ H w':=
 ⟨More.refl _ _ _,Nat.le_refl _,h2,h3,h4,h1.1,fun k hk _=>h1.2 k hk,fun _ h=>.inl h,fun _ _ h=>.inl h⟩
theorem WR.grown {b0:Nat}{β:Bk}{Φ :Fz}{H:aA}{w:World}(h:WR P G β Φ b0 H w){w':World}(hh:w.heap.size<=w'.heap.size∧∀k,k<w.heap.size->w'.heap[k]? =w.heap[k]?):WR P G β Φ b0 H w':=by
 refine⟨fun id c hc=>?_,fun k o hk=>?_,h.apart,h.inj,h.dom,h.base,h.ids,h.glob⟩
 ·exact(h.ch id c hc).more (h.aD hc) (gZ hc) (More.refl _ _ _) (fun _=>rfl) (fun k hk=>hh.2 k (h.lD hc hk))
 ·have h1:=h.fz k o hk
  rw[hh.2 k (Array.getElem?_eq_some_iff.1 h1).1];exact h1
theorem Gm {fn:Func}{tmps:Array Value}{R:Ending->World->Prop}:∀(ds:List Deferred) (l:List Nat) (H H':aA) (w:World),WS P G β Φ B H w->Ext β0 Φ0 H0 w0 β Φ H w->DR P β l ds->lH H l=some H'->
  (∀w',WS P G β Φ B H' w'->Ext β0 Φ0 H0 w0 β Φ H' w'->LeavesInM Fence.wide 0 P fn tmps R [] .returning w')->LeavesInM Fence.wide 0 P fn tmps R ds .returning w
 | [],l,H,H',w,hw,hx,hd,ht,hk=>by
  simp only[DR]at hd;subst hd;simp[lH]at ht;subst ht;exact hk w hw hx
 | d::ds,l,H,H',w,hw,hx,hd,ht,hk=>by
  rcases hd with⟨⟨f,vs,us,rfl,hq1,hq2⟩,hd⟩ | ⟨id,r,k,c,rfl,rfl,h1,h2⟩
  ·refine⟨by simp,.inr ⟨fun h=>by simp[Fence.wide]at h,.func f,vs,f,us++vs,rfl,M9 hq1 _ _,fun _ _=>trivial,CallsDIn.mono (hq2 _ w) ?_⟩⟩
   rintro e u' w' ⟨⟨v,rfl⟩,hu,q1,q2,q3,q4⟩;show LeavesInM Fence.wide 0 P fn tmps R ds (settle u') w';rw[hu];exact Gm ds l H H' w' ⟨hw.wr.grown q1,hw.ids⟩ (hx.trans (Ext.zEA hw.wr q1 q2 q3 q4)) hd ht hk
  ·simp only[lH]at ht
   split at ht
   ·rename_i hc
    obtain⟨k',c',h3,h4⟩:=hw.wr.ch id _ hc;rw[h1]at h3;cases h3;simp only[Bool.false_eq_true,if_false]at h4;have hlt:k<w.heap.size:=(Array.getElem?_eq_some_iff.1 h4).1;have hturn:=Gy (w:=w) (.deferred none) hlt;have hbk:(Chunk.dfr false).blk β id=some k:=by simp[Chunk.blk,h1]
    obtain⟨g1,g2⟩:=hw.wr.turn (c':=.dfr true) hc hbk hturn (fun _ _ _=>rfl) (fun _ _ h=>h) (fun h=>h) ⟨k,c,h1,by simpa using hturn.here⟩ (by simp[Chunk.blk,h1]) trivial;refine⟨by simp,.inl ⟨k,_,rfl,WQ h4,?_⟩⟩;exact Gm ds r _ H' _ ⟨g1,fun b hb=>(hw.ids b hb).set hc (fun _ _=>trivial)⟩ (hx.trans g2) h2 ht hk
   ·cases ht
theorem unders_take {b:Nat}(hb:b<=n)(h:iB b H)(hn:iB n H){ck:Option Chunk}(hck:∀c,ck=some c->c.aD n):iB b (kM H n ck):=by
 have htl:(H.take n).length=n:=by have:=hn.1;simp;omega
 have hll:n<=(kM H n ck).length:=by
  cases ck with
  | none=>have:=hn.1;simp[kM];omega
  | some c=>have:=hn.1;simp[kM];omega
 refine⟨by omega,fun id c hc=>?_⟩;have old:(H.take n)[id]? =some c->c.aD (if id<b then b else(kM H n ck).length):=fun hc=>by
  obtain⟨h1,h2⟩:=BG hc;have g1:=h.2 id c h2;have g2:=hn.2 id c h2;split
  ·rename_i h3;rwa [if_pos h3]at g1
  ·rw[if_pos h1]at g2;exact Chunk.dI hll g2
 cases ck with
 | none=>exact old hc
 | some c0=>
  rcases gU hc with h1 | ⟨h1,h2⟩
  ·exact old h1
  ·rw[htl]at h1
   subst h2;rw[if_neg (by omega)];exact Chunk.dI hll (hck _ rfl)
theorem Z2 {n:Nat}{ds:List D}(h:D.aD n ds=true):(pack ds).under n=true:=by
 cases ds with
 | nil=>rfl
 | cons d r=>
  cases r with
  | nil=>simpa [pack,D.aD]using h
  | cons d' r'=>simpa [pack,D.under]using h
def U2(P:Program)(G:gT)(B:Nat->Prop)(β0:Bk)(Φ0 :Fz)(H0:aA)(w0:World)(d:D)(H':aA)(v:Value)(w':World):Prop:=
 ∃β' Φ',VR d β' Φ' v∧WS P G β' Φ' B H' w'∧Ext β0 Φ0 H0 w0 β' Φ' H' w'
theorem zIf(hw:WS P G β Φ B H w)(hn:iB n H)(hB:∀b',B b'->b'<=n)(hx:Ext β0 Φ0 H0 w0 β Φ H w)(h0:H0.length=n){ds:List D}{vs:List Value}(hv:aE ds β Φ vs){d:D}{H':aA}(h:nT H n ds=some (d,H')):
  UN H'.length d∧U2 P G B β0 Φ0 H0 w0 d H' (if h:vs.toArray.size=1 then vs.toArray[0]else .tuple vs.toArray) w:=by
 unfold nT at h;split at h
 ·rename_i ds' hds
  split at h
  ·rename_i hu
   cases h
   have hz:Zs H H none:=fun i c hc _=>⟨hc,by simp⟩
   have hvs:=rM (JP hw.wr hz 64) hds hv;obtain⟨g1,g2⟩:=hw.wr.close (keep:=none) hn hx h0 (ck:=none) (.inl ⟨rfl,rfl⟩);have hlen:(H.take n).length=n:=by have:=hn.1;simp;omega
   refine⟨.inr (by rw[hlen];exact Z2 hu),_,_,Hx hvs,⟨g1,fun b hb=>?_⟩,g2⟩;exact unders_take (hB b hb) (hw.ids b hb) hn (ck:=none) (fun c hc=>by cases hc)
  ·cases h
 ·cases h
theorem zIe(hl:n<=H.length){ds:List D}{d:D}{H':aA}(h:nT H n ds=some (d,H')):UN H'.length d:=by
 unfold nT at h;split at h
 ·split at h
  ·rename_i hu
   cases h
   have hlen:(H.take n).length=n:=by simp;omega
   exact .inr (by rw[hlen];exact Z2 hu)
  ·cases h
 ·cases h
theorem BF:∀ {l:List Nat} {H H':aA},lH H l=some H'->H'.length=H.length
 | [],H,H',h=>by simp[lH]at h;rw[h]
 | id::r,H,H',h=>by
  simp only[lH]at h;split at h
  ·rw[BF h,List.length_set]
  ·cases h
theorem zOw {n:Nat}{ds:List D}{j m:Nat}{hw:Nat}(h:D.aD n ds=true):D.aD (n+1) (ds.set j (.osl n hw 0 m))=true:=
 D.Gf (D.dI _ (Nat.le_succ n) h) (by simp[D.under,Nat.blt_eq])
theorem zH1 {id:Nat}:Zs (H.set id (.dfr true)) H (some id):=by
 intro i c hc hne;rcases kG hc with⟨h1,h2⟩ | ⟨_,h2,_⟩
 ·exact⟨h2,by simpa using fun e=>h1 e.symm⟩
 ·exact absurd h2 (hne true)
theorem aE.CN {cs:List D}{vs:List Value}(h:aE cs β Φ vs){i:Nat}{d:D}{v:Value}(hv:VR d β Φ v):aE (cs.set i d) β Φ (vs.set i v):=by
 induction cs generalizing vs i with
 | nil=>simp only[aE]at h;subst h;simp[aE]
 | cons c r ih=>
  simp only[aE]at h;obtain⟨u,us,rfl,h1,h2⟩:=h
  cases i with
  | zero=>exact⟨_,_,rfl,hv,h2⟩
  | succ i=>exact⟨_,_,rfl,h1,ih h2⟩
theorem zId(hw:WS P G β Φ B H w)(hn:iB n H)(hB:∀b',B b'->b'<=n)(hx:Ext β0 Φ0 H0 w0 β Φ H w)(h0:H0.length=n)(he:ER β Φ env a.tmps){fn:Func}{af:AFunc}{dfs:List Nat}(hrs:rY P fn.results.toList=some af.results)
  (hdr:DR P β dfs a.defers) {d:D} {H':aA} (h:finish af n ⟨env,H,dfs⟩=some (d,H')):
  UN H'.length d∧LeavesInM Fence.wide 0 P fn a.tmps (ret (U2 P G B β0 Φ0 H0 w0 d H')) a.defers .returning w:=by
 unfold finish at h;split at h
 ·cases h
 ·rename_i H1 ht
  simp only at ht h;split at h
  ·cases h
  ·rename_i ds hds
   have key:UN H'.length d∧∀w',WS P G β Φ B H1 w'->iB n H1->Ext β0 Φ0 H0 w0 β Φ H1 w'->∀vs,aE ds β Φ vs->U2 P G B β0 Φ0 H0 w0 d H' (if h:vs.toArray.size=1 then vs.toArray[0]else .tuple vs.toArray) w':=by
    have hl1:n<=H1.length:=by rw[BF ht];exact hn.1
    have plain:nT H1 n ds=some (d,H')->UN H'.length d∧∀w',WS P G β Φ B H1 w'->iB n H1->Ext β0 Φ0 H0 w0 β Φ H1 w'->∀vs,aE ds β Φ vs->U2 P G B β0 Φ0 H0 w0 d H' (if h:vs.toArray.size=1 then vs.toArray[0]else .tuple vs.toArray) w':=fun h=>
     ⟨zIe hl1 h,fun w' hw' hn' hx' vs hv=>(zIf hw' hn' hB hx' h0 hv h).2⟩
    split at h
    ·exact plain h
    ·rename_i j hkeep
     split at h
     ·split at h
      ·rename_i hun
       cases h
       exact⟨.inr (Z2 hun),fun w' hw' hn' hx' vs hv=>⟨β, Φ,Hx hv,hw',hx'⟩⟩
      ·cases h
     split at h
     ·rename_i id hw0 m hj
      split at h
      ·exact plain h
      ·rename_i hge
       split at h
       ·rename_i es cs nil hc
        split at h
        ·rename_i hcu
         split at h
         ·rename_i ds' hds'
          split at h
          ·rename_i hok
           cases h
           simp only[Bool.and_eq_true,Nat.blt_eq]at hok;have hlen:(H1.take n++[Chunk.row es cs nil]).length=n+1:=by simp;omega
           refine⟨.inr (by rw[hlen];exact Z2 (zOw hok.1)),fun w' hw' hn' hx' vs hv=>?_⟩;obtain⟨g1,g2⟩:=hw'.wr.close (keep:=some id) hn' hx' h0 (ck:=some (.row es cs nil)) (.inr ⟨id,_,es,cs,nil,rfl,rfl,by omega,hc,rfl,hcu⟩);obtain⟨v,q1,q2⟩:=aE.get hv hj;have hv1:aE (ds.set j .nilsl) β Φ (vs.set j (.slice none 0 0)):=aE.CN hv rfl;have hv2:=rM (JP hw'.wr zH1 64) hds' hv1;have hbn:∀u,Bk.close β n (some id) n u=β id u:=fun u=>by unfold Bk.close;simp
           have hv3:VR (.osl n hw0 0 m) (Bk.close β n (some id)) (Fz.close β Φ H1 w' n (some id)) v:=by
            simp only[VR]at q2 ⊢;simp only[hbn];exact q2
           have hv4:=aE.CN hv2 (i:=j) hv3;have hjl:j<vs.length:=(List.getElem?_eq_some_iff.1 q1).1;have hvj:vs[j]=v:=(List.getElem?_eq_some_iff.1 q1).2;have hback:(vs.set j (.slice none 0 0)).set j v=vs:=by rw[List.set_set, ← hvj,List.set_getElem_self]
           rw[hback]at hv4;refine⟨_,_,Hx hv4,⟨g1,fun b hb=>?_⟩,g2⟩;exact unders_take (hB b hb) (hw'.ids b hb) hn' (ck:=some (.row es cs nil)) (fun c hc=>by cases hc;exact hcu)
          ·cases h
         ·cases h
        ·cases h
       ·cases h
     ·exact plain h
   refine⟨key.1,Gm (B:=fun b'=>B b'∨b'=n) a.defers dfs H H1 w ⟨hw.wr,fun b' hb=>?_⟩ hx hdr ht fun w' hw' hx'=>?_⟩
   ·rcases hb with hb | rfl
    ·exact hw.ids b' hb
    ·exact hn
   ·obtain⟨vs,q1,q2⟩:=Hn hw'.wr he hrs hds
    exact⟨_,XX q1,key.2 w' ⟨hw'.wr,fun b' hb=>hw'.ids b' (.inl hb)⟩ (hw'.ids n (.inr rfl)) hx' vs q2⟩
end
end Go.AM
namespace Go.AM
def B8(β:Bk)(H:aA):Option Nat->Option Nat->Prop
 | none,none=>True
 | some l,some k=>(∃c,β l 0=some (k,c))∧l<H.length
 | _,_=>False
structure CS(P:Program)(G:gT)(N:Nat)(B:Nat->Prop)(β0:Bk)(Φ0 :Fz)(H0:aA)(w0:World)(rnd r:Option Nat)(β:Bk)(Φ :Fz)(s:St)(a:Act)(w:World):Prop where
 ws:WS P G β Φ B s.H w
 er:ER β Φ s.env a.tmps
 eu:EU s.H.length s.env
 size:N<=a.tmps.size
 dr:DR P β s.dfs a.defers
 dlt:∀id∈s.dfs,id<s.H.length
 ext:Ext β0 Φ0 H0 w0 β Φ s.H w
 rnd:B8 β s.H rnd r
def Mb:Ex->Exit
 | .normal=>.normal
 | .exit id=>.exit id
 | .ret=>.ret
def Enters(P:Program)(call:cT):Prop:=
 ∀ {f:Nat} {pre caps:List D} {l:Nat} {H:aA} {r:D×aA},call (.func f pre caps) [.yield l] H=some r->Fk P f
section
variable {P:Program}{G:Nat->Option (List D)}{β β0:Bk}{Φ Φ0 :Fz}{b n N:Nat}{B:Nat->Prop}{H H0:aA}{w w0:World}{keep:Option Nat}{env:Env}{a:Act}{rnd r:Option Nat}
theorem B8.more {β':Bk}{Φ' :Fz}{H':aA}(h:B8 β H rnd r)(hm:More H.length β Φ β' Φ')(hl:H.length<=H'.length):B8 β' H' rnd r:=by
 cases rnd <;> cases r <;> first | exact h | skip
 obtain⟨⟨c,h1⟩,h2⟩:=h;exact⟨⟨c,hm.some _ _ _ h2 h1⟩,by omega⟩
theorem zEQ(hw:WS P G β Φ B H w):∃β',WS P G β' Φ B (H++[.dfr false]) (w.alloc (.deferred (some [])))∧Ext β Φ H w β' Φ (H++[.dfr false]) (w.alloc (.deferred (some [])))∧β' H.length 0=some (w.heap.size,0):=by
 have hg:=Grow.alloc w (.deferred (some []));obtain⟨g1,g2⟩:=hw.wr.G2 (v:=0) (cap:=0) hg (c:=.dfr false) ⟨w.heap.size,0,Bk.fZ _ _ _ _,by simpa using hg.new⟩ (by simp[Chunk.blk,Bk.fZ]) trivial;exact⟨_,⟨g1,fun b hb=>(hw.ids b hb).append trivial⟩,g2,Bk.fZ _ _ _ _⟩
theorem HK(hw:WS P G β Φ B H w){L:ALoop}{rec:Loop}(hu:EU H.length L.env)(hd:L.dfr<H.length)(hl:LoopRel P β Φ L rec):
  ∃β',WS P G β' Φ B (H++[.loop L]) (w.alloc (.loop rec))∧Ext β Φ H w β' Φ (H++[.loop L]) (w.alloc (.loop rec))∧β' H.length 0=some (w.heap.size,0):=by
 have hg:=Grow.alloc w (.loop rec);have hm:More H.length β Φ (Bk.put β H.length 0 (w.heap.size,0)) Φ :=
  ⟨fun id u x hi hx=>by rw[Bk.kJ (by omega)];exact hx,fun id hi hx=>by rw[Bk.kJ (by omega)];exact hx,fun _ _ h=>h⟩
 have hun:(Chunk.loop L).aD H.length:=⟨hu,hd⟩;obtain⟨g1,g2⟩:=hw.wr.G2 (v:=0) (cap:=0) hg (c:=.loop L) ⟨w.heap.size,0,rec,Bk.fZ _ _ _ _,by simpa using hg.new,hl.more hun hm⟩ (by simp[Chunk.blk,Bk.fZ]) (Chunk.dI (by omega) hun);exact⟨_,⟨g1,fun b hb=>(hw.ids b hb).append (Chunk.dI (by omega) hun)⟩,g2,Bk.fZ _ _ _ _⟩
theorem CS.next {s:St}(hs:CS P G N B β0 Φ0 H0 w0 rnd r β Φ s a w){β':Bk}{Φ' :Fz}{H':aA}{w':World}(hw:WS P G β' Φ' B H' w')(hx:Ext β Φ s.H w β' Φ' H' w'):CS P G N B β0 Φ0 H0 w0 rnd r β' Φ' ⟨s.env,H',s.dfs⟩ a w':=
 ⟨hw,hs.er.more hs.eu hx.more,hs.eu.le hx.len,hs.size,hs.dr.more hx.more hs.dlt,fun id hid=>Nat.lt_of_lt_of_le (hs.dlt id hid) hx.len,hs.ext.trans hx,hs.rnd.more hx.more hx.len⟩
theorem uU {l:Nat}{rec:Loop}(h:w.heap[l]? =some (.loop rec)):(Instr.getLoop l).run P w=.ok rec w:=by
 simp[Instr.getLoop,getObj,Sem.run,Sem.run_bind,h,Result.andThen]
theorem FE {l:Nat}{rec:Loop}(h:w.heap[l]? =some (.loop rec))(o:Obj):(setObj l o).run P w=.ok () { w with heap:=w.heap.setIfInBounds l o } :=by
 simp[setObj,Sem.run,h]
theorem zI1 {s:St}(hs:CS P G N B β0 Φ0 H0 w0 rnd r β Φ s a w)(hN:N<65535){ps:Array Tmp}{asg body:Code}{x y:ACode}(hf:zH N ps.toList=true)(hx:CR P N asg x)(hy:CR P N body y){H1:aA}{dfs1:List Nat}(h:rR rnd s ps.toList x y=some (H1,dfs1))(fn:FuncId):
  ∃l mark w1 β',(Instr.enterLoop fn a.tmps ps asg body r).run P w=.ok (l,mark) w1∧CS P G N B β0 Φ0 H0 w0 rnd r β' Φ ⟨s.env,H1,dfs1⟩ { a with defers:=mark++a.defers } w1∧β' (H1.length-1) 0=some (l,0)∧0<H1.length:=by
 cases rnd with
 | none=>
  simp only[rR,Option.some.injEq,Prod.mk.injEq]at h;obtain⟨rfl,rfl⟩:=h
  cases r with
  | some k=>exact absurd hs.rnd (by simp[B8])
  | none=>
   obtain⟨β1,a1,a2,a3⟩:=zEQ hs.ws;have hc1:=hs.next a1 a2;obtain⟨β2,b1,b2,b3⟩:=HK a1 (L:=⟨s.env,ps.toList,x,y,.ready,none,s.H.length⟩) (rec:= { state:=.ready,pending:=none,fn,tmps:=a.tmps,params:=ps,assign:=asg,body,defers:=w.heap.size }) hc1.eu (by simp)
    ⟨rfl,rfl,rfl,⟨N,hN,hs.size,hf,hx,hy⟩,hc1.er,0,a3⟩
   have hc2:=hc1.next b1 b2;refine⟨(w.alloc (.deferred (some []))).heap.size,[{ target:=.collected w.heap.size,args:= #[] }],(w.alloc (.deferred (some []))).alloc (.loop { state:=.ready,pending:=none,fn,tmps:=a.tmps,params:=ps,assign:=asg,body,defers:=w.heap.size }),β2,?_,?_,?_,by simp⟩
   ·rfl
   ·refine⟨hc2.ws,hc2.er,hc2.eu,hc2.size,?_,fun id hid=>?_,hc2.ext,hc2.rnd⟩
    ·exact .inr ⟨s.H.length,s.dfs,w.heap.size,0,rfl,rfl,b2.more.some _ _ _ (by simp) a3,hc2.dr⟩
    ·rcases List.mem_cons.1 hid with rfl | hid
     ·simp
     ·exact hc2.dlt id hid
   ·simpa using b3
 | some l=>
  simp only[rR]at h;split at h
  ·rename_i L hL
   simp only[Option.some.injEq,Prod.mk.injEq]at h;obtain⟨rfl,rfl⟩:=h
   cases r with
   | none=>exact absurd hs.rnd (by simp[B8])
   | some k=>
    obtain⟨⟨c0,hr1⟩,hr2⟩:=hs.rnd;obtain⟨k',c,rec,h1,h2,h3⟩:=hs.ws.wr.ch l _ hL;rw[hr1]at h1;cases h1;have hun:=hs.ws.wr.aD hL;obtain⟨c1,hd⟩:=h3.dfr;obtain⟨β2,b1,b2,b3⟩:=HK hs.ws (L:=⟨s.env,ps.toList,x,y,.ready,none,L.dfr⟩) (rec:= { state:=.ready,pending:=none,fn,tmps:=a.tmps,params:=ps,assign:=asg,body,defers:=rec.defers }) hs.eu hun.2
     ⟨rfl,rfl,rfl,⟨N,hN,hs.size,hf,hx,hy⟩,hs.er,c1,hd⟩
    have hc2:=hs.next b1 b2;refine⟨w.heap.size,[],w.alloc (.loop { state:=.ready,pending:=none,fn,tmps:=a.tmps,params:=ps,assign:=asg,body,defers:=rec.defers }),β2,?_,⟨hc2.ws,hc2.er,hc2.eu,hc2.size,hc2.dr,hc2.dlt,hc2.ext,hc2.rnd⟩,by simpa using b3,by simp⟩;simp[Instr.enterLoop,uU h2,Sem.run_bind,Result.andThen]
  ·cases h
theorem PW {F:Fence}{m:Nat}{c:Code}{Q:Exit->Act->World->Prop}(I:Nat->Act->World->Prop)(zero:∀a w,¬I 0 a w)
  (round:∀k a w,I (k+1) a w->c.wpIn F m P (Exit.then (I k) Q) a w) {k:Nat} {a:Act} {w:World} (h₀:I k a w):(Code.loop c).wpIn F m P Q a w:=by
 intro b kk cs hro hb hr;have key:∀k a w,I k a w->
   ∃e a' w',Q e a' w'∧ArrivesIn (Machine.fenced P F) P (lone (b.atR a (.code c:: .inLoop c::kk)) cs w) b kk cs e a' w':=by
  intro k
  induction k with
  | zero=>intro a w hI;exact absurd hI (zero a w)
  | succ k ih=>
   intro a w hI;obtain⟨e,a₁,w₁,hq,harr⟩:=round k a w hI b (.inLoop c::kk) cs hro hb hr
   cases e with
   | normal=>
    obtain⟨e₂,a₂,w₂,hq₂,harr₂⟩:=ih a₁ w₁ hq;exact⟨e₂,a₂,w₂,hq₂,.of_steps (StepsIn.trans harr (.one (fenced_calm hb hr rfl) stepR_inLoop)) harr₂⟩
   | exit id=>exact⟨_,a₁,w₁,hq,.pass (x:=.inLoop c) rfl (fun _ _=>.inl (by simp)) harr⟩
   | goto l=>exact⟨_,a₁,w₁,hq,.pass (x:=.inLoop c) rfl (fun _ _=>.inl (by simp)) harr⟩
   | ret=>exact⟨_,a₁,w₁,hq,.pass (x:=.inLoop c) rfl (fun _ _=>.inl (by simp)) harr⟩
   | panic ch=>exact⟨_,a₁,w₁,hq,.pass (x:=.inLoop c) rfl (fun _ _=>.inl (by simp)) harr⟩
   | outgrown=>exact⟨_,a₁,w₁,hq,.pass (x:=.inLoop c) rfl (fun _ _=>.inl (by simp)) harr⟩
 obtain⟨e,a',w',hq,harr⟩:=key k a w h₀;exact⟨e,a',w',hq,.of_steps (.one (fenced_calm hb hr rfl) stepR_loop) harr⟩
end
end Go.AM
namespace Go.AM
section
variable {P:Program}{G:Nat->Option (List D)}{β β0:Bk}{Φ Φ0 :Fz}{b n N:Nat}{B:Nat->Prop}{H H0:aA}{w w0:World}{keep:Option Nat}{env:Env}{a:Act}{rnd r:Option Nat}{call:cT}
theorem CS.region {s:St}(hs:CS P G N B β0 Φ0 H0 w0 rnd r β Φ s a w):RS P G N B a.defers β Φ s.H w (fun _=>none) β Φ s.env s.H a w:=
 ⟨hs.ws,hs.er,hs.eu,hs.size,⟨[],(by simp),rfl⟩,Ext.refl _ _ _ _,fun t s k hk=>(by cases hk),fun t t' s s' k hk=>(by cases hk)⟩
theorem CS.after {s:St}(hs:CS P G N B β0 Φ0 H0 w0 rnd r β Φ s a w){κ:Nat->Option (Nat×Nat)}{β':Bk}{Φ' :Fz}{env':Env}{H':aA}{a':Act}{w':World}(h:RS P G N B a.defers β Φ s.H w κ β' Φ' env' H' a' w'):CS P G N B β0 Φ0 H0 w0 rnd r β' Φ' ⟨env',H',s.dfs⟩ a' w':=
 ⟨h.ws,h.er,h.eu,h.size,(by obtain⟨hs',q1,q2⟩:=h.dfr;rw[q2];exact(hs.dr.more h.ext.more hs.dlt).harmless q1),fun id hid=>Nat.lt_of_lt_of_le (hs.dlt id hid) h.ext.len,hs.ext.trans h.ext,hs.rnd.more h.ext.more h.ext.len⟩
theorem zG0 {j:Option AJump}{Q:Exit->Act->World->Prop}{m:Nat}(h:Q (Mb (iO j)) a w):match Lb j with | none=>Q .normal a w | some c=>c.wpIn (gN r) m P Q a w:=by
 cases j with
 | none=>exact h
 | some j=>
  cases j with
  | ret=>exact wpIn_ret h
  | exit id=>exact wpIn_exit h
theorem zMl {s:LState}(h:s≠ .busy):(s.LJ == LoopState.busy)=false:=by
 cases s <;> first | rfl | exact absurd rfl h
theorem zI7 {id l:Nat}{L:ALoop}(hw:WS P G β Φ B H w)(hc:H[id]? =some (.loop L))(hl:∃c,β id 0=some (l,c))(hb:L.st≠ .busy):
  ∃w',(Instr.endLoop l).run P w=.ok (Lb L.pend) w'∧WS P G β Φ B (H.set id (.loop { L with st:=.exhausted })) w'∧Ext β Φ H w β Φ (H.set id (.loop { L with st:=.exhausted })) w':=by
 obtain⟨k,c,rec,h1,h2,h3⟩:=hw.wr.ch id _ hc;obtain⟨c',hl⟩:=hl;rw[h1]at hl;cases hl;have hlt:l<w.heap.size:=(Array.getElem?_eq_some_iff.1 h2).1;have hturn:=Gy (w:=w) (.loop { rec with state:=.exhausted }) hlt;have hun:=hw.wr.ids id _ hc;have hbk:(Chunk.loop L).blk β id=some l:=by simp[Chunk.blk,h1]
 obtain⟨g1,g2⟩:=hw.wr.turn (c':=.loop { L with st:=.exhausted }) hc hbk hturn (fun _ _ _=>rfl) (fun _ _ h=>h) (fun h=>h)
  ⟨l,_,_,h1,hturn.here,⟨rfl,h3.pend,h3.params,h3.code,h3.env,h3.dfr⟩⟩ (by simp[Chunk.blk,h1]) hun
 refine⟨_,?_,⟨g1,fun b hb=>(hw.ids b hb).set hc (fun n h=>h)⟩,g2⟩;simp only[Instr.endLoop,Sem.run_bind,uU h2,Result.andThen_ok];rw[if_neg (by rw[h3.state,zMl hb];simp)];simp[FE h2,h3.pend]
theorem HJ(pol:Nat->Nat->Option Pol)(i j f:Nat):yE pol i j≠some (.quiet f):=by
 unfold yE;split
 ·simp
 ·rename_i h;exact h f
theorem Mw(hsim:qQ P G call)(hen:Enters P call)(hN:N<65535)(hb:B b)(hB:∀b',B b'->b'<=b){m lf:Nat}:
  ∀(c:Code) {pol:Nat->Nat->Option Pol} (hq:∀i j f,pol i j=some (.quiet f)->r=none∧Quiet P f) {ac:ACode},fN P pol c=some ac->ac.fits N=true->∀ {Q:Exit->Act->World->Prop} {s s':St} {ex:Ex} {β:Bk} {Φ :Fz} {a:Act} {w:World},exec G b call lf rnd ac s=some (ex,s')->CS P G N B β0 Φ0 H0 w0 rnd r β Φ s a w->
   (∀β' Φ' a' w',CS P G N B β0 Φ0 H0 w0 rnd r β' Φ' s' a' w'->Q (Mb ex) a' w')->c.wpIn (gN r) m P Q a w:=by
 intro c
 induction c with
 | skip=>
  intro pol hq ac hc hf Q s s' ex β Φ a w he hs hQ;simp[fN]at hc;subst hc;simp[exec]at he;obtain⟨rfl,rfl⟩:=he;exact wpIn_skip (hQ _ _ _ _ hs)
 | region id ops draw=>
  intro pol hq ac hc hf Q s s' ex β Φ a w he hs hQ
  cases draw with
  | false=>
   simp only[fN]at hc;split at hc
   ·rename_i l hl
    split at hc
    ·rename_i hp
     cases hc
     simp only[exec]at he;split at he
     ·rename_i e h hr
      cases he
      exact XZ (by omega) hsim hb hB (hq id) hl hp hf hs.region hr fun β' Φ' κ' a' w' hr'=>hQ _ _ _ _ (hs.after hr')
     ·cases he
    ·cases hc
   ·cases hc
  | true=>
   simp only[fN]at hc;split at hc
   ·rename_i as has
    split at hc
    ·rename_i l hp
     cases hc
     simp only[exec]at he;split at he
     ·rename_i e h fut hr
      cases he
      exact YA (by omega) hsim hb hB (hq id) has hp hf hs.region hr fun β' Φ' κ' a' w' hr'=>hQ _ _ _ _ (hs.after hr')
     ·cases he
    ·cases hc
   ·cases hc
 | seq x y ihx ihy=>
  intro pol hq ac hc hf Q s s' ex β Φ a w he hs hQ;simp only[fN]at hc;split at hc
  ·rename_i ax ay hx hy
   cases hc
   simp only[ACode.fits,Bool.and_eq_true]at hf;simp only[exec]at he;split at he
   ·rename_i s1 h1
    exact wpIn_seq (ihx hq hx hf.1 h1 hs fun β' Φ' a' w' hs'=>ihy hq hy hf.2 he hs' hQ)
   ·rename_i hne
    refine wpIn_seq (ihx hq hx hf.1 he hs fun β' Φ' a' w' hs'=>?_);have:=hQ _ _ _ _ hs'
    cases ex with
    | normal=>exact absurd he (hne _)
    | exit id=>exact this
    | ret=>exact this
  ·cases hc
 | cond c x y ihx ihy=>
  intro pol hq ac hc hf Q s s' ex β Φ a w he hs hQ;simp only[fN]at hc;split at hc
  ·rename_i ca ax ay hca hx hy
   cases hc
   simp only[ACode.fits,Bool.and_eq_true]at hf;simp only[exec]at he;split at he
   ·rename_i t ht
    have hv:a.eval c=.bool t:=(ht ▸ bH hs.ws.wr hs.er hca:VR (.bool t) β Φ (a.eval c)).sA;refine wpIn_cond hv ?_
    cases t with
    | true=>simp only[if_true]at he ⊢;exact ihx hq hx hf.1 he hs hQ
    | false=>simp only[Bool.false_eq_true,if_false]at he ⊢;exact ihy hq hy hf.2 he hs hQ
   ·cases he
  ·cases hc
 | block id x ih=>
  intro pol hq ac hc hf Q s s' ex β Φ a w he hs hQ;simp only[fN]at hc;split at hc
  ·rename_i ax hx
   cases hc
   simp only[exec]at he;split at he
   ·rename_i id' s1 h1
    refine wpIn_block (ih hq hx hf h1 hs fun β' Φ' a' w' hs'=>?_);simp only[Mb,Exit.inBlock];split at he
    ·rename_i hid
     cases he
     rw[if_pos hid];exact hQ _ _ _ _ hs'
    ·rename_i hid
     cases he
     rw[if_neg hid];exact hQ _ _ _ _ hs'
   ·rename_i hne
    refine wpIn_block (ih hq hx hf he hs fun β' Φ' a' w' hs'=>?_);have:=hQ _ _ _ _ hs'
    cases ex with
    | normal=>exact this
    | exit id=>exact absurd he (hne _ _)
    | ret=>exact this
  ·cases hc
 | loop x ih=>
  intro pol hq ac hc hf Q s s' ex β Φ a w he hs hQ;simp only[fN]at hc;split at hc
  ·rename_i ax hx
   cases hc
   simp only[exec]at he;refine PW (fun k a w=> ∃s β Φ,CS P G N B β0 Φ0 H0 w0 rnd r β Φ s a w∧loopN (exec G b call lf rnd ax) k s=some (ex,s')) ?_ ?_ (k:=lf) ⟨s,β, Φ,hs,he⟩
   ·rintro a w ⟨s,β, Φ,_,h⟩
    simp[loopN]at h
   ·rintro k a w ⟨s,β, Φ,hs,h⟩
    simp only[loopN]at h;split at h
    ·rename_i s1 h1
     exact ih hq hx hf h1 hs fun β' Φ' a' w' hs'=>⟨s1,β', Φ',hs',h⟩
    ·rename_i hne
     refine ih hq hx hf h hs fun β' Φ' a' w' hs'=>?_
     have:=hQ _ _ _ _ hs'
     cases ex with
     | normal=>exact absurd h (hne _)
     | exit id=>exact this
     | ret=>exact this
  ·cases hc
 | rangeFunc g ps asg body iha ihb=>
  intro pol hq ac hc hf Q s s' ex β Φ a w he hs hQ;simp only[fN]at hc;split at hc
  ·rename_i ga x y hg hx hy
   cases hc
   simp only[ACode.fits,Bool.and_eq_true]at hf;simp only[exec]at he;split at he
   ·rename_i H1 dfs1 hel
    split at he
    ·rename_i f pre caps hga
     split at he
     ·rename_i d2 H2 hcall
      split at he
      ·rename_i L hL
       split at he
       ·cases he
       ·rename_i hnb
        simp only[Option.some.injEq,Prod.mk.injEq]at he;obtain⟨rfl,rfl⟩:=he;refine wpIn_rangeFunc fun fn _=>?_
        obtain⟨l,mark,w1,β1,h1,h2,h3,h4⟩:=zI1 hs hN hf.1.1 ⟨hf.1.2,yE pol,HJ pol,hx⟩ ⟨hf.2,yE pol,HJ pol,hy⟩ hel fn;have hv:VR (.func f pre caps) β1 Φ (a.eval g):=by rw[← hga];exact bH (a:= { a with defers:=mark++a.defers }) h2.ws.wr h2.er hg
        have hvu:UN H1.length (.func f pre caps):=by rw[← hga];exact hJ (G:=G) h2.eu hg
        have hv':=hv;simp only[VR]at hv';obtain⟨us,vs,hve,hus,hvs⟩:=hv';have hy1:VR (.yield (H1.length-1)) β1 Φ (.func (.yield l) #[] #[]):=by simp only[VR];exact⟨l,0,h3,rfl⟩
        have hinv:=hsim hcall h2.ws hv (vargs:=[.func (.yield l) #[] #[]]) ⟨_,_,rfl,hy1,rfl⟩ hvu (fun x hx=>by
         simp only[List.mem_singleton]at hx;subst hx;right;simp[D.under,Nat.blt_eq];omega)
        have hent:=hen hcall;refine⟨l,mark,w1, { target:=.fn (.func f) vs.toArray,args:=us.toArray++ #[.func (.yield l) #[] #[]] },w1,f,(us.toArray++ #[.func (.yield l) #[] #[]])++vs.toArray,w1,h1,?_,fun _ _=>trivial,?_,fun h=>by simp[gN,Fence.wide]at h,?_⟩
        ·have hae:(#[Operand.const (.func (.yield l) #[] #[])]:Array Operand).map a.eval= #[.func (.yield l) #[] #[]]:=by
          simp[Act.eval]
         simp only[resolve,rangeCall,hve,hae];rfl
        ·exact M9 hent _ _
        ·unfold Inv at hinv
         rw[hve]at hinv;have hrun:(do let d ← Deferred.ofValue (.func (.func f) us.toArray vs.toArray) ([Value.func (.yield l) #[] #[]].toArray);invoke d.target d.args:Sem Next).run P w1=.ok (.enter f ((us.toArray++ #[.func (.yield l) #[] #[]])++vs.toArray)) w1:=M9 hent _ _;rw[hrun]at hinv;refine MD hinv fun e w3 hR=>?_
         cases e with
         | panicked c=>exact hR.elim
         | outgrown=>exact hR.elim
         | returned v=>
          obtain⟨β3, Φ3,r1,r2,r3,_⟩:=hR;have hid:H1.length-1<H1.length:=by omega
          obtain⟨w4,e1,e2,e3⟩:=zI7 r2 hL ⟨0,r3.more.some _ _ _ hid h3⟩ hnb;refine⟨_,w4,e1,zG0 ?_⟩;have c3:=(h2.next r2 r3).next e2 e3;exact hQ _ _ _ _ c3
      ·cases he
     ·cases he
    ·cases he
   ·cases he
  ·cases hc
 | exit id=>
  intro pol hq ac hc hf Q s s' ex β Φ a w he hs hQ;simp[fN]at hc;subst hc;simp[exec]at he;obtain⟨rfl,rfl⟩:=he;exact wpIn_exit (hQ _ _ _ _ hs)
 | ret=>
  intro pol hq ac hc hf Q s s' ex β Φ a w he hs hQ;simp[fN]at hc;subst hc;simp[exec]at he;obtain⟨rfl,rfl⟩:=he;exact wpIn_ret (hQ _ _ _ _ hs)
 | scope x ih=>intro pol hq ac hc;simp[fN]at hc
 | label l=>intro pol hq ac hc;simp[fN]at hc
 | goto l=>intro pol hq ac hc;simp[fN]at hc
 | refuse why=>intro pol hq ac hc;simp[fN]at hc
end
end Go.AM
namespace Go.AM
def kE(P:Program)(G:gT)(B:Nat->Prop)(β:Bk)(Φ :Fz)(H:aA)(w:World)(d:D)(H':aA)(v:Value)(w':World):Prop:=
 ∃β' Φ',VR d β' Φ' v∧WS P G β' Φ' B H' w'∧Ext β Φ H w β' Φ' H' w'∧UN H'.length d
structure Good(P:Program)(X:Ctx):Prop where
 fn:∀f af,X.fn f=some af->∃fn pols keep,P.funcs[f]? =some fn∧wP P pols keep fn=some af∧∀i j g,vC pols i j=some (.quiet g)->Quiet P g
 prims:∀f ds d,X.prims f ds=some d->∀ {β:Bk} {Φ :Fz} {H:aA} {w:World} {vs:List Value} {B:Nat->Prop},WS P X.G β Φ B H w->aE ds β Φ vs->(∀x∈ds,UN H.length x)->
  uC P (kE P X.G B β Φ H w d H) ((callFunc f vs.toArray).run P w)
 primsY:∀f l as bs,X.prims f (as++[.yield l]++bs)=none
theorem LM {P:Program}{pols:List (Nat×Nat×Pol)}{keep:Option Nat}{fn:Func}{af:AFunc}(h:wP P pols keep fn=some af):
  ∃c,fn.body=some c∧(fn.name == "runtime.NumGoroutine")=false∧fN P (vC pols) c=some af.body∧rY P fn.results.toList=some af.results∧af.body.fits fn.ntmps=true∧fn.ntmps<65535:=by
 unfold wP at h;split at h
 ·rename_i c hc
  split at h
  ·cases h
  ·rename_i hn
   split at h
   ·rename_i b rs hb hrs
    split at h
    ·rename_i hh
     cases h
     simp only[Bool.and_eq_true,Nat.blt_eq]at hh;exact⟨c,hc,by simpa using hn,hb,hrs,hh.1,hh.2⟩
    ·cases h
   ·cases h
 ·cases h
section
variable {P:Program}{G:Nat->Option (List D)}{β β0:Bk}{Φ Φ0 :Fz}{b n N:Nat}{B:Nat->Prop}{H H0:aA}{w w0:World}{env:Env}{a:Act}
theorem Ib:∀(ds:List D) (e:Env) (i:Nat),i+ds.length<=65535->∀t,(e.dL i ds).get t=if i<=t∧t<i+ds.length then ds.getD (t-i) .undef else e.get t
 | [],e,i,h,t=>by simp only[Env.dL,List.length_nil];rw[if_neg (by omega)]
 | d::ds,e,i,h,t=>by
  simp only[List.length_cons]at h ⊢;simp only[Env.dL];rw[Ib ds _ (i+1) (by omega) t,Env.vB t d (by omega)];by_cases h1:i+1<=t∧t<i+1+ds.length
  ·rw[if_pos h1,if_pos (by omega)]
   have:t-i=(t-(i+1))+1:=by omega
   rw[this];rfl
  ·rw[if_neg h1]
   by_cases h2:t=i
   ·subst h2;rw[if_pos rfl,if_pos (by omega)];simp
   ·rw[if_neg h2,if_neg (by omega)]
theorem zM2 {ds:List D}{vs:List Value}(h:aE ds β Φ vs)(hl:ds.length<65535)(m:Nat):ER β Φ (Env.nil.dL 0 ds) (vs.toArray++Array.replicate m undef):=by
 intro t;rw[Ib ds .nil 0 (by omega) t];split
 ·rename_i ht
  simp only[Nat.sub_zero,Nat.zero_add]at ht ⊢;obtain⟨v,h1,h2⟩:=h.get (i:=t) (d:=ds.getD t .undef) (by rw[List.getD_eq_getElem?_getD,List.getElem?_eq_getElem ht.2];rfl);have hlt:t<vs.length:=(List.getElem?_eq_some_iff.1 h1).1;have:(vs.toArray++Array.replicate m undef).getD t undef=v:=by
   rw[Array.getD_eq_getD_getElem?,Array.getElem?_append_left (by simpa using hlt)];simp[h1]
  rw[this];exact h2
 ·rw[Env.G1];trivial
theorem zM1 {ds:List D}{k:Nat}(h:∀x∈ds,UN k x)(hl:ds.length<65535):EU k (Env.nil.dL 0 ds):=by
 intro t;rw[Ib ds .nil 0 (by omega) t];split
 ·rename_i ht
  simp only[Nat.sub_zero,Nat.zero_add]at ht ⊢;rw[List.getD_eq_getElem?_getD,List.getElem?_eq_getElem ht.2];exact h _ (List.getElem_mem _)
 ·rw[Env.G1];exact .inl rfl
theorem Zw:∀(ps:List Nat) (ds:List D) (vs:List Value) (e:Env) (tmps:Array Value),aE ds β Φ vs->ps.length=ds.length->(∀t∈ps,t<tmps.size∧t<65535)->ER β Φ e tmps->
  ER β Φ (e.dX ps ds) ((ps.zip vs).foldl (fun tmps x=>tmps.setIfInBounds x.1 x.2) tmps)∧((ps.zip vs).foldl (fun(tmps:Array Value) x=>tmps.setIfInBounds x.1 x.2) tmps).size=tmps.size
 | [],ds,vs,e,tmps,hv,hl,ht,he=>by
  have:ds=[]:=by cases ds <;> simp at hl ⊢
  subst this;simp[Env.dX];exact he
 | t::ps,[],vs,e,tmps,hv,hl,ht,he=>by simp at hl
 | t::ps,d::ds,vs,e,tmps,hv,hl,ht,he=>by
  simp only[aE]at hv;obtain⟨v,r,rfl,h1,h2⟩:=hv;simp only[List.zip_cons_cons,List.foldl_cons,Env.dX];have htt:=ht t (by simp);have he':ER β Φ (e.put t d) (tmps.setIfInBounds t v):=ER.put (a:=⟨tmps,[]⟩) he htt.2 htt.1 h1;obtain⟨g1,g2⟩:=Zw ps ds r (e.put t d) (tmps.setIfInBounds t v) h2 (by simpa using hl) (fun u hu=>by simpa using ht u (by simp[hu])) he';exact⟨g1,by rw[g2];simp⟩
theorem GI {k:Nat}:∀(ps:List Nat) (ds:List D) (e:Env),(∀t∈ps,t<65535)->(∀x∈ds,UN k x)->EU k e->EU k (e.dX ps ds)
 | [],ds,e,_,_,he=>by simp[Env.dX];exact he
 | t::ps,[],e,_,_,he=>by simp[Env.dX];exact he
 | t::ps,d::ds,e,ht,hd,he=>by
  simp only[Env.dX];exact GI ps ds _ (fun u hu=>ht u (by simp[hu])) (fun x hx=>hd x (by simp[hx])) (he.put (ht t (by simp)) (hd d (by simp)))
theorem KA {n:Nat}:∀ {ps:List Nat},zH n ps=true->∀t∈ps,t<n
 | [],_,t,h=>by cases h
 | p::ps,h,t,ht=>by
  simp only[zH,Bool.and_eq_true,Nat.blt_eq]at h;rcases List.mem_cons.1 ht with rfl | ht
  ·exact h.1
  ·exact KA h.2 t ht
theorem V8 {id l:Nat}{L L':ALoop}{rec:Loop}(hw:WS P G β Φ B H w)(hc:H[id]? =some (.loop L))(hr:w.heap[l]? =some (.loop rec))(hl:∃c,β id 0=some (l,c)){rec':Loop}(hL:LoopRel P β Φ L rec->LoopRel P β Φ L' rec')(hu:L'.env=L.env∧L'.dfr=L.dfr):
  (setObj l (.loop rec')).run P w=.ok () { w with heap:=w.heap.setIfInBounds l (.loop rec') } ∧WS P G β Φ B (H.set id (.loop L')) { w with heap:=w.heap.setIfInBounds l (.loop rec') } ∧Ext β Φ H w β Φ (H.set id (.loop L')) { w with heap:=w.heap.setIfInBounds l (.loop rec') } :=by
 obtain⟨k,c,rec0,h1,h2,h3⟩:=hw.wr.ch id _ hc;obtain⟨c',hl⟩:=hl;rw[h1]at hl;cases hl;rw[hr]at h2;cases h2;have hlt:l<w.heap.size:=(Array.getElem?_eq_some_iff.1 hr).1;have hturn:=Gy (w:=w) (.loop rec') hlt;have hbk:(Chunk.loop L).blk β id=some l:=by simp[Chunk.blk,h1]
 have hun:∀n,(Chunk.loop L).aD n->(Chunk.loop L').aD n:=fun n h=>⟨by rw[hu.1];exact h.1,by rw[hu.2];exact h.2⟩
 obtain⟨g1,g2⟩:=hw.wr.turn (c':=.loop L') hc hbk hturn (fun _ _ _=>rfl) (fun _ _ h=>h) (fun h=>h)
  ⟨l,_,_,h1,hturn.here,hL h3⟩ (by simp[Chunk.blk,h1]) (hun _ (hw.wr.ids id _ hc))
 exact⟨FE hr _,⟨g1,fun b hb=>(hw.ids b hb).set hc hun⟩,g2⟩
theorem WS.AJ(hw:WS P G β Φ B H w):WS P G β Φ (fun b=>B b∨b=H.length) H w:=
 ⟨hw.wr,fun b hb=>by
  rcases hb with hb | rfl
  ·exact hw.ids b hb
  ·exact hw.wr.zHd⟩
theorem AH(hw:WS P G β Φ B H w):∀b,(B b∨b=H.length)->b<=H.length:=fun b hb=>by
 rcases hb with hb | rfl
 ·exact(hw.ids b hb).1
 ·exact Nat.le_refl _
theorem zI6 {id l:Nat}{L:ALoop}(hw:WS P G β Φ B H w)(hc:H[id]? =some (.loop L))(hl:∃c,β id 0=some (l,c))(ex:Ex):
  ∃w',(Instr.endRound l (match ex with | .normal=>none | .ret=>some .ret | .exit id=>some (.exit id))).run P w=.ok (match ex with | .normal=>.bool true | _=>.bool false) w'∧
   WS P G β Φ B (H.set id (.loop (eA ex L).2)) w'∧Ext β Φ H w β Φ (H.set id (.loop (eA ex L).2)) w':=by
 obtain⟨k,c,rec,h1,h2,h3⟩:=hw.wr.ch id _ hc;obtain⟨c',hl'⟩:=hl;have hkl:k=l:=by rw[h1]at hl';cases hl';rfl
 subst hkl
 cases ex with
 | normal=>
  obtain⟨g1,g2,g3⟩:=V8 hw hc h2 ⟨_,h1⟩ (L':=(eA .normal L).2) (rec':= { rec with state:=.ready,pending:=none }) (fun h=>⟨rfl,rfl,h.params,h.code,h.env,h.dfr⟩) ⟨rfl,rfl⟩;exact⟨_,by simp[Instr.endRound,Sem.run_bind,uU h2,g1],g2,g3⟩
 | ret=>
  obtain⟨g1,g2,g3⟩:=V8 hw hc h2 ⟨_,h1⟩ (L':=(eA .ret L).2) (rec':= { rec with state:=.done,pending:=some .ret }) (fun h=>⟨rfl,rfl,h.params,h.code,h.env,h.dfr⟩) ⟨rfl,rfl⟩;exact⟨_,by simp[Instr.endRound,Sem.run_bind,uU h2,g1],g2,g3⟩
 | exit i=>
  obtain⟨g1,g2,g3⟩:=V8 hw hc h2 ⟨_,h1⟩ (L':=(eA (.exit i) L).2) (rec':= { rec with state:=.done,pending:=some (.exit i) }) (fun h=>⟨rfl,rfl,h.params,h.code,h.env,h.dfr⟩) ⟨rfl,rfl⟩;exact⟨_,by simp[Instr.endRound,Sem.run_bind,uU h2,g1],g2,g3⟩
end
end Go.AM
namespace Go.AM
section
variable {P:Program}{G:Nat->Option (List D)}{β β0:Bk}{Φ Φ0 :Fz}{b n N:Nat}{B:Nat->Prop}{H H0:aA}{w w0:World}{env:Env}{a:Act}{call:cT}
theorem zMR {id l:Nat}{L:ALoop}(hw:WS P G β Φ B H w)(hc:H[id]? =some (.loop L))(hl:∃c,β id 0=some (l,c))(hst:L.st=.ready):
  ∃w',(Instr.beginRound l).run P w=.ok () w'∧WS P G β Φ B (H.set id (.loop { L with st:=.busy })) w'∧Ext β Φ H w β Φ (H.set id (.loop { L with st:=.busy })) w':=by
 obtain⟨k,c,rec,h1,h2,h3⟩:=hw.wr.ch id _ hc;obtain⟨c',hl'⟩:=hl;have hkl:k=l:=by rw[h1]at hl';cases hl';rfl
 subst hkl;obtain⟨g1,g2,g3⟩:=V8 hw hc h2 ⟨_,h1⟩ (L':= { L with st:=.busy }) (rec':= { rec with state:=.busy }) (fun h=>⟨rfl,h.pend,h.params,h.code,h.env,h.dfr⟩) ⟨rfl,rfl⟩;refine⟨_,?_,g2,g3⟩;have hs:rec.state=.ready:=by rw[h3.state,hst];rfl
 simp[Instr.beginRound,Sem.run_bind,uU h2,g1,hs]
theorem XU(hsim:qQ P G call)(hen:Enters P call){lf l:Nat}{args:List D}{d':D}{H':aA}(h:oY G call lf l args H=some (d',H'))(hw:WS P G β Φ B H w){vf:Value}{vargs:List Value}
  (hv:VR (.yield l) β Φ vf) (hva:aE args β Φ vargs) (hua:∀x∈args,UN H.length x):Inv P vf vargs.toArray w (kE P G B β Φ H w d' H'):=by
 simp only[VR]at hv;obtain⟨k,c,hk,rfl⟩:=hv;unfold oY at h;split at h
 ·rename_i L hL
  split at h
  ·rename_i hh
   obtain⟨hst,hlen⟩:=hh;obtain⟨k',c',rec,h1,h2,h3⟩:=hw.wr.ch l _ hL;have hkk:k'=k:=by rw[hk]at h1;cases h1;rfl
   subst hkk;have hun:=hw.wr.aD hL;obtain⟨N,hN,hNs,hfp,⟨hfa,pola,hqa,hca⟩,⟨hfb,polb,hqb,hcb⟩⟩:=h3.code;have hll:l<H.length:=gZ hL;have hsz:rec.params.size=L.params.length:=by rw[← h3.params];simp
   have hvl:=aE.length hva;have hinv:(do let d ← Deferred.ofValue (.func (.yield k') #[] #[]) vargs.toArray;invoke d.target d.args:Sem Next).run P w=
     .ok (.round k' rec.fn ((rec.params.zip vargs.toArray).foldl (fun tmps (x:Nat×Value)=>tmps.setIfInBounds x.1 x.2) rec.tmps) rec.assign rec.body) w:=by
    show(Instr.yield k' (#[]++vargs.toArray)).run P w=_;have:¬(vargs.toArray.size≠rec.params.size):=by simp;omega
    simp only[Instr.yield,Sem.run_bind,uU h2,Result.andThen_ok,Array.empty_append];rw[if_neg this];rfl
   unfold Inv;rw[hinv];have htmps:(rec.params.zip vargs.toArray).foldl (fun(tmps:Array Value) (x:Nat×Value)=>tmps.setIfInBounds x.1 x.2) rec.tmps=(L.params.zip vargs).foldl (fun(tmps:Array Value) (x:Nat×Value)=>tmps.setIfInBounds x.1 x.2) rec.tmps:=by
    rw[← h3.params, ← Array.foldl_toList,Array.toList_zip]
   rw[htmps];have hps:∀t∈L.params,t<rec.tmps.size∧t<65535:=fun t ht=>by have:=KA hfp t ht;omega
   obtain⟨z1,z2⟩:=Zw L.params args vargs L.env rec.tmps hva (by omega) hps h3.env;have hcs:CS P G N (fun b=>B b∨b=H.length) β Φ H w (some l) (some k') β Φ ⟨L.env.dX L.params args,H,[]⟩ { tmps:=(L.params.zip vargs).foldl (fun(tmps:Array Value) (x:Nat×Value)=>tmps.setIfInBounds x.1 x.2) rec.tmps,defers:=[] } w:=
    ⟨hw.AJ,z1,GI L.params args L.env (fun t ht=>(hps t ht).2) hua hun.1,by rw[z2];exact hNs,rfl,fun id hid=>(by cases hid),Ext.refl _ _ _ _,⟨⟨c,hk⟩,hll⟩⟩
   have hle:=AH hw;refine roundIn_of_wpIn trivial ?_;split at h
   ·rename_i s1 he1
    split at h
    ·rename_i L1 hL1
     split at h
     ·rename_i hst1
      split at h
      ·rename_i ex s2 he2
       split at h
       ·rename_i L2 hL2
        cases h
        refine Mw (r:=some k') (m:=0) hsim hen hN (.inr rfl) hle rec.assign (fun i j f h=>absurd h (hqa i j f)) hca hfa he1 hcs fun β1 Φ1 a1 w1 c1=>?_
        obtain⟨⟨cc1,hb1⟩,hl1⟩:=c1.rnd;obtain⟨w2,e1,e2,e3⟩:=zMR c1.ws hL1 ⟨cc1,hb1⟩ hst1;refine⟨w2,e1,?_⟩;have c2:=c1.next e2 e3;refine Mw (r:=some k') (m:=0) hsim hen hN (.inr rfl) hle rec.body (fun i j f h=>absurd h (hqb i j f)) hcb hfb he2 c2 fun β2 Φ2 a2 w3 c3=>?_
        obtain⟨⟨cc3,hb3⟩,hl3⟩:=c3.rnd;obtain⟨w4,f1,f2,f3⟩:=zI6 c3.ws hL2 ⟨cc3,hb3⟩ ex;have fin:∀v,v=(match ex with | .normal=>Value.bool true | _=>.bool false)->ret (kE P G B β Φ H w (eA ex L2).1 (s2.H.set l (.loop (eA ex L2).2))) (.returned v) w4:=by
         rintro v rfl;refine⟨β2, Φ2,?_,⟨f2.wr,fun b hb=>f2.ids b (.inl hb)⟩,c3.ext.trans f3,.inr ?_⟩
         ·cases ex <;> simp[eA,VR]
         ·cases ex <;> rfl
        cases ex with
        | normal=>exact⟨_,w4,f1,fin _ rfl⟩
        | ret=>exact⟨_,w4,f1,fin _ rfl⟩
        | exit i=>exact⟨_,w4,f1,fin _ rfl⟩
       ·cases h
      ·cases h
     ·cases h
    ·cases h
   ·cases h
  ·cases h
 ·cases h
theorem JR {X:Ctx}(hX:Good P X){k:Nat}(hsim:qQ P X.G (aY X k))(hen:Enters P (aY X k)){f:Nat}{ds:List D}{af:AFunc}(hf:X.fn f=some af)(hlen:ds.length<65535){ex:Ex}{s:St}{d':D}{H':aA}
  (he:exec X.G H.length (aY X k) k none af.body ⟨Env.nil.dL 0 ds,H,[]⟩=some (ex,s)) (hex:ex=.normal∨ex=.ret) (hfin:finish af H.length s=some (d',H')) (hw:WS P X.G β Φ B H w) {vs:List Value} (hv:aE ds β Φ vs) (hu:∀x∈ds,UN H.length x):
  uC P (kE P X.G B β Φ H w d' H') ((callFunc f vs.toArray).run P w):=by
 obtain⟨fn,pols,keep,h1,h2,hqq⟩:=hX.fn f af hf;obtain⟨c,hc,hname,hcc,hres,hfit,hN⟩:=LM h2;rw[M9 ⟨fn,h1,hname,by rw[hc];rfl⟩];have hcs:CS P X.G fn.ntmps (fun b=>B b∨b=H.length) β Φ H w none none β Φ ⟨Env.nil.dL 0 ds,H,[]⟩ { tmps:=vs.toArray++Array.replicate (fn.ntmps-vs.toArray.size) undef,defers:=[] } w:=
  ⟨hw.AJ,zM2 hv hlen _,zM1 hu hlen,by simp;omega,rfl,fun id hid=>(by cases hid),Ext.refl _ _ _ _,trivial⟩
 have hle:=AH hw;refine callsIn_of_wp_marks h1 hc trivial ?_;refine Mw (r:=none) (m:=0) hsim hen hN (.inr rfl) hle c (fun i j f h=>⟨rfl,hqq i j f h⟩) hcc hfit he hcs fun β1 Φ1 a1 w1 c1=>?_
 have hfo:=zId (n:=H.length) (B:=B) ⟨c1.ws.wr,fun b hb=>c1.ws.ids b (.inl hb)⟩ (c1.ws.ids _ (.inr rfl)) (fun b hb=>hle b (.inl hb)) c1.ext rfl c1.er hres c1.dr hfin;have key:LeavesInM Fence.wide 0 P fn a1.tmps (ret (kE P X.G B β Φ H w d' H')) a1.defers .returning w1:=by
  have heq:ret (U2 P X.G B β Φ H w d' H')=ret (kE P X.G B β Φ H w d' H'):=by
   funext e w'
   cases e with
   | returned v=>
    apply propext;exact⟨fun⟨b',p',q1,q2,q3⟩=>⟨b',p',q1,q2,q3,hfo.1⟩,fun⟨b',p',q1,q2,q3,_⟩=>⟨b',p',q1,q2,q3⟩⟩
   | panicked c=>rfl
   | outgrown=>rfl
  rw[← heq];exact hfo.2
 rcases hex with rfl | rfl
 ·exact key
 ·exact key
theorem Nf {X:Ctx}(hX:Good P X):∀k,qQ P X.G (aY X k)∧Enters P (aY X k)
 | 0=>⟨fun h=>by simp[aY]at h,fun h=>by simp[aY]at h⟩
 | k+1=>by
  obtain⟨hsim,hen⟩:=Nf hX k;constructor
  ·intro d args H d' H' h β Φ w vf vargs B hw hv hva hu hua
   cases d
   case yield l=>
    simp only[aY]at h;exact XU hsim hen h hw hv hva hua
   case func f pre caps=>
    simp only[VR]at hv;obtain⟨us,vs,rfl,hus,hvs⟩:=hv;have hva2:aE (pre++args++caps) β Φ (us++vargs++vs):=(hus.append hva).append hvs;have hun2:∀x∈pre++args++caps,UN H.length x:=fun x hx=>by
     have hfu:D.aD H.length pre=true∧D.aD H.length caps=true:=by
      rcases hu with hu | hu
      ·cases hu
      ·simpa [D.under]using hu
     rcases List.mem_append.1 hx with hx | hx
     ·rcases List.mem_append.1 hx with hx | hx
      ·exact .inr (C7 hfu.1 hx)
      ·exact hua x hx
     ·exact .inr (C7 hfu.2 hx)
    have hrun:(do let d ← Deferred.ofValue (.func (.func f) us.toArray vs.toArray) vargs.toArray;invoke d.target d.args:Sem Next).run P w=(callFunc f (us++vargs++vs).toArray).run P w:=by
     show(callFunc f ((us.toArray++vargs.toArray)++vs.toArray)).run P w=_;congr 2;simp
    unfold Inv;rw[hrun];simp only[aY]at h;split at h
    ·rename_i d hd
     cases h
     exact hX.prims f _ _ hd hw hva2 hun2
    ·split at h
     ·cases h
     ·rename_i af haf
      split at h
      ·rename_i hl
       rw[Nat.blt_eq]at hl;split at h
       ·rename_i s he;exact JR hX hsim hen haf hl he (.inl rfl) h hw hva2 hun2
       ·rename_i s he;exact JR hX hsim hen haf hl he (.inr rfl) h hw hva2 hun2
       ·cases h
      ·cases h
   all_goals simp[aY]at h
  ·intro f pre caps l H r h
   simp only[aY,hX.primsY]at h;split at h
   ·cases h
   ·rename_i af haf
    obtain⟨fn,pols,keep,h1,h2,_⟩:=hX.fn f af haf;obtain⟨c,hc,hname,_⟩:=LM h2;exact⟨fn,h1,hname,by rw[hc];rfl⟩
end
end Go.AM
namespace Go.AM
section
variable {P:Program}{G:Nat->Option (List D)}
def Fz.all(w:World):Fz:=fun k=>w.heap[k]?
theorem WR.start {w:World}(hG:∀g cs,G g=some cs->∃cur e fr,w.heap[g]? =some (.cells cur e fr)∧bJ cs (Fz.all w) cur 0):WR P G Bk.none (Fz.all w) 0 [] w:=
 ⟨fun id c h=>by simp at h,fun k o h=>h,fun id c k h=>by simp at h,fun id c id' c' k h=>by simp at h,fun _ _ _=>rfl,Nat.le_refl _,fun id c h=>by simp at h,hG⟩
theorem zKn {X:Ctx}(hX:Good P X){k f:Nat}{args:List D}{d:D}{H':aA}(h:aY X k (.func f [] []) args []=some (d,H')){w:World}(hG:∀g cs,X.G g=some cs->∃cur e fr,w.heap[g]? =some (.cells cur e fr)∧bJ cs (Fz.all w) cur 0)
  {vs:List Value} (hv:aE args Bk.none (Fz.all w) vs) (hu:∀x∈args,UN 0 x):
  uC P (kE P X.G (fun _=>False) Bk.none (Fz.all w) [] w d H') ((callFunc f vs.toArray).run P w):=by
 have hw:WS P X.G Bk.none (Fz.all w) (fun _=>False) [] w:=⟨WR.start hG,fun _ h=>h.elim⟩;have:=(Nf hX k).1 h hw (vf:=.func (.func f) #[] #[]) (by simp[VR,aE]) hv (.inr rfl) hu;unfold Inv at this;have hrun:(do let d ← Deferred.ofValue (.func (.func f) #[] #[]) vs.toArray;invoke d.target d.args:Sem Next).run P w=(callFunc f vs.toArray).run P w:=by
  show(callFunc f ((#[]++vs.toArray)++ #[])).run P w=_;congr 2;simp
 rwa [hrun]at this
theorem LR {X:Ctx}(hX:Good P X){k f:Nat}{args:List D}{d:D}(h:aY X k (.func f [] []) args []=some (d,[]))(hua:D.aD 0 args=true)(hud:d.under 0=true)
  {β:Bk} {Φ :Fz} {H:aA} {w:World} {vs:List Value} {B:Nat->Prop} (hw:WS P X.G β Φ B H w) (hv:aE args β Φ vs):
  uC P (kE P X.G B β Φ H w d H) ((callFunc f vs.toArray).run P w):=by
 have h0:WR P X.G Bk.none Φ 0 [] w:=⟨fun id c h=>by simp at h,hw.wr.fz,fun id c k h=>by simp at h,fun id c id' c' k h=>by simp at h,fun _ _ _=>rfl,Nat.le_refl _,fun id c h=>by simp at h,hw.wr.glob⟩;have hw0:WS P X.G Bk.none Φ (fun _=>False) [] w:=⟨h0,fun _ h=>h.elim⟩;have hl:∀k,¬live Bk.none [] k:=by rintro k ⟨id,c,h,_⟩;simp at h
 have hr:=(Nf hX k).1 h hw0 (vf:=.func (.func f) #[] #[]) (by simp[VR,aE]) (aE.closed args hua hv) (.inr rfl) (fun x hx=>.inr (C7 hua hx));unfold Inv at hr;have hrun:(do let d ← Deferred.ofValue (.func (.func f) #[] #[]) vs.toArray;invoke d.target d.args:Sem Next).run P w=(callFunc f vs.toArray).run P w:=by
  show(callFunc f ((#[]++vs.toArray)++ #[])).run P w=_;congr 2;simp
 rw[hrun]at hr;have key:∀v w',kE P X.G (fun _=>False) Bk.none Φ [] w d [] v w'->kE P X.G B β Φ H w d H v w':=by
  rintro v w' ⟨β', Φ',q1,q2,q3,_⟩;have hm:More H.length β Φ β Φ' :=⟨fun _ _ _ _ h=>h,fun _ _ h=>h,q3.more.fz⟩;have hsame:∀j,j<w.heap.size->w'.heap[j]? =w.heap[j]? :=fun j hj=>q3.same j hj (hl j)
  refine⟨β, Φ',VR.closed d hud q1,⟨⟨fun id c hc=>?_,q2.wr.fz,fun id c j hc hj=>?_,hw.wr.inj,hw.wr.dom,hw.wr.base,hw.wr.ids,q2.wr.glob⟩,hw.ids⟩,
   ⟨hm,Nat.le_refl _,q3.os,q3.tape,q3.output,q3.size,fun j hj _=>hsame j hj,fun j hj=>.inl hj,fun j o hj=>?_⟩,.inr (D.C8 d (Nat.zero_le _) hud)⟩
  ·exact(hw.wr.ch id c hc).more (hw.wr.aD hc) (gZ hc) hm (fun _=>rfl) (fun j hj=>hsame j (hw.wr.lD hc hj))
  ·cases hx: Φ' j with
   | none=>rfl
   | some o=>
    rcases q3.fzn j o hx with h1 | h1 | h1
    ·rw[hw.wr.apart id c j hc hj]at h1;cases h1
    ·exact absurd h1 (hl j)
    ·have:=hw.wr.lD hc hj;omega
  ·rcases q3.fzn j o hj with h1 | h1 | h1
   ·exact .inl h1
   ·exact absurd h1 (hl j)
   ·exact .inr (.inr h1)
 revert hr
 generalize(callFunc f vs.toArray).run P w=res;intro hr;unfold uC at hr ⊢;split at hr
 ·exact key _ _ hr
 ·refine CallsIn.mono hr fun e w' he=>?_
  cases e with
  | returned v=>exact key _ _ he
  | panicked c=>exact he
  | outgrown=>exact he
 ·refine RoundIn.mono hr fun e w' he=>?_
  cases e with
  | returned v=>exact key _ _ he
  | panicked c=>exact he
  | outgrown=>exact he
 ·exact hr.elim
end
end Go.AM
