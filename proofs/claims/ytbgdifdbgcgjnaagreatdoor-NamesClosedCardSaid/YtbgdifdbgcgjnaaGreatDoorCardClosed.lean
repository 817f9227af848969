/- bolterlaw20.NamesClosed hands back true at every argument; nothing that lay there is changed. -/
import Derived.Test.YtbgdifdbgcgjnaaGreatDoorCards
import Derived.Test.YtbgdifdbgcgjnaaGreatDoorTie
import Derived.Test.YtbgdifdbgcgjnaaGreatDoorWalkI
import Derived.Test.YtbgdifdbgcgjnaaGreatDoorCtx
import Derived.Test.YtbgdifdbgcgjnaaGreatDoorLaidClosed
import Derived.Test.YtbgdifdbgcgjnaaGreatDoorFactsClosed
set_option linter.unusedVariables false
set_option maxRecDepth 100000
namespace Go.Proofs.YtbgdifdbgcgjnaaGreatDoor.closed
open Go.Deep Go.ChangeShapes Go.WideShapes Go.ChangeAt Go.ChangeMaps Go.RowKit Go.AM Go.AM.T
theorem calls_below {P:Program}{X:Ctx}(hX:Go.AM.Good P X){k f:Nat}{args:List D}{d:D}{H':aA}(h:aY X k (.func f [] []) args []=some (d,H')){w:World}(hG:∀g cs,X.G g=some cs->∃cur e fr,w.heap[g]? =some (.cells cur e fr)∧bJ cs (Fz.all w) cur 0)
  {vs:List Value} (hv:aE args Bk.none (Fz.all w) vs) (hu:∀x∈args,UN 0 x) (he:Fk P f) (hd:d.under 0=true):
  Calls P f vs.toArray w fun e w'=> ∃v,e=.returned v∧(∃ Φ,VR d Bk.none Φ v)∧Below w.heap.size w w':=by
 have hr:=zKn hX h hG hv hu;rw[M9 he]at hr;have hc:CallsIn Fence.wide 0 P f vs.toArray w (ret (kE P X.G (fun _=>False) Bk.none (Fz.all w) [] w d H')):=hr;refine(callsIn_wide.1 hc).mono fun e w' q=>?_
 cases e with
 | returned v=>
  obtain⟨β', Φ',q1,q2,q3,_⟩:=q;exact⟨v,rfl,⟨Φ',VR.closed d hd q1⟩,q3.os,q3.tape,q3.output,q3.size,fun j hj=>q3.same j hj (by rintro⟨id,c,hc,_⟩;simp at hc)⟩
 | panicked c=>exact q.elim
 | outgrown=>exact q.elim
theorem contract(H:Type)(enc:TypeId×Value->H)(W:World)(base:Nat)(args:Array Value)(ds gs:List (DataW H))(before:List MemPlace)
  (hval:∀(j:Nat) t v,Tryz.f3.params[j]? =some t->args[j]? =some v->Value.okWide Tryz.prog W .any base t v)
  (hW:DataW.Whole enc Tryz.prog Tryz.f3.params.toList Rows.namesClosedSpec.vars false W args.toList ds gs before) (hr:(DataW.weightsEach Tryz.prog (Tryz.f3.params.toList++(OpenSpec.ofChange Rows.namesClosedSpec).bare.plain.varTypes Tryz.prog) (ds++gs)).all (· <=reachBytes)=true) (hL:laidMetH Tryz.prog Rows.namesClosedRow.laid W):
  Calls Tryz.prog 3 args W fun e W'=> ∃v,e=.returned v∧Rows.namesClosedSpec.post enc Tryz.prog Tryz.f3 false true false false W args v W':=by
 have hW':=hW;obtain⟨p,q,hA0,hV,rfl,hfz,hnd⟩:=hW;have hA:DataW.TrodAll enc Tryz.prog W 0 (fun _=>true) true Tryz.f3.params.toList args.toList ds p:=hA0;rw[Tryz.params3]at hA hval hr;obtain⟨v0,v1,d0,d1,p0,p1,rfl,rfl,rfl,h0,h1⟩:=trodAll_two hA;obtain⟨rfl,rfl⟩:=trodVars_none hV;obtain⟨s,rfl,rfl,rfl,hs⟩:=open_string Tryz.underlying9 (hval 0 9 v0 rfl rfl) h0;obtain⟨t,rfl,rfl,rfl,ht⟩:=open_string Tryz.underlying9 (hval 1 9 v1 rfl rfl) h1;clear hA0;simp only[List.append_nil]at hW';have hG:∀g cs,XN.G g=some cs->∃cur e fr,W.heap[g]? =some (.cells cur e fr)∧bJ cs (Fz.all W) cur 0:=globs hL;have hc:Calls Tryz.prog 3 #[.string s,.string t] W fun e w'=> ∃v,e=.returned v∧(∃ Φ,VR (.bool true) Bk.none Φ v)∧Below W.heap.size W w':=by
  have hl:t.data.toList.length<=140737488355328:=by
   have h1:t.data.toList.length<=reachBytes:=by
    simp only[List.cons_append,List.nil_append,DataW.weightsEach,DataW.weights,List.all_cons,Bool.and_eq_true,decide_eq_true_eq]at hr;exact hr.2.1
   exact Nat.le_trans h1 (Nat.le_of_ble_eq_true rfl)
  obtain⟨n,hn⟩:=Nd.1 (NamesClosed cx s.data.toList t.data.toList hl []);exact calls_below zHm (hn n (Nat.le_refl n)) (w:=W) hG (vs:=[.string s,.string t]) (by simp[aE,VR]) (fun x hx=>by
   rcases List.mem_cons.1 hx with rfl | hx
   ·exact .inr rfl
   ·rw[List.mem_singleton.1 hx];exact .inr rfl) ⟨Tryz.f3,Tryz.func3,rfl,rfl⟩ rfl
 refine hc.mono fun e W' ⟨v,he,⟨Φ,hv⟩,hb⟩=>?_
 simp only[VR]at hv;subst he hv;exact⟨_,rfl,ZN (pa:=[]) (pv:=[]) hW' (fun _ _ _=>trodAll_cons_mk (shut_bool Tryz.underlying4 _) trodAll_mk0) (fun _ _=>trodAll_cons_mk (shut_string Tryz.underlying9 hs) (trodAll_cons_mk (shut_string Tryz.underlying9 ht) trodAll_mk0)) (fun _ _=>rfl) rfl
  hb.os hb.output hb.block (ok_one (by kernel_rfl) rfl (okWide_bool_mk Tryz.underlying4 _))⟩
theorem lifted(os:Os)(started:os.Started)(H:Type)(enc:TypeId×Value->H)(F:Stop.Interp):
  ReturnsInHanded {} Tryz.checked os 3 .any ((OpenSpec.ofChange Rows.namesClosedSpec).preRow enc Tryz.prog Tryz.f3 Rows.namesClosedRow.domain false Rows.namesClosedRow.laid) (((OpenSpec.ofChange Rows.namesClosedSpec).at F).post enc Tryz.prog Tryz.f3 false true false false):=by
 obtain⟨places,hx⟩:=reads os enc;refine returnsInHanded_of_row (C:=Tryz.checked) (s:=OpenSpec.ofChange Rows.namesClosedSpec) own started (by kernel_rfl) Tryz.func3
  (witness_row_atRef (enc:=enc) (C:=Tryz.checked) false (laidWorld os) #[.string ⟨#[]⟩,.string ⟨#[]⟩] rfl (by kernel_rfl) (by kernel_rfl) (by kernel_rfl)
   (OpenSpec.preRow_of_cond 8 hx (by kernel_rfl) (fun k hk=>by cases hk) (by kernel_rfl) (laid_met os))) ?_
 intro W base args ds gs before hval hW _ _ hr hL _ _;exact contract H enc W base args ds gs before hval hW hr hL
theorem said:Rows.NamesClosedSaid:=
 OpenClaim.holds_of_cond 3 Tryz.f3 rfl rfl rfl rfl rfl rfl rfl ⟨rfl,rfl,rfl,rfl,rfl⟩ rfl rfl rfl rfl rfl named Tryz.func3 closed
  inst wrap
  (fun os started H enc _ F=>by rw[OpenClaim.pre_eq_preRow];exact lifted os started H enc F)
theorem card:Rows.NamesClosedCardSaid:=
 Claim7.holds_tied_plain_at .later [] _ _ _ _ said (fun _ h=>by cases h) (by kernel_rfl) (fun _ h=>by cases h) namesClosed_row_tie rfl ⟨rfl,rfl⟩ (by kernel_rfl) rfl plain (by kernel_rfl)
end Go.Proofs.YtbgdifdbgcgjnaaGreatDoor.closed
