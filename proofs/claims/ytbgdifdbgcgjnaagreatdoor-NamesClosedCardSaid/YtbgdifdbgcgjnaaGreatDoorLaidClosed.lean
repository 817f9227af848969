/- The tables. -/
import Derived.Test.YtbgdifdbgcgjnaaGreatDoorRows
import Derived.Test.YtbgdifdbgcgjnaaGreatDoorCtx
import Derived.Test.YtbgdifdbgcgjnaaGreatDoorAmH
import Derived.Lib.LaidU8
import Derived.Lib.Space
import Derived.Lib.SpaceR
import Derived.LaidLaws
import Derived.Stop.LaidErr
import Derived.Deep.DeepWitnessRowRef
set_option linter.unusedVariables false
set_option linter.unusedSimpArgs false
set_option linter.unnecessarySimpa false
set_option maxRecDepth 100000
namespace Go.Proofs.YtbgdifdbgcgjnaaGreatDoor
open Go.AM Go.AM.T Go.Lib
theorem own:ownKnob Tryz.prog.godebug=none:=by kernel_rfl
noncomputable def laidWorld(os:Os):World:=
 let N:=(World.settled Tryz.prog os).heap.size
 let w0:=World.holding Tryz.prog os ⟨#[.cells (Lib.whiteT.map fun(z:Nat)=>Value.int .u16 (z:Int)).toArray 204,.cells #[.slice (some ⟨N,0,none⟩) 7 7,.slice none 0 0,.int .i64 2] 201], #[],[]⟩
 let put (h:Array Obj) (g:Nat) (cs:Array Value):Array Obj:=h.modify g fun
  | .cells _ t frozen=>.cells cs t frozen
  | o=>o
 let h1:=put w0.heap 0 (Lib.asciiSpaceTab.map fun z=>Value.int .u8 z).toArray
 let h2:=put h1 3 (Lib.firstTab.map fun z=>Value.int .u8 z).toArray
 let h3:=put h2 4 ((List.range 16).flatMap fun i=>[Value.int .u8 (Lib.accLo i),Value.int .u8 (Lib.accHi i)]).toArray
 let h4:=put h3 1 #[.pointer (some ⟨N+1,0,none⟩)]
 { w0 with heap:=h4 }
theorem gA:Tryz.prog.globalNamed "strings.asciiSpace" =some 0:=by kernel_rfl
theorem gAT:(Tryz.prog.globals[0]?).map (·.type)=some 143:=by kernel_rfl
theorem gF:Tryz.prog.globalNamed "unicode/utf8.first" =some 3:=by kernel_rfl
theorem gFT:(Tryz.prog.globals[3]?).map (·.type)=some 143:=by kernel_rfl
theorem gR:Tryz.prog.globalNamed "unicode/utf8.acceptRanges" =some 4:=by kernel_rfl
theorem gRT:(Tryz.prog.globals[4]?).map (·.type)=some 265:=by kernel_rfl
theorem LX:Tryz.prog.cellsOf 143=256:=by kernel_rfl
theorem Be:Tryz.prog.cellsOf 5=1:=by kernel_rfl
theorem LW:Tryz.prog.cellsOf 264=2:=by kernel_rfl
theorem RU {W:World}(h:laidMetH Tryz.prog Rows.namesClosedRow.laid W):Lib.TabIs Tryz.prog W "strings.asciiSpace" .u8 Lib.asciiSpaceTab:=by
 have h1:laidMet Tryz.prog Rows.namesClosedRow.laid W:=h;exact Lib.tabIs_of_head (rest:=[("unicode/utf8.first",Rows.laid_unicode_utf8_first)]) gA gAT Tryz.underlying143 Tryz.underlying5 Be LX h1.tail.tail
theorem RT {W:World}(h:laidMetH Tryz.prog Rows.namesClosedRow.laid W):Lib.TabIs Tryz.prog W "unicode/utf8.first" .u8 Lib.firstTab:=by
 have h1:laidMet Tryz.prog Rows.namesClosedRow.laid W:=h;exact Lib.tabIs_of_head (rest:=[]) gF gFT Tryz.underlying143 Tryz.underlying5 Be LX h1.tail.tail.tail
theorem zNe {W:World}(h:laidMetH Tryz.prog Rows.namesClosedRow.laid W):VarReads Tryz.prog W "unicode/utf8.acceptRanges" acceptData:=by
 have h1:laidMet Tryz.prog Rows.namesClosedRow.laid W:=h;refine laidMet.reads h1 ?_;have:(Rows.laid_unicode_utf8_acceptRanges:DataW Unit)=acceptData:=by kernel_rfl
 rw[← this];exact .head _
theorem zHo {W:World}(h:laidMetH Tryz.prog Rows.namesClosedRow.laid W):∃cur e fr,W.heap[4]? =some (.cells cur e fr)∧bJ bT (Fz.all W) cur 0:=by
 obtain⟨g,t,cs,fuel,p,hg,hty,hvar,hd⟩:=zNe h;obtain rfl:=Option.some.inj (gR.symm.trans hg);obtain rfl:=Option.some.inj (gRT.symm.trans hty);have each:∀i,i<16->cs[2*i]? =some (.int .u8 (accLo i))∧cs[2*i+1]? =some (.int .u8 (accHi i)):=by
  intro i hi;obtain⟨fuel',d,q,hdi,he⟩:=array_elem Tryz.underlying265 hd i hi;simp only[List.getElem?_map,List.getElem?_range hi,Option.map_some,Option.some.injEq]at hdi;subst hdi;rw[LW]at he;have hcs:=ints_of_struct Tryz.underlying264 (fun j f hj=>by
   match j,hj with
   | 0,hj=>simp at hj;subst hj;exact⟨Tryz.underlying5,rfl,Be⟩
   | 1,hj=>simp at hj;subst hj;exact⟨Tryz.underlying5,rfl,Be⟩
   | j+2,hj=>simp at hj) (by rw[LW];rfl) he
  have e0:=congrArg (·[0]?) hcs;have e1:=congrArg (·[1]?) hcs;simp only[List.getElem?_take,List.getElem?_drop]at e0 e1;exact⟨by rw[← Array.getElem?_toList];simpa [Nat.mul_comm]using e0,by rw[← Array.getElem?_toList];simpa [Nat.mul_comm]using e1⟩
 unfold World.var? at hvar;rw[hg]at hvar;simp only[Option.bind_some]at hvar;split at hvar
 ·rename_i cs' e fr hc
  cases hvar
  refine⟨_,e,fr,hc,?_⟩;have e0:=each 0 (by omega);have e1:=each 1 (by omega);have e2:=each 2 (by omega);have e3:=each 3 (by omega);have e4:=each 4 (by omega);have e5:=each 5 (by omega);have e6:=each 6 (by omega);have e7:=each 7 (by omega);have e8:=each 8 (by omega);have e9:=each 9 (by omega);have e10:=each 10 (by omega);have e11:=each 11 (by omega);have e12:=each 12 (by omega);have e13:=each 13 (by omega);have e14:=each 14 (by omega);have e15:=each 15 (by omega);simp[accLo,accHi]at e0 e1 e2 e3 e4 e5 e6 e7 e8 e9 e10 e11 e12 e13 e14 e15;simp[bT,bJ,VR,D.under,e0,e1,e2,e3,e4,e5,e6,e7,e8,e9,e10,e11,e12,e13,e14,e15]
 ·cases hvar
theorem zMY:asciiSpace=Lib.asciiSpaceTab.map (D.int .u8):=by kernel_rfl
theorem zIb:L7=Lib.firstTab.map (D.int .u8):=by kernel_rfl
theorem globs {W:World}(h:laidMetH Tryz.prog Rows.namesClosedRow.laid W):∀g cs,G0 g=some cs->∃cur e fr,W.heap[g]? =some (.cells cur e fr)∧bJ cs (Fz.all W) cur 0:=by
 intro g cs hg;unfold G0 at hg
 cases h4:Nat.beq g 4 with
 | true=>
  rw[h4]at hg
  cases hg
  rw[Nat.eq_of_beq_eq_true h4];exact zHo h
 | false=>
  rw[h4]at hg
  cases h3:Nat.beq g 3 with
  | true=>
   rw[h3]at hg
   cases hg
   rw[Nat.eq_of_beq_eq_true h3,zIb];exact JM gF (RT h)
  | false=>
   rw[h3]at hg
   cases h0:Nat.beq g 0 with
   | true=>
    rw[h0]at hg
    cases hg
    rw[Nat.eq_of_beq_eq_true h0,zMY];exact JM gA (RU h)
   | false=>rw[h0]at hg;cases hg
end Go.Proofs.YtbgdifdbgcgjnaaGreatDoor
