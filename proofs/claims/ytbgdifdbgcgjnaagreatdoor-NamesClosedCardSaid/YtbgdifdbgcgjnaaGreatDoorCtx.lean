/- The context. -/
import Derived.Test.YtbgdifdbgcgjnaaGreatDoorFns
import Derived.Test.YtbgdifdbgcgjnaaGreatDoorFun
import Derived.Test.YtbgdifdbgcgjnaaGreatDoorAmH
import Derived.KernelRfl
set_option linter.unusedVariables false
set_option linter.unusedSimpArgs false
set_option linter.unnecessarySimpa false
set_option maxRecDepth 100000
namespace Go.AM.T
open Go.Proofs
theorem tI:True:=True.intro
theorem zH7:fns.Forall (T9 Tryz.prog) 1 0:=⟨tI,⟨tI,⟨zEg,⟨tI,⟨tI,⟨zD6,⟨tI,⟨zB1,⟨zCA,tI,tI⟩,tI⟩,⟨zDC,tI,tI⟩⟩,⟨zCk,⟨zDA,tI,tI⟩,⟨zCh,tI,tI⟩⟩⟩,⟨zCX,⟨zDX,⟨tI,⟨zDi,tI,tI⟩,tI⟩,tI⟩,⟨zDH,⟨zBi,tI,tI⟩,⟨zCR,tI,tI⟩⟩⟩⟩,⟨zDW,⟨zCr,⟨zDU,⟨zBs,⟨zDv,tI,tI⟩,tI⟩,⟨zCM,tI,tI⟩⟩,⟨zBJ,⟨zCL,tI,tI⟩,⟨zA0,tI,tI⟩⟩⟩,⟨zCm,⟨zDz,⟨zD5,tI,tI⟩,⟨zBb,tI,tI⟩⟩,⟨zC2,⟨zA7,tI,tI⟩,⟨zB7,tI,tI⟩⟩⟩⟩⟩,⟨zCx,⟨tI,⟨tI,⟨tI,⟨zBn,⟨zCP,tI,tI⟩,tI⟩,⟨zCI,tI,tI⟩⟩,⟨tI,⟨zBo,tI,tI⟩,tI⟩⟩,⟨zBH,⟨zDj,tI,⟨zEa,tI,tI⟩⟩,⟨zD3,tI,⟨zCb,tI,tI⟩⟩⟩⟩,⟨zBX,⟨zDL,⟨zDJ,⟨zBL,⟨zCY,tI,tI⟩,tI⟩,⟨zBY,tI,tI⟩⟩,⟨tI,⟨zCO,tI,tI⟩,⟨zB8,tI,tI⟩⟩⟩,⟨tI,⟨zA9,⟨zD1,tI,tI⟩,⟨zBZ,tI,tI⟩⟩,⟨zCV,tI,⟨zCT,tI,tI⟩⟩⟩⟩⟩⟩,⟨tI,⟨zEf,⟨tI,⟨tI,⟨tI,⟨zBD,⟨zC0,tI,tI⟩,tI⟩,⟨zC6,tI,tI⟩⟩,⟨tI,⟨zBQ,tI,tI⟩,⟨zCf,tI,tI⟩⟩⟩,⟨zDl,⟨zDq,⟨tI,⟨zDg,tI,tI⟩,tI⟩,tI⟩,⟨zDM,tI,⟨zB2,tI,tI⟩⟩⟩⟩,⟨zBI,⟨tI,⟨zDN,⟨zCj,⟨zDm,tI,tI⟩,tI⟩,⟨zBS,tI,tI⟩⟩,⟨tI,⟨zBm,tI,tI⟩,⟨zB5,tI,tI⟩⟩⟩,⟨tI,⟨zBx,⟨zDP,tI,tI⟩,⟨zBd,tI,tI⟩⟩,⟨zDy,tI,⟨zCD,tI,tI⟩⟩⟩⟩⟩,⟨zEd,⟨tI,⟨tI,⟨zCw,⟨zBk,⟨zDa,tI,tI⟩,tI⟩,⟨zBC,tI,tI⟩⟩,⟨tI,⟨zBe,tI,tI⟩,⟨zBT,tI,tI⟩⟩⟩,⟨zBt,⟨zC1,⟨zA5,tI,tI⟩,⟨zBV,tI,tI⟩⟩,⟨zDp,tI,⟨zCe,tI,tI⟩⟩⟩⟩,⟨tI,⟨zDZ,⟨zDV,⟨tI,⟨zDo,tI,tI⟩,tI⟩,⟨zBg,tI,tI⟩⟩,⟨zDI,⟨zBw,tI,tI⟩,⟨zC3,tI,tI⟩⟩⟩,⟨tI,⟨zCs,⟨zDh,tI,tI⟩,⟨zCF,tI,tI⟩⟩,⟨zBF,⟨zEb,tI,tI⟩,⟨zCB,tI,tI⟩⟩⟩⟩⟩⟩⟩,⟨tI,⟨tI,⟨tI,⟨tI,⟨tI,⟨tI,⟨zB0,⟨zCE,tI,tI⟩,tI⟩,⟨zDd,tI,tI⟩⟩,⟨zCn,⟨zBR,tI,tI⟩,⟨zCg,tI,tI⟩⟩⟩,⟨zDG,⟨zD4,⟨tI,⟨zDs,tI,tI⟩,tI⟩,tI⟩,⟨zD7,⟨zCK,tI,tI⟩,⟨zCd,tI,tI⟩⟩⟩⟩,⟨zDD,⟨zCq,⟨zDO,⟨zCo,⟨zC4,tI,tI⟩,tI⟩,⟨zCN,tI,tI⟩⟩,⟨zA8,⟨zBr,tI,tI⟩,⟨zA4,tI,tI⟩⟩⟩,⟨zBN,⟨zDE,⟨zD8,tI,tI⟩,⟨zBW,tI,tI⟩⟩,⟨zCZ,⟨zA6,tI,tI⟩,⟨zCa,tI,tI⟩⟩⟩⟩⟩,⟨zEe,⟨tI,⟨tI,⟨tI,⟨zBl,⟨zDu,tI,tI⟩,tI⟩,⟨zA2,tI,tI⟩⟩,⟨zCy,⟨zBa,tI,tI⟩,⟨zDr,tI,tI⟩⟩⟩,⟨zBA,⟨zC5,tI,⟨zDx,tI,tI⟩⟩,⟨zD0,tI,⟨zB4,tI,tI⟩⟩⟩⟩,⟨tI,⟨zDQ,⟨zDK,⟨tI,⟨zDe,tI,tI⟩,tI⟩,⟨zBh,tI,tI⟩⟩,⟨zBM,⟨zBc,tI,tI⟩,⟨zB9,tI,tI⟩⟩⟩,⟨tI,⟨zCt,⟨zDf,tI,tI⟩,⟨zCH,tI,tI⟩⟩,⟨zBf,tI,⟨zCS,tI,tI⟩⟩⟩⟩⟩⟩,⟨tI,⟨zDF,⟨tI,⟨tI,⟨zBK,⟨zBq,⟨zCQ,tI,tI⟩,tI⟩,⟨zBB,tI,tI⟩⟩,⟨tI,⟨zBp,tI,tI⟩,⟨zBO,tI,tI⟩⟩⟩,⟨zDB,⟨zDk,⟨tI,⟨zDn,tI,tI⟩,tI⟩,tI⟩,⟨zDR,tI,⟨zCC,tI,tI⟩⟩⟩⟩,⟨zCv,⟨tI,⟨zDT,⟨zCl,⟨zC8,tI,tI⟩,tI⟩,⟨zBv,tI,tI⟩⟩,⟨tI,⟨zBj,tI,tI⟩,⟨zCc,tI,tI⟩⟩⟩,⟨tI,⟨zBG,⟨zD2,tI,tI⟩,⟨zCG,tI,tI⟩⟩,⟨zCW,tI,⟨zC9,tI,tI⟩⟩⟩⟩⟩,⟨zCz,⟨tI,⟨tI,⟨zDS,⟨zBz,⟨zDc,tI,tI⟩,tI⟩,⟨zCi,tI,tI⟩⟩,⟨tI,⟨zBu,tI,tI⟩,⟨zBP,tI,tI⟩⟩⟩,⟨zCu,⟨zCU,tI,⟨zBU,tI,tI⟩⟩,⟨zC7,tI,⟨zB6,tI,tI⟩⟩⟩⟩,⟨tI,⟨zDb,⟨zDY,⟨tI,⟨zDt,tI,tI⟩,tI⟩,⟨zCJ,tI,tI⟩⟩,⟨zD9,⟨zBy,tI,tI⟩,⟨zA3,tI,tI⟩⟩⟩,⟨tI,⟨zCp,⟨zDw,tI,tI⟩,⟨zA1,tI,tI⟩⟩,⟨zBE,⟨zEc,tI,tI⟩,⟨zB3,tI,tI⟩⟩⟩⟩⟩⟩⟩⟩
def asciiSpace:List D:=List.map (fun n:Nat=>D.int .u8 (.ofNat n)) [0,0,0,0,0,0,0,0,0,1,1,1,1,1,0,0,0,0,0,0,0,0,0,0,0,0,0,0,0,0,0,0,1,0,0,0,0,0,0,0,0,0,0,0,0,0,0,0,0,0,0,0,0,0,0,0,0,0,0,0,0,0,0,0,0,0,0,0,0,0,0,0,0,0,0,0,0,0,0,0,0,0,0,0,0,0,0,0,0,0,0,0,0,0,0,0,0,0,0,0,0,0,0,0,0,0,0,0,0,0,0,0,0,0,0,0,0,0,0,0,0,0,0,0,0,0,0,0,0,0,0,0,0,0,0,0,0,0,0,0,0,0,0,0,0,0,0,0,0,0,0,0,0,0,0,0,0,0,0,0,0,0,0,0,0,0,0,0,0,0,0,0,0,0,0,0,0,0,0,0,0,0,0,0,0,0,0,0,0,0,0,0,0,0,0,0,0,0,0,0,0,0,0,0,0,0,0,0,0,0,0,0,0,0,0,0,0,0,0,0,0,0,0,0,0,0,0,0,0,0,0,0,0,0,0,0,0,0,0,0,0,0,0,0,0,0,0,0,0,0,0,0,0,0,0,0]
noncomputable def G0(g:Nat):Option (List D):=Bool.rec (motive:=fun _=>Option (List D)) (Bool.rec (motive:=fun _=>Option (List D)) (Bool.rec (motive:=fun _=>Option (List D)) none (some asciiSpace) (Nat.beq g 0)) (some L7) (Nat.beq g 3)) (some bT) (Nat.beq g 4)
noncomputable def X0:Ctx:=⟨G0,fns.get,fun f ds=>Bool.rec (motive:=fun _=>Option D) none (sU ds) (Nat.beq f 209)⟩
theorem zG1(s:ByteArray)(c:Int)(w:World):(callFunc 209 #[.string s,.int .u8 c]).run Tryz.prog w=.ok (.value (.int .i64 (Lib.indexByte s.data.toList c.toNat.toUInt8))) w:=by
 rw[run_callFunc_extern Tryz.func209 (by kernel_rfl) (by kernel_rfl) (by kernel_rfl) (e:=Extern.BytealgIndexByte.indexByte) (by kernel_rfl),Lib.run_indexByteString];rfl
theorem K5:Good Tryz.prog X0:=by
 refine⟨fun f af h=>?_,fun f ds d h=>?_,fun f l xs ys=>?_⟩
 ·have:=zH7.get h
  rw[Nat.one_mul,Nat.add_zero]at this;exact this
 ·intro β Φ H w vs B hw hv hu
  have h':Bool.rec (motive:=fun _=>Option D) none (sU ds) (Nat.beq f 209)=some d:=h
  cases h1:Nat.beq f 209 with
  | true=>
   rw[h1]at h';rw[Nat.eq_of_beq_eq_true h1];exact zAv zG1 h' hw hv
  | false=>rw[h1]at h';cases h'
 ·show Bool.rec (motive:=fun _=>Option D) none (sU (xs++[.yield l]++ys)) (Nat.beq f 209)=none
  rw[zAu]
  cases Nat.beq f 209 <;> rfl
theorem zGf:kT Tryz.prog X0.G iM [.str [100,101,102,32,105,102,32,116,104,101,110,32,101,108,105,102,32,101,108,115,101,32,101,110,100,32,97,115,32,116,114,121,32,99,97,116,99,104,32,114,101,100,117,99,101,32,102,111,114,101,97,99,104,32,108,97,98,101,108,32,98,114,101,97,107,32,111,114,32,97,110,100]] (.fsl [.str [100,101,102],.str [105,102],.str [116,104,101,110],.str [101,108,105,102],.str [101,108,115,101],.str [101,110,100],.str [97,115],.str [116,114,121],.str [99,97,116,99,104],.str [114,101,100,117,99,101],.str [102,111,114,101,97,99,104],.str [108,97,98,101,108],.str [98,114,101,97,107],.str [111,114],.str [97,110,100]] 15):=kT.mk' K5 4000 (by kernel_rfl) (by kernel_rfl)
theorem zGh:kT Tryz.prog X0.G iM [.str [47,47,32,111,114,32,97,110,100,32,61,32,124,61,32,43,61,32,45,61,32,42,61,32,47,61,32,37,61,32,47,47,61,32,61,61,32,33,61,32,60,61,32,62,61,32,60,32,62,32,43,32,45,32,42,32,47,32,37]] (.fsl [.str [47,47],.str [111,114],.str [97,110,100],.str [61],.str [124,61],.str [43,61],.str [45,61],.str [42,61],.str [47,61],.str [37,61],.str [47,47,61],.str [61,61],.str [33,61],.str [60,61],.str [62,61],.str [60],.str [62],.str [43],.str [45],.str [42],.str [47],.str [37]] 22):=kT.mk' K5 4000 (by kernel_rfl) (by kernel_rfl)
theorem zGe:kT Tryz.prog X0.G iM [.str [101,109,112,116,121,47,48,32,101,114,114,111,114,47,48,32,101,114,114,111,114,47,49,32,112,97,116,104,47,49,32,105,110,112,117,116,47,48,32,110,117,108,108,47,48,32,102,97,108,115,101,47,48,32,116,114,117,101,47,48]] (.fsl [.str [101,109,112,116,121,47,48],.str [101,114,114,111,114,47,48],.str [101,114,114,111,114,47,49],.str [112,97,116,104,47,49],.str [105,110,112,117,116,47,48],.str [110,117,108,108,47,48],.str [102,97,108,115,101,47,48],.str [116,114,117,101,47,48]] 8):=kT.mk' K5 4000 (by kernel_rfl) (by kernel_rfl)
theorem zGg:kT Tryz.prog X0.G iM [.str [116,101,120,116,32,106,115,111,110,32,98,97,115,101,54,52,32,98,97,115,101,54,52,100,32,117,114,105,32,104,116,109,108,32,99,115,118,32,116,115,118,32,115,104]] (.fsl [.str [116,101,120,116],.str [106,115,111,110],.str [98,97,115,101,54,52],.str [98,97,115,101,54,52,100],.str [117,114,105],.str [104,116,109,108],.str [99,115,118],.str [116,115,118],.str [115,104]] 9):=kT.mk' K5 4000 (by kernel_rfl) (by kernel_rfl)
noncomputable def X1:Ctx:=X0.tE iM [([.str [100,101,102,32,105,102,32,116,104,101,110,32,101,108,105,102,32,101,108,115,101,32,101,110,100,32,97,115,32,116,114,121,32,99,97,116,99,104,32,114,101,100,117,99,101,32,102,111,114,101,97,99,104,32,108,97,98,101,108,32,98,114,101,97,107,32,111,114,32,97,110,100]],.fsl [.str [100,101,102],.str [105,102],.str [116,104,101,110],.str [101,108,105,102],.str [101,108,115,101],.str [101,110,100],.str [97,115],.str [116,114,121],.str [99,97,116,99,104],.str [114,101,100,117,99,101],.str [102,111,114,101,97,99,104],.str [108,97,98,101,108],.str [98,114,101,97,107],.str [111,114],.str [97,110,100]] 15),([.str [47,47,32,111,114,32,97,110,100,32,61,32,124,61,32,43,61,32,45,61,32,42,61,32,47,61,32,37,61,32,47,47,61,32,61,61,32,33,61,32,60,61,32,62,61,32,60,32,62,32,43,32,45,32,42,32,47,32,37]],.fsl [.str [47,47],.str [111,114],.str [97,110,100],.str [61],.str [124,61],.str [43,61],.str [45,61],.str [42,61],.str [47,61],.str [37,61],.str [47,47,61],.str [61,61],.str [33,61],.str [60,61],.str [62,61],.str [60],.str [62],.str [43],.str [45],.str [42],.str [47],.str [37]] 22),([.str [101,109,112,116,121,47,48,32,101,114,114,111,114,47,48,32,101,114,114,111,114,47,49,32,112,97,116,104,47,49,32,105,110,112,117,116,47,48,32,110,117,108,108,47,48,32,102,97,108,115,101,47,48,32,116,114,117,101,47,48]],.fsl [.str [101,109,112,116,121,47,48],.str [101,114,114,111,114,47,48],.str [101,114,114,111,114,47,49],.str [112,97,116,104,47,49],.str [105,110,112,117,116,47,48],.str [110,117,108,108,47,48],.str [102,97,108,115,101,47,48],.str [116,114,117,101,47,48]] 8),([.str [116,101,120,116,32,106,115,111,110,32,98,97,115,101,54,52,32,98,97,115,101,54,52,100,32,117,114,105,32,104,116,109,108,32,99,115,118,32,116,115,118,32,115,104]],.fsl [.str [116,101,120,116],.str [106,115,111,110],.str [98,97,115,101,54,52],.str [98,97,115,101,54,52,100],.str [117,114,105],.str [104,116,109,108],.str [99,115,118],.str [116,115,118],.str [115,104]] 9)]
theorem JL:Good Tryz.prog X1:=K5.tE ⟨zGf,zGh,zGe,zGg,tI⟩
theorem zGi:kT Tryz.prog X1.G yV [] (.bool true):=kT.mk' JL 4000 (by kernel_rfl) (by kernel_rfl)
noncomputable def X2:Ctx:=X1.tE yV [([],.bool true)]
theorem zHn:Good Tryz.prog X2:=JL.tE ⟨zGi,tI⟩
end Go.AM.T
namespace Go.AM.T
open Go.Proofs
theorem IQ(X:Ctx)(f0:Nat)(l:List (List D×D))(f:Nat)(ds:List D)(h:Nat.beq f f0=false):(X.tE f0 l).prims f ds=X.prims f ds:=by
 unfold Ctx.tE;simp only[h]
theorem cx:CX X2 where
 fn _:=rfl
 pr f ds h:=by
  unfold zB at h;simp only[Bool.or_eq_false_iff]at h;obtain⟨⟨⟨h1,h2⟩,h3⟩,h4⟩:=h;unfold X2 X1;rw[IQ _ _ _ _ _ h4,IQ _ _ _ _ _ h3];have h1':Nat.beq f Jw=false:=h1;show Bool.rec (motive:=fun _=>Option D) none (sU ds) (Nat.beq f Jw)=none;rw[h1']
 p_strings_Fields_reserved:=by kernel_rfl
 p_strings_Fields_all:=by kernel_rfl
 p_strings_Fields_special:=by kernel_rfl
 p_strings_Fields_formats:=by kernel_rfl
 p_bolterlaw20_alive:=by kernel_rfl
 g_first:=by kernel_rfl
 g_acc:=by kernel_rfl
noncomputable abbrev XN:Ctx:=X2
theorem zHm:Good Tryz.prog XN:=zHn
end Go.AM.T
