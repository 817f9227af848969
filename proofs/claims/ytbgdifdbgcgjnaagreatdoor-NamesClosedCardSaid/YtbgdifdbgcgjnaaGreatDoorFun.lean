/- The functions, by name. -/
import Derived.Test.YtbgdifdbgcgjnaaGreatDoorCodes1
import Derived.Test.YtbgdifdbgcgjnaaGreatDoorAmK
set_option linter.unusedVariables false
set_option linter.unusedSimpArgs false
set_option linter.unnecessarySimpa false
set_option maxRecDepth 100000
namespace Go.AM.T
def fns:FTab:=.node (.node (.node (.node (.node (.node (.node (.node (.node (.nil) (some OX) (.nil)) (some Rp) (.nil)) (none) (.node (.nil) (some Wx) (.nil))) (some Ys) (.node (.node (.nil) (some Wt) (.nil)) (some Sn) (.node (.nil) (some Si) (.nil)))) (none) (.node (.node (.node (.node (.nil) (some Vv) (.nil)) (none) (.nil)) (some Yf) (.nil)) (some Uv) (.node (.node (.nil) (some Pl) (.nil)) (some Xh) (.node (.nil) (some Uo) (.nil))))) (none) (.node (.node (.node (.node (.node (.nil) (some Wj) (.nil)) (some Py) (.nil)) (some Ya) (.node (.nil) (some Uf) (.nil))) (some Td) (.node (.node (.nil) (some Ud) (.nil)) (some OK) (.node (.nil) (some Ou) (.nil)))) (some Yd) (.node (.node (.node (.nil) (some Yr) (.nil)) (some Wr) (.node (.nil) (some OI) (.nil))) (some Sq) (.node (.node (.nil) (some OG) (.nil)) (some Va) (.node (.nil) (some OS) (.nil)))))) (some Zj) (.node (.node (.node (.node (.node (.node (.nil) (some Uk) (.nil)) (some Pq) (.nil)) (none) (.node (.nil) (some Tz) (.nil))) (none) (.node (.node (.nil) (some Ps) (.nil)) (none) (.nil))) (none) (.node (.node (.nil) (some Vw) (.node (.nil) (some Yy) (.nil))) (some Qu) (.node (.nil) (some Yo) (.node (.nil) (some OU) (.nil))))) (some Tn) (.node (.node (.node (.node (.node (.nil) (some Uw) (.nil)) (some Qx) (.nil)) (some Xl) (.node (.nil) (some Rm) (.nil))) (some Xo) (.node (.node (.nil) (some Ui) (.nil)) (none) (.node (.nil) (some Rx) (.nil)))) (some Rl) (.node (.node (.node (.nil) (some Ym) (.nil)) (some Pa) (.node (.nil) (some Rn) (.nil))) (none) (.node (.nil) (some Ut) (.node (.nil) (some Ur) (.nil))))))) (none) (.node (.node (.node (.node (.node (.node (.node (.nil) (some Uy) (.nil)) (some Qo) (.nil)) (none) (.node (.nil) (some Vg) (.nil))) (none) (.node (.node (.nil) (some Re) (.nil)) (none) (.node (.nil) (some Sd) (.nil)))) (none) (.node (.node (.node (.node (.nil) (some Vt) (.nil)) (none) (.nil)) (some Wd) (.nil)) (some Vy) (.node (.nil) (some Xp) (.node (.nil) (some Rr) (.nil))))) (some PC) (.node (.node (.node (.node (.node (.nil) (some Vz) (.nil)) (some Sm) (.nil)) (some Xq) (.node (.nil) (some Rh) (.nil))) (none) (.node (.node (.nil) (some Pp) (.nil)) (none) (.node (.nil) (some Rw) (.nil)))) (some Qv) (.node (.node (.node (.nil) (some Xt) (.nil)) (some Qd) (.node (.nil) (some OJ) (.nil))) (none) (.node (.nil) (some Wp) (.node (.nil) (some Tt) (.nil)))))) (none) (.node (.node (.node (.node (.node (.node (.nil) (some Vm) (.nil)) (some Pn) (.nil)) (some Tm) (.node (.nil) (some Ql) (.nil))) (none) (.node (.node (.nil) (some Pe) (.nil)) (none) (.node (.nil) (some ON) (.nil)))) (none) (.node (.node (.node (.nil) (some OD) (.nil)) (some Uz) (.node (.nil) (some Rj) (.nil))) (some Pz) (.node (.nil) (some Wc) (.node (.nil) (some OV) (.nil))))) (some Zg) (.node (.node (.node (.node (.node (.nil) (some Wb) (.nil)) (none) (.nil)) (some Yc) (.node (.nil) (some Ph) (.nil))) (some Yi) (.node (.node (.nil) (some Qc) (.nil)) (some Xj) (.node (.nil) (some Vc) (.nil)))) (none) (.node (.node (.node (.nil) (some Vu) (.nil)) (some Tf) (.node (.nil) (some Tv) (.nil))) (none) (.node (.node (.nil) (some Za) (.nil)) (some Qr) (.node (.nil) (some OY) (.nil)))))))) (none) (.node (.node (.node (.node (.node (.node (.node (.node (.nil) (some PA) (.nil)) (some Ro) (.nil)) (none) (.node (.nil) (some Vq) (.nil))) (none) (.node (.node (.nil) (some Rg) (.nil)) (some Ss) (.node (.nil) (some Sf) (.nil)))) (none) (.node (.node (.node (.node (.nil) (some Wg) (.nil)) (none) (.nil)) (some Yq) (.nil)) (some Xf) (.node (.node (.nil) (some Ub) (.nil)) (some Yt) (.node (.nil) (some Sb) (.nil))))) (none) (.node (.node (.node (.node (.node (.nil) (some Vd) (.nil)) (some Sw) (.nil)) (some Xr) (.node (.nil) (some Uh) (.nil))) (some Ta) (.node (.node (.nil) (some Pw) (.nil)) (some OH) (.node (.nil) (some Oz) (.nil)))) (some Wy) (.node (.node (.node (.nil) (some Yu) (.nil)) (some Xc) (.node (.nil) (some Rk) (.nil))) (some Qy) (.node (.node (.nil) (some OE) (.nil)) (some Ux) (.node (.nil) (some OT) (.nil)))))) (none) (.node (.node (.node (.node (.node (.node (.nil) (some Wi) (.nil)) (some Po) (.nil)) (none) (.node (.nil) (some Ox) (.nil))) (none) (.node (.node (.nil) (some Pb) (.nil)) (some Tp) (.node (.nil) (some We) (.nil)))) (none) (.node (.node (.nil) (some Ve) (.node (.nil) (some Wm) (.nil))) (some Qi) (.node (.nil) (some Yk) (.node (.nil) (some Ru) (.nil))))) (some Zi) (.node (.node (.node (.node (.node (.nil) (some Vr) (.nil)) (none) (.nil)) (some Xn) (.node (.nil) (some Pk) (.nil))) (some Xv) (.node (.node (.nil) (some Pc) (.nil)) (some Cf) (.node (.nil) (some Rz) (.nil)))) (none) (.node (.node (.node (.nil) (some Vs) (.nil)) (some Tg) (.node (.nil) (some Ty) (.nil))) (none) (.node (.nil) (some Pf) (.node (.nil) (some Uq) (.nil))))))) (none) (.node (.node (.node (.node (.node (.node (.node (.nil) (some Um) (.nil)) (some Pv) (.nil)) (some OL) (.node (.nil) (some Qj) (.nil))) (none) (.node (.node (.nil) (some Pu) (.nil)) (none) (.node (.nil) (some Ra) (.nil)))) (none) (.node (.node (.node (.node (.nil) (some Wa) (.nil)) (none) (.nil)) (some Vx) (.nil)) (some Wv) (.node (.nil) (some Xw) (.node (.nil) (some OZ) (.nil))))) (some Xd) (.node (.node (.node (.node (.node (.nil) (some Vj) (.nil)) (some Sp) (.nil)) (some Xy) (.node (.nil) (some Qb) (.nil))) (none) (.node (.node (.nil) (some Pm) (.nil)) (none) (.node (.nil) (some Sa) (.nil)))) (some Tk) (.node (.node (.node (.nil) (some Yn) (.nil)) (some Qs) (.node (.nil) (some Tw) (.nil))) (none) (.node (.nil) (some Uu) (.node (.nil) (some Vl) (.nil)))))) (none) (.node (.node (.node (.node (.node (.node (.nil) (some Vo) (.nil)) (some Qg) (.nil)) (some Xx) (.node (.nil) (some Sj) (.nil))) (none) (.node (.node (.nil) (some Qa) (.nil)) (none) (.node (.nil) (some Rc) (.nil)))) (none) (.node (.node (.nil) (some Us) (.node (.nil) (some Ri) (.nil))) (some Tj) (.node (.nil) (some Vh) (.node (.nil) (some OR) (.nil))))) (some Tr) (.node (.node (.node (.node (.node (.nil) (some Wh) (.nil)) (none) (.nil)) (some Yh) (.node (.nil) (some Ua) (.nil))) (some Vn) (.node (.node (.nil) (some Qf) (.nil)) (some Yv) (.node (.nil) (some Oy) (.nil)))) (none) (.node (.node (.node (.nil) (some Wk) (.nil)) (some Sx) (.node (.nil) (some Ov) (.nil))) (none) (.node (.node (.nil) (some Zd) (.nil)) (some Qq) (.node (.nil) (some Rt) (.nil))))))))
def zB(f:Nat):Bool:=Nat.beq f Jw || Nat.beq f zFa || Nat.beq f iM || Nat.beq f yV
def L7:List D:=List.map (D.int .u8) [240,240,240,240,240,240,240,240,240,240,240,240,240,240,240,240,240,240,240,240,240,240,240,240,240,240,240,240,240,240,240,240,240,240,240,240,240,240,240,240,240,240,240,240,240,240,240,240,240,240,240,240,240,240,240,240,240,240,240,240,240,240,240,240,240,240,240,240,240,240,240,240,240,240,240,240,240,240,240,240,240,240,240,240,240,240,240,240,240,240,240,240,240,240,240,240,240,240,240,240,240,240,240,240,240,240,240,240,240,240,240,240,240,240,240,240,240,240,240,240,240,240,240,240,240,240,240,240,241,241,241,241,241,241,241,241,241,241,241,241,241,241,241,241,241,241,241,241,241,241,241,241,241,241,241,241,241,241,241,241,241,241,241,241,241,241,241,241,241,241,241,241,241,241,241,241,241,241,241,241,241,241,241,241,241,241,241,241,241,241,241,241,241,241,2,2,2,2,2,2,2,2,2,2,2,2,2,2,2,2,2,2,2,2,2,2,2,2,2,2,2,2,2,2,19,3,3,3,3,3,3,3,3,3,3,3,3,35,3,3,52,4,4,4,68,241,241,241,241,241,241,241,241,241,241,241]
def bT:List D:=[.int .u8 128,.int .u8 191,.int .u8 160,.int .u8 191,.int .u8 128,.int .u8 159,.int .u8 144,.int .u8 191,.int .u8 128,.int .u8 143,.int .u8 0,.int .u8 0,.int .u8 0,.int .u8 0,.int .u8 0,.int .u8 0,.int .u8 0,.int .u8 0,.int .u8 0,.int .u8 0,.int .u8 0,.int .u8 0,.int .u8 0,.int .u8 0,.int .u8 0,.int .u8 0,.int .u8 0,.int .u8 0,.int .u8 0,.int .u8 0,.int .u8 0,.int .u8 0]
structure CX(X:Ctx):Prop where
 fn:∀f,X.fn f=fns.get f
 pr:∀f ds,zB f=false→X.prims f ds=none
 p_strings_Fields_reserved:X.prims iM [.str [100,101,102,32,105,102,32,116,104,101,110,32,101,108,105,102,32,101,108,115,101,32,101,110,100,32,97,115,32,116,114,121,32,99,97,116,99,104,32,114,101,100,117,99,101,32,102,111,114,101,97,99,104,32,108,97,98,101,108,32,98,114,101,97,107,32,111,114,32,97,110,100]]=some (.fsl [.str [100,101,102],.str [105,102],.str [116,104,101,110],.str [101,108,105,102],.str [101,108,115,101],.str [101,110,100],.str [97,115],.str [116,114,121],.str [99,97,116,99,104],.str [114,101,100,117,99,101],.str [102,111,114,101,97,99,104],.str [108,97,98,101,108],.str [98,114,101,97,107],.str [111,114],.str [97,110,100]] 15)
 p_strings_Fields_all:X.prims iM [.str [47,47,32,111,114,32,97,110,100,32,61,32,124,61,32,43,61,32,45,61,32,42,61,32,47,61,32,37,61,32,47,47,61,32,61,61,32,33,61,32,60,61,32,62,61,32,60,32,62,32,43,32,45,32,42,32,47,32,37]]=some (.fsl [.str [47,47],.str [111,114],.str [97,110,100],.str [61],.str [124,61],.str [43,61],.str [45,61],.str [42,61],.str [47,61],.str [37,61],.str [47,47,61],.str [61,61],.str [33,61],.str [60,61],.str [62,61],.str [60],.str [62],.str [43],.str [45],.str [42],.str [47],.str [37]] 22)
 p_strings_Fields_special:X.prims iM [.str [101,109,112,116,121,47,48,32,101,114,114,111,114,47,48,32,101,114,114,111,114,47,49,32,112,97,116,104,47,49,32,105,110,112,117,116,47,48,32,110,117,108,108,47,48,32,102,97,108,115,101,47,48,32,116,114,117,101,47,48]]=some (.fsl [.str [101,109,112,116,121,47,48],.str [101,114,114,111,114,47,48],.str [101,114,114,111,114,47,49],.str [112,97,116,104,47,49],.str [105,110,112,117,116,47,48],.str [110,117,108,108,47,48],.str [102,97,108,115,101,47,48],.str [116,114,117,101,47,48]] 8)
 p_strings_Fields_formats:X.prims iM [.str [116,101,120,116,32,106,115,111,110,32,98,97,115,101,54,52,32,98,97,115,101,54,52,100,32,117,114,105,32,104,116,109,108,32,99,115,118,32,116,115,118,32,115,104]]=some (.fsl [.str [116,101,120,116],.str [106,115,111,110],.str [98,97,115,101,54,52],.str [98,97,115,101,54,52,100],.str [117,114,105],.str [104,116,109,108],.str [99,115,118],.str [116,115,118],.str [115,104]] 9)
 p_bolterlaw20_alive:X.prims yV []=some (.bool true)
 g_first:X.G 3=some L7
 g_acc:X.G 4=some bT
section
variable {X:Ctx}
def fO(res:List ARes)(keep:Option Nat)(n:Nat)(r:D×aA)(ex:Ex)(s:St):Prop:=match ex with
 | .exit _=>False
 | _=>finish ⟨0,.skip,res,keep⟩ n s=some r
theorem CX.call(hX:CX X){f np:Nat}{body:ACode}{res:List ARes}{keep:Option Nat}{pre caps args:List D}{H:aA}{r:D×aA}(hf:fns.get f=some ⟨np,body,res,keep⟩)(hp:zB f=false)(hl:(pre++args++caps).length<65535)(h:YS X H.length none body [] ⟨Env.nil.dL 0 (pre++args++caps),H,[]⟩ (fO res keep H.length r)):aU X (.func f pre caps) args H=some r:=
 zKo (hX.pr f _ hp) ((hX.fn f).trans hf) hl (zOa h fun ex s h=>by cases ex <;> exact h)
def oS(res:List ARes)(keep:Option Nat)(n:Nat)(P:D→aA→Prop)(ex:Ex)(s:St):Prop:=match ex with
 | .exit _=>False
 | _=>match finish ⟨0,.skip,res,keep⟩ n s with
  | some (d,H)=>P d H
  | none=>False
theorem CX.zKp(hX:CX X){f np:Nat}{body:ACode}{res:List ARes}{keep:Option Nat}{pre caps args:List D}{H:aA}{P:D→aA→Prop}(hf:fns.get f=some ⟨np,body,res,keep⟩)(hp:zB f=false)(hl:(pre++args++caps).length<65535)(h:YS X H.length none body [] ⟨Env.nil.dL 0 (pre++args++caps),H,[]⟩ (oS res keep H.length P)):∃d H',aU X (.func f pre caps) args H=some (d,H')∧P d H':=by
 unfold YS Ends at h;split at h
 ·rename_i ex s he
  have key:∃r:D×aA,P r.1 r.2∧fO res keep H.length r ex s:=by
   unfold oS at h;split at h
   ·exact h.elim
   ·rename_i hne
    split at h
    ·rename_i d H' hq
     refine⟨(d,H'),h,?_⟩;unfold fO;split
     ·exact hne _ rfl
     ·exact hq
    ·exact h.elim
  obtain⟨r,h1,h2⟩:=key;exact⟨r.1,r.2,hX.call hf hp hl (by unfold YS Ends;rw[he];exact h2),h1⟩
 ·exact h.elim
noncomputable abbrev cF (X:Ctx)(f:Nat):=aU X (.func f [] [])
def CR(X:Ctx)(f:Nat)(b:ACode)(res:List ARes)(keep:Option Nat):Prop:=∀{pre caps args:List D}{H:aA}{r:D×aA},YS X H.length none b [] ⟨Env.nil.dL 0 (pre++args++caps),H,[]⟩ (fO res keep H.length r)→∀(hl:(pre++args++caps).length<65535:=by simp),aU X (.func f pre caps) args H=some r
def CP(X:Ctx)(f:Nat)(b:ACode)(res:List ARes)(keep:Option Nat):Prop:=∀{pre caps args:List D}{H:aA}{P:D→aA→Prop},YS X H.length none b [] ⟨Env.nil.dL 0 (pre++args++caps),H,[]⟩ (oS res keep H.length P)→∀(hl:(pre++args++caps).length<65535:=by simp),∃d H',aU X (.func f pre caps) args H=some (d,H')∧P d H'
theorem CX.cr(hX:CX X){f np:Nat}{b:ACode}{res:List ARes}{keep:Option Nat}(hf:fns.get f=some ⟨np,b,res,keep⟩)(hp:zB f=false):CR X f b res keep:=fun h hl=>hX.call hf hp hl h
theorem CX.cp(hX:CX X){f np:Nat}{b:ACode}{res:List ARes}{keep:Option Nat}(hf:fns.get f=some ⟨np,b,res,keep⟩)(hp:zB f=false):CP X f b res keep:=fun h hl=>hX.zKp hf hp hl h
theorem zOE{res:List ARes}{keep:Option Nat}{n:Nat}{r:D×aA}{ex:Ex}{s:St}:fO res keep n r ex s=(match ex with|.exit _=>False|_=>finish ⟨0,.skip,res,keep⟩ n s=some r):=rfl
theorem zOF{res:List ARes}{keep:Option Nat}{n:Nat}{P:D→aA→Prop}{ex:Ex}{s:St}:oS res keep n P ex s=(match ex with|.exit _=>False|_=>match finish ⟨0,.skip,res,keep⟩ n s with|some (d,H)=>P d H|none=>False):=rfl
theorem zMi(hX:CX X):CR X HQ qP [.tmp 4] none:=@CX.cr _ hX _ Zj.nparams _ _ _ rfl rfl
theorem NF(hX:CX X):CR X p7 El [.cell 2 true 10,.tmp 3,.tmp 4] none:=@CX.cr _ hX _ Xd.nparams _ _ _ rfl rfl
theorem MR(hX:CX X):CR X sZ Dc [.tmp 2,.tmp 3] (some 0):=@CX.cr _ hX _ Tn.nparams _ _ _ rfl rfl
theorem zMg(hX:CX X):CR X J1 Zh [.tmp 2] none:=@CX.cr _ hX _ Zi.nparams _ _ _ rfl rfl
theorem zMf(hX:CX X):CR X u2 Zf [.tmp 4] none:=@CX.cr _ hX _ Zg.nparams _ _ _ rfl rfl
theorem zLh(hX:CX X):CR X yK Tq [.tmp 2] none:=@CX.cr _ hX _ Tr.nparams _ _ _ rfl rfl
theorem Nx(hX:CX X):CR X yU T3 [.tmp 2,.tmp 3,.tmp 4] none:=@CX.cr _ hX _ Yd.nparams _ _ _ rfl rfl
theorem O5(hX:CX X):CR X Kg xD [.cell 4 true 10,.tmp 5,.tmp 6] none:=@CX.cr _ hX _ Wy.nparams _ _ _ rfl rfl
theorem O1(hX:CX X):CR X yG wU [.tmp 2] none:=@CX.cr _ hX _ Qv.nparams _ _ _ rfl rfl
theorem zLe(hX:CX X):CR X Jq Th [.tmp 4] none:=@CX.cr _ hX _ Tk.nparams _ _ _ rfl rfl
theorem MO(hX:CX X):CR X lP A1 [.tmp 4] none:=@CX.cr _ hX _ Rl.nparams _ _ _ rfl rfl
theorem zMa(hX:CX X):CR X s8 B3 [.tmp 4] none:=@CX.cr _ hX _ Ys.nparams _ _ _ rfl rfl
theorem zLa(hX:CX X):CR X lQ Tc [.tmp 4] none:=@CX.cr _ hX _ Td.nparams _ _ _ rfl rfl
theorem zK9(hX:CX X):CR X m9 Sz [.tmp 2] none:=@CX.cr _ hX _ Ta.nparams _ _ _ rfl rfl
theorem rZ(hX:CX X):CR X I7 eO [] none:=@CX.cr _ hX _ Xo.nparams _ _ _ rfl rfl
theorem zLY(hX:CX X):CR X jW Xu [] none:=@CX.cr _ hX _ Xv.nparams _ _ _ rfl rfl
theorem Ny(hX:CX X):CR X r8 dC [.tmp 2] none:=@CX.cr _ hX _ Yi.nparams _ _ _ rfl rfl
theorem MX(hX:CX X):CR X dF Dw [.cell 2 true 10] none:=@CX.cr _ hX _ Vn.nparams _ _ _ rfl rfl
theorem zLx(hX:CX X):CR X iF Dl [] none:=@CX.cr _ hX _ Uv.nparams _ _ _ rfl rfl
theorem zLQ(hX:CX X):CR X Kh Xe [.tmp 2] none:=@CX.cr _ hX _ Xf.nparams _ _ _ rfl rfl
theorem zLI(hX:CX X):CR X kZ Ea [] none:=@CX.cr _ hX _ Vy.nparams _ _ _ rfl rfl
theorem zLN(hX:CX X):CR X p6 Wu [.tmp 2] none:=@CX.cr _ hX _ Wv.nparams _ _ _ rfl rfl
theorem zKI(hX:CX X):CR X Iz Qt [.tmp 2] none:=@CX.cr _ hX _ Qu.nparams _ _ _ rfl rfl
theorem zKC(hX:CX X):CR X l8 Qh [.cell 2 false 1] none:=@CX.cr _ hX _ Qi.nparams _ _ _ rfl rfl
theorem MJ(hX:CX X):CR X yF Bx [.cell 2 false 1] none:=@CX.cr _ hX _ Pz.nparams _ _ _ rfl rfl
theorem zLd(hX:CX X):CR X yI Ti [] none:=@CX.cr _ hX _ Tj.nparams _ _ _ rfl rfl
theorem zK5(hX:CX X):CR X kY iA [.tmp 6] none:=@CX.cr _ hX _ Sq.nparams _ _ _ rfl rfl
theorem GY(hX:CX X):CP X m3 Cg [.tmp 4] none:=@CX.cp _ hX _ Qy.nparams _ _ _ rfl rfl
theorem zLf(hX:CX X):CR X Jr Tl [.tmp 2] none:=@CX.cr _ hX _ Tm.nparams _ _ _ rfl rfl
theorem zLZ(hX:CX X):CR X rL En [.tmp 4] none:=@CX.cr _ hX _ Xx.nparams _ _ _ rfl rfl
theorem zL1(hX:CX X):CR X tC Xz [.tmp 2] none:=@CX.cr _ hX _ Ya.nparams _ _ _ rfl rfl
theorem zLW(hX:CX X):CR X vN xE [] none:=@CX.cr _ hX _ Xr.nparams _ _ _ rfl rfl
theorem NG(hX:CX X):CR X I8 qM [] none:=@CX.cr _ hX _ Xq.nparams _ _ _ rfl rfl
theorem zL0(hX:CX X):CR X pK T1 [] none:=@CX.cr _ hX _ Xy.nparams _ _ _ rfl rfl
theorem zLT(hX:CX X):CR X p8 Xk [] none:=@CX.cr _ hX _ Xl.nparams _ _ _ rfl rfl
theorem zLU(hX:CX X):CR X Kj Xm [] none:=@CX.cr _ hX _ Xn.nparams _ _ _ rfl rfl
theorem zL2(hX:CX X):CR X Kl Yb [.tmp 2] none:=@CX.cr _ hX _ Yc.nparams _ _ _ rfl rfl
theorem zL4(hX:CX X):CR X r7 Yg [.tmp 2] none:=@CX.cr _ hX _ Yh.nparams _ _ _ rfl rfl
theorem zL3(hX:CX X):CR X q8 Ye [.tmp 0] none:=@CX.cr _ hX _ Yf.nparams _ _ _ rfl rfl
theorem zL8(hX:CX X):CR X Ko Yp [.tmp 2,.tmp 3] none:=@CX.cr _ hX _ Yq.nparams _ _ _ rfl rfl
theorem zLJ(hX:CX X):CR X pJ A8 [.tmp 2] none:=@CX.cr _ hX _ Wd.nparams _ _ _ rfl rfl
theorem zLH(hX:CX X):CR X fR Dz [.tmp 2] none:=@CX.cr _ hX _ Vx.nparams _ _ _ rfl rfl
theorem zLG(hX:CX X):CR X pI A7 [.tmp 6] none:=@CX.cr _ hX _ Vw.nparams _ _ _ rfl rfl
theorem Nr(hX:CX X):CR X yM R5 [.cell 2 true 10] none:=@CX.cr _ hX _ Ve.nparams _ _ _ rfl rfl
theorem zLz(hX:CX X):CR X bE Dn [.tmp 6] none:=@CX.cr _ hX _ Uz.nparams _ _ _ rfl rfl
theorem zLw(hX:CX X):CR X yL Di [.cell 6 true 10] none:=@CX.cr _ hX _ Us.nparams _ _ _ rfl rfl
theorem ND(hX:CX X):CR X I4 Ei [.tmp 4] none:=@CX.cr _ hX _ Wr.nparams _ _ _ rfl rfl
theorem zLP(hX:CX X):CR X I5 Xb [.tmp 2] none:=@CX.cr _ hX _ Xc.nparams _ _ _ rfl rfl
theorem MN(hX:CX X):CR X l6 Cc [.tmp 4] none:=@CX.cr _ hX _ Qd.nparams _ _ _ rfl rfl
theorem zKH(hX:CX X):CR X G8 Qm [.tmp 2] none:=@CX.cr _ hX _ Qs.nparams _ _ _ rfl rfl
theorem lY(hX:CX X):CR X Ii kR [.tmp 2] none:=@CX.cr _ hX _ Pa.nparams _ _ _ rfl rfl
theorem zLc(hX:CX X):CR X Jp A4 [.tmp 2,.tmp 3] none:=@CX.cr _ hX _ Tg.nparams _ _ _ rfl rfl
theorem zLb(hX:CX X):CR X Jo Te [.tmp 4] none:=@CX.cr _ hX _ Tf.nparams _ _ _ rfl rfl
theorem zK8(hX:CX X):CR X pF Su [.tmp 6] none:=@CX.cr _ hX _ Sx.nparams _ _ _ rfl rfl
theorem zK3(hX:CX X):CR X m8 Sk [.tmp 6] none:=@CX.cr _ hX _ Sn.nparams _ _ _ rfl rfl
theorem zK6(hX:CX X):CR X Jm Sr [.tmp 8] none:=@CX.cr _ hX _ Ss.nparams _ _ _ rfl rfl
theorem zLg(hX:CX X):CR X yJ To [.tmp 4] none:=@CX.cr _ hX _ Tp.nparams _ _ _ rfl rfl
theorem zAl(hX:CX X):CP X yH Q2 [] none:=@CX.cp _ hX _ Cf.nparams _ _ _ rfl rfl
theorem zKN(hX:CX X):CR X yH Q2 [] none:=@CX.cr _ hX _ Cf.nparams _ _ _ rfl rfl
theorem zLS(hX:CX X):CR X Ki Xi [.tmp 4] none:=@CX.cr _ hX _ Xj.nparams _ _ _ rfl rfl
theorem NH(hX:CX X):CR X J0 dU [.tmp 4,.tmp 5] none:=@CX.cr _ hX _ Yv.nparams _ _ _ rfl rfl
theorem zLR(hX:CX X):CR X I6 Xg [.tmp 2] none:=@CX.cr _ hX _ Xh.nparams _ _ _ rfl rfl
theorem O6(hX:CX X):CR X Kp tY [.cell 2 true 3,.tmp 3] none:=@CX.cr _ hX _ Yt.nparams _ _ _ rfl rfl
theorem zLV(hX:CX X):CR X p9 T0 [] none:=@CX.cr _ hX _ Xp.nparams _ _ _ rfl rfl
theorem gS(hX:CX X):CR X Kk eD [.tmp 2] none:=@CX.cr _ hX _ Xw.nparams _ _ _ rfl rfl
theorem zAt(hX:CX X):CP X r9 kD [.tmp 2,.tmp 3] none:=@CX.cp _ hX _ Yo.nparams _ _ _ rfl rfl
theorem zL5(hX:CX X):CR X Km Yj [.tmp 0] none:=@CX.cr _ hX _ Yk.nparams _ _ _ rfl rfl
theorem MZ(hX:CX X):CR X Ke Eb [.cell 2 true 12] none:=@CX.cr _ hX _ Wc.nparams _ _ _ rfl rfl
theorem MU(hX:CX X):CR X o7 R6 [.cell 2 true 10] none:=@CX.cr _ hX _ Vh.nparams _ _ _ rfl rfl
theorem zLA(hX:CX X):CR X fL Dp [.tmp 4] none:=@CX.cr _ hX _ Va.nparams _ _ _ rfl rfl
theorem zLy(hX:CX X):CR X cN Dm [] none:=@CX.cr _ hX _ Ux.nparams _ _ _ rfl rfl
theorem zLL(hX:CX X):CR X tB Wo [.cell 2 true 10] none:=@CX.cr _ hX _ Wp.nparams _ _ _ rfl rfl
theorem MT(hX:CX X):CR X o4 Dk [.tmp 4] none:=@CX.cr _ hX _ Uu.nparams _ _ _ rfl rfl
theorem MS(hX:CX X):CR X H6 Dj [.tmp 4] none:=@CX.cr _ hX _ Ut.nparams _ _ _ rfl rfl
theorem MG(hX:CX X):CR X c9 Bu [.tmp 4] none:=@CX.cr _ hX _ Pf.nparams _ _ _ rfl rfl
theorem zKG(hX:CX X):CR X lO Q1 [] none:=@CX.cr _ hX _ Qr.nparams _ _ _ rfl rfl
theorem zKF(hX:CX X):CR X G7 Qp [.tmp 3] none:=@CX.cr _ hX _ Qq.nparams _ _ _ rfl rfl
theorem zKV(hX:CX X):CR X vK Ct [.tmp 4] none:=@CX.cr _ hX _ Rp.nparams _ _ _ rfl rfl
theorem zKU(hX:CX X):CR X sX Cs [.tmp 4] none:=@CX.cr _ hX _ Ro.nparams _ _ _ rfl rfl
theorem zKE(hX:CX X):CR X Iy Qn [.tmp 3] none:=@CX.cr _ hX _ Qo.nparams _ _ _ rfl rfl
theorem zKz(hX:CX X):CR X l4 Bw [.tmp 4] none:=@CX.cr _ hX _ Pv.nparams _ _ _ rfl rfl
theorem Nk(hX:CX X):CR X Ip P7 [.tmp 2] none:=@CX.cr _ hX _ Pq.nparams _ _ _ rfl rfl
theorem pX(hX:CX X):CR X G6 mA [.tmp 2] none:=@CX.cr _ hX _ Po.nparams _ _ _ rfl rfl
theorem Ni(hX:CX X):CR X Im P5 [.tmp 2] none:=@CX.cr _ hX _ Pn.nparams _ _ _ rfl rfl
theorem O0(hX:CX X):CR X Iw kC [.tmp 2] none:=@CX.cr _ hX _ Qg.nparams _ _ _ rfl rfl
theorem zKA(hX:CX X):CR X It Px [.tmp 2] none:=@CX.cr _ hX _ Py.nparams _ _ _ rfl rfl
theorem zK7(hX:CX X):CR X Jn Sv [.tmp 4] none:=@CX.cr _ hX _ Sw.nparams _ _ _ rfl rfl
theorem zK2(hX:CX X):CR X Jl Sl [.tmp 4] none:=@CX.cr _ hX _ Sm.nparams _ _ _ rfl rfl
theorem zK4(hX:CX X):CR X sY So [.tmp 6] none:=@CX.cr _ hX _ Sp.nparams _ _ _ rfl rfl
theorem zKM(hX:CX X):CR X l9 Qw [.tmp 4,.tmp 5] none:=@CX.cr _ hX _ Qx.nparams _ _ _ rfl rfl
theorem zL9(hX:CX X):CR X tD Er [.tmp 4] none:=@CX.cr _ hX _ Yr.nparams _ _ _ rfl rfl
theorem zMb(hX:CX X):CR X Kq Et [.cell 2 true 3,.tmp 3] none:=@CX.cr _ hX _ Yu.nparams _ _ _ rfl rfl
theorem zLX(hX:CX X):CR X q7 Xs [.tmp 4,.tmp 5] none:=@CX.cr _ hX _ Xt.nparams _ _ _ rfl rfl
theorem zL7(hX:CX X):CR X I9 B2 [.tmp 2] none:=@CX.cr _ hX _ Yn.nparams _ _ _ rfl rfl
theorem zL6(hX:CX X):CR X Kn Yl [.tmp 2] none:=@CX.cr _ hX _ Ym.nparams _ _ _ rfl rfl
theorem Ns(hX:CX X):CR X yO S2 [.tmp 2] none:=@CX.cr _ hX _ Vs.nparams _ _ _ rfl rfl
theorem zLF(hX:CX X):CR X eI S4 [.tmp 2] none:=@CX.cr _ hX _ Vu.nparams _ _ _ rfl rfl
theorem NC(hX:CX X):CR X yS Ef [.cell 2 true 10] none:=@CX.cr _ hX _ Wk.nparams _ _ _ rfl rfl
theorem zLM(hX:CX X):CR X rK Ws [.cell 6 true 10] none:=@CX.cr _ hX _ Wt.nparams _ _ _ rfl rfl
theorem zAp(hX:CX X):CP X Jd Rf [.tmp 4] none:=@CX.cp _ hX _ Rg.nparams _ _ _ rfl rfl
theorem zAo(hX:CX X):CP X Jc Rd [.tmp 4] none:=@CX.cp _ hX _ Re.nparams _ _ _ rfl rfl
theorem zKy(hX:CX X):CR X Ir Pt [.tmp 3] none:=@CX.cr _ hX _ Pu.nparams _ _ _ rfl rfl
theorem zKx(hX:CX X):CR X Iq Pr [.tmp 3] none:=@CX.cr _ hX _ Ps.nparams _ _ _ rfl rfl
theorem zKt(hX:CX X):CR X Ij fV [.cell 2 true 3] none:=@CX.cr _ hX _ Pb.nparams _ _ _ rfl rfl
theorem zKu(hX:CX X):CR X G4 zZ [.tmp 2] none:=@CX.cr _ hX _ Pe.nparams _ _ _ rfl rfl
theorem MK(hX:CX X):CR X Iu Bz [.tmp 2] none:=@CX.cr _ hX _ Qa.nparams _ _ _ rfl rfl
theorem zLo(hX:CX X):CR X Jx Uc [.tmp 0] none:=@CX.cr _ hX _ Ud.nparams _ _ _ rfl rfl
theorem MI(hX:CX X):CR X vI P8 [.tmp 2] none:=@CX.cr _ hX _ Pw.nparams _ _ _ rfl rfl
theorem Nj(hX:CX X):CR X Io P6 [.tmp 2] none:=@CX.cr _ hX _ Pp.nparams _ _ _ rfl rfl
theorem MH(hX:CX X):CR X G5 Bv [.tmp 2] none:=@CX.cr _ hX _ Pm.nparams _ _ _ rfl rfl
theorem zLq(hX:CX X):CR X Ka tW [.tmp 2] none:=@CX.cr _ hX _ Ui.nparams _ _ _ rfl rfl
theorem Nh(hX:CX X):CR X b9 P3 [.tmp 4] none:=@CX.cr _ hX _ Pc.nparams _ _ _ rfl rfl
theorem MM(hX:CX X):CR X Iv Ca [.tmp 2] none:=@CX.cr _ hX _ Qc.nparams _ _ _ rfl rfl
theorem zKB(hX:CX X):CR X l7 Qe [.tmp 2] none:=@CX.cr _ hX _ Qf.nparams _ _ _ rfl rfl
theorem Bg(hX:CX X):CR X vH lF [.tmp 2] none:=@CX.cr _ hX _ Pl.nparams _ _ _ rfl rfl
theorem zLn(hX:CX X):CR X Jv Dg [.tmp 4,.tmp 5] none:=@CX.cr _ hX _ Ub.nparams _ _ _ rfl rfl
theorem zMd(hX:CX X):CR X s9 Yz [.tmp 2] none:=@CX.cr _ hX _ Za.nparams _ _ _ rfl rfl
theorem zMe(hX:CX X):CR X Ks Zc [.tmp 2] none:=@CX.cr _ hX _ Zd.nparams _ _ _ rfl rfl
theorem zLO(hX:CX X):CR X Kf Ww [.tmp 2] none:=@CX.cr _ hX _ Wx.nparams _ _ _ rfl rfl
theorem zLE(hX:CX X):CR X H8 Vp [.cell 2 true 10] none:=@CX.cr _ hX _ Vq.nparams _ _ _ rfl rfl
theorem zLC(hX:CX X):CR X pG Vf [.tmp 4] none:=@CX.cr _ hX _ Vg.nparams _ _ _ rfl rfl
theorem Bh(hX:CX X):CR X vJ A0 [.tmp 4] none:=@CX.cr _ hX _ Qj.nparams _ _ _ rfl rfl
theorem Np(hX:CX X):CR X Jt Q8 [.tmp 2] none:=@CX.cr _ hX _ Tz.nparams _ _ _ rfl rfl
theorem zKs(hX:CX X):CR X Ig Ow [.cell 2 false 1,.cell 3 false 1] none:=@CX.cr _ hX _ Ox.nparams _ _ _ rfl rfl
theorem zKD(hX:CX X):CR X Ix Qk [.tmp 2] none:=@CX.cr _ hX _ Ql.nparams _ _ _ rfl rfl
theorem zK1(hX:CX X):CR X vM A3 [.tmp 2] none:=@CX.cr _ hX _ Sj.nparams _ _ _ rfl rfl
theorem zAs(hX:CX X):CP X Jy Ue [.tmp 2,.tmp 3] none:=@CX.cp _ hX _ Uf.nparams _ _ _ rfl rfl
theorem zLp(hX:CX X):CR X Jz Ug [.tmp 2] none:=@CX.cr _ hX _ Uh.nparams _ _ _ rfl rfl
theorem zKO(hX:CX X):CR X Je Cm [.tmp 4] none:=@CX.cr _ hX _ Rh.nparams _ _ _ rfl rfl
theorem ML(hX:CX X):CR X l5 Cb [.tmp 2] none:=@CX.cr _ hX _ Qb.nparams _ _ _ rfl rfl
theorem zKS(hX:CX X):CR X m6 Cq [.tmp 4] none:=@CX.cr _ hX _ Rm.nparams _ _ _ rfl rfl
theorem zKw(hX:CX X):CR X Il Pj [.tmp 2] none:=@CX.cr _ hX _ Pk.nparams _ _ _ rfl rfl
theorem zKv(hX:CX X):CR X l3 Pg [.tmp 2] none:=@CX.cr _ hX _ Ph.nparams _ _ _ rfl rfl
theorem zLm(hX:CX X):CR X Ju Q9 [.tmp 4] none:=@CX.cr _ hX _ Ua.nparams _ _ _ rfl rfl
theorem zMc(hX:CX X):CR X Kr Yx [.tmp 2] (some 0):=@CX.cr _ hX _ Yy.nparams _ _ _ rfl rfl
theorem zLK(hX:CX X):CR X yT Wl [.cell 2 true 10] none:=@CX.cr _ hX _ Wm.nparams _ _ _ rfl rfl
theorem zKQ(hX:CX X):CR X m5 Co [.tmp 6] none:=@CX.cr _ hX _ Rj.nparams _ _ _ rfl rfl
theorem zKP(hX:CX X):CR X m4 Cn [.tmp 6] none:=@CX.cr _ hX _ Ri.nparams _ _ _ rfl rfl
theorem zKR(hX:CX X):CR X Jf Cp [.tmp 6] none:=@CX.cr _ hX _ Rk.nparams _ _ _ rfl rfl
theorem zLk(hX:CX X):CR X n7 Df [.tmp 2] none:=@CX.cr _ hX _ Tw.nparams _ _ _ rfl rfl
theorem zKT(hX:CX X):CR X G9 Cr [.tmp 4] none:=@CX.cr _ hX _ Rn.nparams _ _ _ rfl rfl
theorem zLl(hX:CX X):CR X H5 Tx [.tmp 2] none:=@CX.cr _ hX _ Ty.nparams _ _ _ rfl rfl
theorem zLj(hX:CX X):CR X Js Tu [.tmp 2] none:=@CX.cr _ hX _ Tv.nparams _ _ _ rfl rfl
theorem zKr(hX:CX X):CR X Ie Oq [.tmp 2] none:=@CX.cr _ hX _ Ov.nparams _ _ _ rfl rfl
theorem zK0(hX:CX X):CR X Jk Sg [.tmp 4,.tmp 5,.tmp 6] none:=@CX.cr _ hX _ Si.nparams _ _ _ rfl rfl
theorem zKZ(hX:CX X):CR X Jj Se [.tmp 2] none:=@CX.cr _ hX _ Sf.nparams _ _ _ rfl rfl
theorem zAr(hX:CX X):CP X Ji Sc [.tmp 2,.tmp 3] none:=@CX.cp _ hX _ Sd.nparams _ _ _ rfl rfl
theorem zAm(hX:CX X):CP X Ja Qz [.tmp 4] none:=@CX.cp _ hX _ Ra.nparams _ _ _ rfl rfl
theorem NA(hX:CX X):CR X yP Ec [.cell 2 true 10] none:=@CX.cr _ hX _ We.nparams _ _ _ rfl rfl
theorem zAn(hX:CX X):CP X Jb Rb [.tmp 4] none:=@CX.cp _ hX _ Rc.nparams _ _ _ rfl rfl
theorem zKq(hX:CX X):CR X vG Ot [] none:=@CX.cr _ hX _ Ou.nparams _ _ _ rfl rfl
theorem GX(hX:CX X):CP X Ih Bt [.tmp 2,.tmp 3] none:=@CX.cp _ hX _ Oz.nparams _ _ _ rfl rfl
theorem zKX(hX:CX X):CR X Jh Rv [.tmp 4] none:=@CX.cr _ hX _ Rw.nparams _ _ _ rfl rfl
theorem GZ(hX:CX X):CP X m7 Q3 [.tmp 4,.tmp 5] none:=@CX.cp _ hX _ Sa.nparams _ _ _ rfl rfl
theorem Nn(hX:CX X):CR X nK A2 [.tmp 2] none:=@CX.cr _ hX _ Rx.nparams _ _ _ rfl rfl
theorem zKY(hX:CX X):CR X H3 Ry [.tmp 4,.tmp 5] none:=@CX.cr _ hX _ Rz.nparams _ _ _ rfl rfl
theorem zLB(hX:CX X):CR X H7 Vb [.cell 2 true 10] none:=@CX.cr _ hX _ Vc.nparams _ _ _ rfl rfl
theorem sT(hX:CX X):CP X nJ bX [.tmp 2,.tmp 3] none:=@CX.cp _ hX _ Oy.nparams _ _ _ rfl rfl
theorem zLt(hX:CX X):CR X o3 Un [.tmp 2] none:=@CX.cr _ hX _ Uo.nparams _ _ _ rfl rfl
theorem MQ(hX:CX X):CR X H4 Cy [.cell 4 false 1] none:=@CX.cr _ hX _ Sb.nparams _ _ _ rfl rfl
theorem zAq(hX:CX X):CP X Jg Rq [.tmp 2] (some 0):=@CX.cp _ hX _ Rr.nparams _ _ _ rfl rfl
theorem zKW(hX:CX X):CR X vL Rs [.tmp 2] none:=@CX.cr _ hX _ Ru.nparams _ _ _ rfl rfl
theorem zLi(hX:CX X):CR X n5 Ts [.tmp 6,.tmp 7] none:=@CX.cr _ hX _ Tt.nparams _ _ _ rfl rfl
theorem zLD(hX:CX X):CR X yN Vk [.cell 2 true 10] none:=@CX.cr _ hX _ Vl.nparams _ _ _ rfl rfl
theorem zLv(hX:CX X):CR X Kc R1 [.tmp 4] none:=@CX.cr _ hX _ Ur.nparams _ _ _ rfl rfl
theorem zLu(hX:CX X):CR X Kb R0 [.tmp 4] none:=@CX.cr _ hX _ Uq.nparams _ _ _ rfl rfl
theorem MP(hX:CX X):CR X pE Cv [] none:=@CX.cr _ hX _ Rt.nparams _ _ _ rfl rfl
theorem Nq(hX:CX X):CR X rJ R4 [.cell 2 true 10] none:=@CX.cr _ hX _ Uy.nparams _ _ _ rfl rfl
theorem zLs(hX:CX X):CR X o0 Ul [.tmp 2] none:=@CX.cr _ hX _ Um.nparams _ _ _ rfl rfl
theorem zLr(hX:CX X):CR X n8 Uj [.tmp 2] none:=@CX.cr _ hX _ Uk.nparams _ _ _ rfl rfl
theorem NB(hX:CX X):CR X I2 Ee [.cell 4 true 10] none:=@CX.cr _ hX _ Wi.nparams _ _ _ rfl rfl
theorem MW(hX:CX X):CR X pH Dv [.cell 2 true 10] none:=@CX.cr _ hX _ Vm.nparams _ _ _ rfl rfl
theorem O3(hX:CX X):CR X tA xB [.cell 2 true 4] none:=@CX.cr _ hX _ Vo.nparams _ _ _ rfl rfl
theorem kA(hX:CX X):CR X I3 jE [.cell 2 true 10] none:=@CX.cr _ hX _ Wj.nparams _ _ _ rfl rfl
theorem O2(hX:CX X):CR X o6 xA [.cell 4 true 10,.tmp 5] none:=@CX.cr _ hX _ Vd.nparams _ _ _ rfl rfl
theorem Nu(hX:CX X):CR X Kd S5 [.cell 4 true 4] none:=@CX.cr _ hX _ Vz.nparams _ _ _ rfl rfl
theorem MV(hX:CX X):CR X nL Dt [.cell 6 true 10] none:=@CX.cr _ hX _ Vj.nparams _ _ _ rfl rfl
theorem tQ(hX:CX X):CR X o5 qL [.cell 4 true 10] none:=@CX.cr _ hX _ Uw.nparams _ _ _ rfl rfl
theorem MY(hX:CX X):CR X o8 Dy [.cell 4 true 10] none:=@CX.cr _ hX _ Vr.nparams _ _ _ rfl rfl
theorem Nv(hX:CX X):CR X o9 S6 [.cell 4 true 10] none:=@CX.cr _ hX _ Wb.nparams _ _ _ rfl rfl
theorem O4(hX:CX X):CR X yR xC [.cell 4 true 10] none:=@CX.cr _ hX _ Wh.nparams _ _ _ rfl rfl
theorem Bi(hX:CX X):CR X I0 A6 [.cell 2 true 10,.tmp 3] none:=@CX.cr _ hX _ Vv.nparams _ _ _ rfl rfl
theorem Nw(hX:CX X):CR X yQ S7 [.cell 4 true 10] none:=@CX.cr _ hX _ Wg.nparams _ _ _ rfl rfl
theorem Nt(hX:CX X):CR X H9 S3 [.cell 6 true 10] none:=@CX.cr _ hX _ Vt.nparams _ _ _ rfl rfl
theorem Bj(hX:CX X):CR X I1 tX [.cell 2 true 10] none:=@CX.cr _ hX _ Wa.nparams _ _ _ rfl rfl
theorem zKJ(hX:CX X)(H:aA):aU X (.func iM [] []) [.str [100,101,102,32,105,102,32,116,104,101,110,32,101,108,105,102,32,101,108,115,101,32,101,110,100,32,97,115,32,116,114,121,32,99,97,116,99,104,32,114,101,100,117,99,101,32,102,111,114,101,97,99,104,32,108,97,98,101,108,32,98,114,101,97,107,32,111,114,32,97,110,100]] H=some (.fsl [.str [100,101,102],.str [105,102],.str [116,104,101,110],.str [101,108,105,102],.str [101,108,115,101],.str [101,110,100],.str [97,115],.str [116,114,121],.str [99,97,116,99,104],.str [114,101,100,117,99,101],.str [102,111,114,101,97,99,104],.str [108,97,98,101,108],.str [98,114,101,97,107],.str [111,114],.str [97,110,100]] 15,H):=Bf hX.p_strings_Fields_reserved
theorem zKL(hX:CX X)(H:aA):aU X (.func iM [] []) [.str [47,47,32,111,114,32,97,110,100,32,61,32,124,61,32,43,61,32,45,61,32,42,61,32,47,61,32,37,61,32,47,47,61,32,61,61,32,33,61,32,60,61,32,62,61,32,60,32,62,32,43,32,45,32,42,32,47,32,37]] H=some (.fsl [.str [47,47],.str [111,114],.str [97,110,100],.str [61],.str [124,61],.str [43,61],.str [45,61],.str [42,61],.str [47,61],.str [37,61],.str [47,47,61],.str [61,61],.str [33,61],.str [60,61],.str [62,61],.str [60],.str [62],.str [43],.str [45],.str [42],.str [47],.str [37]] 22,H):=Bf hX.p_strings_Fields_all
theorem zKK(hX:CX X)(H:aA):aU X (.func iM [] []) [.str [116,101,120,116,32,106,115,111,110,32,98,97,115,101,54,52,32,98,97,115,101,54,52,100,32,117,114,105,32,104,116,109,108,32,99,115,118,32,116,115,118,32,115,104]] H=some (.fsl [.str [116,101,120,116],.str [106,115,111,110],.str [98,97,115,101,54,52],.str [98,97,115,101,54,52,100],.str [117,114,105],.str [104,116,109,108],.str [99,115,118],.str [116,115,118],.str [115,104]] 9,H):=Bf hX.p_strings_Fields_formats
theorem zMh(hX:CX X)(H:aA):aU X (.func yV [] []) [] H=some (.bool true,H):=Bf hX.p_bolterlaw20_alive
end
end Go.AM.T
