/- bolterlaw22.PreludeOwn: what comes ahead of the choice; what comes behind the stores. -/
import Derived.Test.YtmmgmcihiilfbaaGreatDoorTop
import Derived.Test.YtmmgmcihiilfbaaGreatDoorSameD
import Derived.Test.YtmmgmcihiilfbaaGreatDoorAmK
import Derived.KernelRfl
set_option linter.unusedVariables false
set_option maxRecDepth 100000
namespace Go.AM.T
open Go.Proofs
def cOwna : ACode := .reg [⟨some 2,none,.mov (.c (.bool false))⟩]
def cOwnb : ACode := .seq (.reg [⟨some 5,none,.call (.c (.func 8 [] [])) []⟩,⟨some 6,none,.un .not (.t 5)⟩])
 (.cond (.t 6) (.seq (.reg [⟨some 2,none,.mov (.c (.bool false))⟩])
 (.ret)) (.skip))
def cOwnc : ACode := .reg [⟨some 7,none,.call (.c (.func 9 [] [])) []⟩,⟨some 8,none,.call (.c (.func 11 [] [])) []⟩,⟨some 3,none,.mov (.t 7)⟩,⟨some 4,none,.mov (.t 8)⟩]
def cOwnd : ACode := .reg [⟨some 9,none,.mov (.t 0)⟩,⟨some 10,none,.mov (.t 3)⟩,⟨some 11,none,.len false (.t 10)⟩,⟨some 12,none,.bin .rem (.t 9) (.t 11)⟩,⟨some 13,none,.mov (.t 3)⟩,⟨some 14,none,.len false (.t 13)⟩,⟨some 15,none,.bin .add (.t 12) (.t 14)⟩,⟨some 16,none,.mov (.t 3)⟩,⟨some 17,none,.len false (.t 16)⟩,⟨some 18,none,.bin .rem (.t 15) (.t 17)⟩,⟨some 0,none,.mov (.t 18)⟩]
def cOwne : ACode := .reg [⟨some 19,none,.mov (.t 3)⟩,⟨some 20,none,.mov (.t 0)⟩,⟨some 21,none,.iaddr 12 (.t 19) (.t 20)⟩,⟨some 22,none,.faddr 2 (.t 21)⟩,⟨some 23,none,.faddr 6 (.t 22)⟩,⟨none,none,.store 1 (.t 23) (.c (.nilsl))⟩]
def cOwnf : ACode := .reg [⟨some 24,none,.mov (.t 3)⟩,⟨some 25,none,.mov (.t 0)⟩,⟨some 26,none,.mov (.t 4)⟩,⟨some 27,none,.mov (.t 0)⟩,⟨some 28,none,.iaddr 12 (.t 24) (.t 25)⟩,⟨some 29,none,.faddr 0 (.t 28)⟩,⟨none,none,.store 1 (.t 29) (.c (.str [115,112,111,105,108,116]))⟩,⟨some 30,none,.iaddr 1 (.t 26) (.t 27)⟩,⟨none,none,.store 1 (.t 30) (.c (.str [115,112,111,105,108,116]))⟩]
def cOwnr : ACode := .seq (.reg [⟨some 31,none,.call (.c (.func 9 [] [])) []⟩,⟨some 32,none,.call (.c (.func 13 [] [])) []⟩,⟨some 33,none,.call (.c (.func 12 [] [])) [.t 31,.t 32]⟩,⟨some 34,none,.mov (.t 33)⟩,⟨some 35,some (34,true),.call (.c (.func 11 [] [])) []⟩,⟨some 36,some (34,true),.call (.c (.func 15 [] [])) []⟩,⟨some 37,some (34,true),.call (.c (.func 14 [] [])) [.t 35,.t 36]⟩,⟨some 38,none,.pick (.t 34) (.t 37) (.c (.bool false))⟩,⟨some 2,none,.mov (.t 38)⟩])
 (.ret)
def am9k : AFunc := ⟨am9.nparams, am9.body, am9.results, some 0⟩
theorem amok9k : FnOk Tryz.prog 9 am9k := FnOk.mk' quiets Tryz.func9 (pols := [(0, 0, .res [(0,12)]),(1, 0, .res [(0,12)]),(5, 6, .hole),(5, 7, .hole)]) (keep := some 0) (by kernel_rfl) rfl
def am11k : AFunc := ⟨am11.nparams, am11.body, am11.results, some 0⟩
theorem amok11k : FnOk Tryz.prog 11 am11k := FnOk.mk' quiets Tryz.func11 (pols := [(0, 0, .res [(0,1)]),(1, 0, .res [(0,1)]),(4, 2, .hole),(4, 3, .hole),(5, 7, .frz)]) (keep := some 0) (by kernel_rfl) rfl
noncomputable def X5 : Ctx := ((((((X0.fnset 9 am9k).fnset 11 am11k).layer 24 pars).layer 13 [([], dDefs)]).layer 15 [([], dNames)]).layer 8 [([], .bool true)]).layer 17 sds
theorem good5 : Good Tryz.prog X5 := ((((((good0.fnset amok9k).fnset amok11k).layer (f0 := 24) (l := pars) parsS).layer (f0 := 13) (l := [([], dDefs)]) ⟨rdefs_ok, True.intro⟩).layer (f0 := 15) (l := [([], dNames)]) ⟨rnames_ok, True.intro⟩).layer (f0 := 8) (l := [([], .bool true)]) ⟨alive_ok, True.intro⟩).layer (f0 := 17) (l := sds) sdsok
def dDefsC : List D := match dDefs with | .fsl l _ => l | _ => []
def dNamesC : List D := match dNames with | .fsl l _ => l | _ => []
def eOwn (x0 x1 x2 x3 : D) : Env := (.node (.node (.node (.node (.node .nil (x2) .nil) (.osl 0 576 0 48) .nil) (.osl 0 576 0 48) (.node .nil (j 48) .nil)) (.undef) (.node (.node (.node .nil (j 48) .nil) (x0) .nil) (.bool true) (.node .nil (.osl 0 576 0 48) .nil))) (x3) (.node (.node (.node (.node .nil (.osl 0 576 0 48) .nil) (.osl 1 48 0 48) .nil) (.osl 1 48 0 48) (.node .nil (x1) .nil)) (.bool false) (.node (.node (.node .nil (x3) .nil) (.osl 0 576 0 48) .nil) (.bool false) (.node .nil (j 48) .nil))))
theorem Own_a (n : Int) : fexec (.seq cOwna (.seq cOwnb (.seq cOwnc cOwnd))) X5.G 0 (fcallN X5 2000) 2000 none ⟨fargs .nil [.int .i64 n] 0, [], []⟩ = some (.normal, ⟨eOwn (.int .i64 n) (.int .i64 (n.tmod (.ofNat 48))) (.int .i64 (IntKind.i64.wrap (n.tmod (.ofNat 48) + .ofNat 48))) (.int .i64 ((IntKind.i64.wrap (n.tmod (.ofNat 48) + .ofNat 48)).tmod (.ofNat 48))), [.row 12 dDefsC false, .row 1 dNamesC false], []⟩) := by kernel_rfl
def eOwn2 (y0 y2 y3 y4 y5 y6 y7 y8 y9 y10 y11 y12 y13 y14 y15 y16 y17 y18 y19 y20 y21 y22 y23 y24 y25 y26 y27 y28 y29 y30 : D) : Env := (.node (.node (.node (.node (.node .nil (y15) .nil) (y7) (.node .nil (y23) .nil)) (y3) (.node (.node .nil (y19) .nil) (y11) (.node .nil (y27) .nil))) (.undef) (.node (.node (.node .nil (y17) .nil) (y9) (.node .nil (y25) .nil)) (y5) (.node (.node .nil (y21) .nil) (y13) (.node .nil (y29) .nil)))) (y0) (.node (.node (.node (.node .nil (y16) .nil) (y8) (.node .nil (y24) .nil)) (y4) (.node (.node .nil (y20) .nil) (y12) (.node .nil (y28) .nil))) (y2) (.node (.node (.node .nil (y18) .nil) (y10) (.node .nil (y26) .nil)) (y6) (.node (.node .nil (y22) .nil) (y14) (.node .nil (y30) .nil)))))
theorem Own_c (y0 y2 y3 y4 y5 y6 y7 y8 y9 y10 y11 y12 y13 y14 y15 y16 y17 y18 y19 y20 y21 y22 y23 y24 y25 y26 y27 y28 y29 y30 : D) (Ra Rb : List D) : ffin am4 (fexec cOwnr X5.G 0 (fcallN X5 2000) 2000 none ⟨eOwn2 y0 y2 y3 y4 y5 y6 y7 y8 y9 y10 y11 y12 y13 y14 y15 y16 y17 y18 y19 y20 y21 y22 y23 y24 y25 y26 y27 y28 y29 y30, [.row 12 Ra false, .row 1 Rb false], []⟩) = some (.bool true, []) := by kernel_rfl
end Go.AM.T
