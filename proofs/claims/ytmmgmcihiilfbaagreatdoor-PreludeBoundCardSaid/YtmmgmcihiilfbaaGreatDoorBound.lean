/- bolter/bolterlaw22.PreludeBound: what comes ahead of the choice. -/
import Derived.Test.YtmmgmcihiilfbaaGreatDoorTop
import Derived.KernelRfl
set_option linter.unusedVariables false
set_option maxRecDepth 100000
namespace Go.AM.T
open Go.Proofs
def cBounda : ACode := .reg [⟨some 2,none,.mov (.c (.bool false))⟩]
def cBoundb : ACode := .seq (.reg [⟨some 7,none,.call (.c (.func 8 [] [])) []⟩,⟨some 8,none,.un .not (.t 7)⟩])
 (.cond (.t 8) (.seq (.reg [⟨some 2,none,.mov (.c (.bool false))⟩])
 (.ret)) (.skip))
def cBoundc : ACode := .reg [⟨some 9,none,.call (.c (.func 9 [] [])) []⟩,⟨some 3,none,.mov (.t 9)⟩]
def cBoundd : ACode := .reg [⟨some 10,none,.mov (.t 0)⟩,⟨some 11,none,.mov (.t 3)⟩,⟨some 12,none,.len false (.t 11)⟩,⟨some 13,none,.bin .rem (.t 10) (.t 12)⟩,⟨some 14,none,.mov (.t 3)⟩,⟨some 15,none,.len false (.t 14)⟩,⟨some 16,none,.bin .add (.t 13) (.t 15)⟩,⟨some 17,none,.mov (.t 3)⟩,⟨some 18,none,.len false (.t 17)⟩,⟨some 19,none,.bin .rem (.t 16) (.t 18)⟩,⟨some 0,none,.mov (.t 19)⟩]
def cBoundr : ACode := .seq (.reg [⟨some 20,none,.mov (.t 3)⟩,⟨some 21,none,.mov (.t 0)⟩,⟨some 22,none,.mov (.t 0)⟩,⟨some 23,none,.bin .add (.t 22) (.c (j 1))⟩,⟨some 24,none,.sliceL 12 (.t 20) (some (.t 21)) (some (.t 23)) none⟩,⟨some 25,none,.build [j 0,.str [],.str [],.bool false,.nilsl,j 0,.nilsl,.nilsl,.nilsl,j 0] [(0,1,.c (j 1))]⟩,⟨some 26,none,.bslF [j 0,.str [],.str [],.bool false,.nilsl,j 0,.nilsl,.nilsl,.nilsl,j 0] 1 [(0,10,.t 25)]⟩,⟨some 27,none,.build [j 0,.str [],.str [],.bool false,.nilsl,j 0,.nilsl,.nilsl,.nilsl,j 0] [(0,1,.c (j 25)),(8,1,.t 24),(6,1,.t 26)]⟩,⟨some 4,none,.hole 10⟩,⟨some 4,none,.fill 10 ⟨.t 27, none⟩⟩])
 (.seq (.dreg [(⟨some 29,none,.load true 10 (.t 4)⟩,0,2),(⟨some 30,none,.call (.c (.func 11 [] [])) []⟩,0,0),(⟨some 31,none,.mov (.t 0)⟩,0,0),(⟨some 32,none,.sliceL 1 (.t 30) none (some (.t 31)) none⟩,0,0),(⟨some 33,none,.call (.c (.func 10 [] [])) [.t 29,.t 32,.c (.nilsl)]⟩,0,0),(⟨some 28,none,.mov (.t 33)⟩,0,0),(⟨some 34,none,.extract (.t 28) 0⟩,0,0),(⟨some 35,none,.extract (.t 28) 1⟩,0,0),(⟨some 5,none,.mov (.t 34)⟩,0,0),(⟨some 6,none,.mov (.t 35)⟩,0,0)])
 (.seq (.reg [⟨some 36,none,.mov (.t 6)⟩,⟨some 37,none,.bin .eql (.t 36) (.c (j 0))⟩,⟨some 38,none,.mov (.t 37)⟩,⟨some 39,some (38,true),.mov (.t 5)⟩,⟨some 40,some (38,true),.bin .eql (.t 39) (.c (j 0))⟩,⟨some 41,none,.pick (.t 38) (.t 40) (.c (.bool false))⟩,⟨some 2,none,.mov (.t 41)⟩])
 (.ret)))
def eBound (x0 x1 x2 x3 : D) : Env := (.node (.node (.node (.node (.node .nil (j 48) .nil) (.bool true) .nil) (dDefs) (.node (.node .nil (x3) .nil) (dDefs) .nil)) (.undef) (.node (.node (.node .nil (dDefs) .nil) (dDefs) .nil) (.undef) (.node .nil (x1) .nil))) (x3) (.node (.node (.node (.node .nil (x2) .nil) (.bool false) .nil) (.undef) (.node .nil (j 48) .nil)) (.bool false) (.node (.node (.node .nil (j 48) .nil) (x0) .nil) (.undef) (.node .nil (dDefs) .nil))))
theorem Bound_a (n : Int) : fexec (.seq cBounda (.seq cBoundb (.seq cBoundc cBoundd))) X4.G 0 (fcallN X4 2000) 2000 none ⟨fargs .nil [.int .i64 n] 0, [], []⟩ = some (.normal, ⟨eBound (.int .i64 n) (.int .i64 (n.tmod (.ofNat 48))) (.int .i64 (IntKind.i64.wrap (n.tmod (.ofNat 48) + .ofNat 48))) (.int .i64 ((IntKind.i64.wrap (n.tmod (.ofNat 48) + .ofNat 48)).tmod (.ofNat 48))), [], []⟩) := by kernel_rfl
end Go.AM.T
