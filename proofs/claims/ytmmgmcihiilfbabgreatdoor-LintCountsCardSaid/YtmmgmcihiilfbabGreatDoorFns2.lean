/- The functions of the abstract machine are the program's. -/
import Derived.Test.YtmmgmcihiilfbabGreatDoorProg
import Derived.Test.YtmmgmcihiilfbabGreatDoorZs
import Derived.Test.YtmmgmcihiilfbabGreatDoorQuiet
import Derived.KernelRfl
set_option linter.unusedVariables false
set_option maxRecDepth 100000
namespace Go.AM.T
open Go.Proofs
def am262 : AFunc := ⟨1, .seq (.reg [⟨some 1,none,.allocB z6 []⟩])
(.seq (.block 0 (.seq (.reg [⟨some 5,none,.load false 1 (.t 0)⟩,⟨some 6,none,.call (.c (.func 117 [] [])) [.t 5]⟩,⟨some 7,none,.bin .eql (.t 6) (.c (j 5))⟩,⟨some 4,none,.mov (.t 7)⟩])
(.cond (.t 4) (.seq (.reg [⟨some 8,none,.load false 1 (.t 0)⟩,⟨some 9,none,.call (.c (.func 125 [] [])) [.t 8]⟩,⟨some 10,none,.field false 1 1 (.t 9)⟩,⟨some 11,none,.build z6 [(0,1,.c (j 1)),(1,1,.t 10)]⟩,⟨none,none,.store 4 (.t 1) (.t 11)⟩])
(.ret)) (.seq (.reg [⟨some 13,none,.load false 1 (.t 0)⟩,⟨some 14,none,.call (.c (.func 80 [] [])) [.t 13,.c (j 4),.c (.str [91])]⟩,⟨some 12,none,.mov (.t 14)⟩])
(.cond (.t 12) (.seq (.reg [⟨some 15,none,.load false 1 (.t 0)⟩,⟨some 16,none,.load false 1 (.t 0)⟩,⟨some 17,none,.mkf 257 [.t 16] []⟩,⟨some 18,none,.call (.c (.func 256 [] [])) [.t 15,.c (.str [44]),.t 17]⟩,⟨some 2,none,.mov (.t 18)⟩])
(.seq (.reg [⟨some 19,none,.load false 1 (.t 0)⟩,⟨some 20,none,.call (.c (.func 122 [] [])) [.t 19,.c (j 4),.c (.str [93])]⟩])
(.seq (.reg [⟨some 21,none,.mov (.t 2)⟩,⟨some 22,none,.build z6 [(0,1,.c (j 2)),(3,1,.t 21)]⟩,⟨none,none,.store 4 (.t 1) (.t 22)⟩])
(.ret)))) (.skip))))))
(.seq (.reg [⟨some 23,none,.load false 1 (.t 0)⟩,⟨some 24,none,.call (.c (.func 122 [] [])) [.t 23,.c (j 4),.c (.str [123])]⟩])
(.seq (.reg [⟨some 25,none,.build z6 [(0,1,.c (j 3))]⟩,⟨some 3,none,.hole 4⟩,⟨some 3,none,.fill 4 ⟨.t 25, none⟩⟩])
(.seq (.reg [⟨some 26,none,.load false 1 (.t 0)⟩,⟨some 27,none,.mkf 264 [] [.t 0,.t 3]⟩,⟨some 28,none,.call (.c (.func 263 [] [])) [.t 26,.c (.str [44]),.t 27]⟩])
(.seq (.reg [⟨some 29,none,.load false 1 (.t 0)⟩,⟨some 30,none,.call (.c (.func 122 [] [])) [.t 29,.c (j 4),.c (.str [125])]⟩])
(.seq (.reg [⟨some 31,none,.load true 4 (.t 3)⟩,⟨none,none,.store 4 (.t 1) (.t 31)⟩])
(.ret))))))), [.cell 1 true 4], none⟩
theorem amok262 : FnOk Tryz.prog 262 am262 := FnOk.mk' quiets Tryz.func262 (pols := [(8, 1, .hole),(8, 2, .hole)]) (keep := none) (by kernel_rfl) rfl
def am266 : AFunc := ⟨1, .seq (.reg [⟨some 2,none,.resv 1⟩])
(.seq (.seq (.reg [⟨some 3,none,.mov (.t 0)⟩,⟨some 4,none,.eqS false (.t 3) (.c (.nilsl))⟩])
(.cond (.t 4) (.seq (.reg [⟨some 2,none,.resv 1⟩])
(.ret)) (.skip)))
(.seq (.reg [⟨some 5,none,.bslR 1 [] 0 []⟩,⟨some 6,none,.mov (.t 0)⟩,⟨some 7,none,.append 1 4 (.t 5) (.t 6)⟩,⟨some 2,none,.mov (.t 7)⟩])
(.ret))), [.tmp 2], none⟩
theorem amok266 : FnOk Tryz.prog 266 am266 := FnOk.mk' quiets Tryz.func266 (pols := [(0, 0, .res [(0,1)]),(2, 0, .res [(0,1)])]) (keep := none) (by kernel_rfl) rfl
end Go.AM.T
