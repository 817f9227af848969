/- The functions of the abstract machine are the program's. -/
import Derived.Test.YtmmgmcihiilfbabGreatDoorProg
import Derived.Test.YtmmgmcihiilfbabGreatDoorZs
import Derived.Test.YtmmgmcihiilfbabGreatDoorQuiet
import Derived.KernelRfl
set_option linter.unusedVariables false
set_option maxRecDepth 100000
namespace Go.AM.T
open Go.Proofs
def am3 : AFunc := ⟨1, .seq (.reg [⟨some 2,none,.mov (.c (.bool false))⟩])
(.seq (.reg [⟨some 7,none,.mov (.t 0)⟩,⟨some 8,none,.call (.c (.func 4 [] [])) [.t 7]⟩,⟨some 3,none,.hole 7⟩,⟨some 3,none,.fill 7 ⟨.t 8, none⟩⟩])
(.seq (.reg [⟨some 4,none,.allocB z0 []⟩])
(.seq (.seq (.reg [⟨some 5,none,.mov (.c (j 0))⟩])
(.block 0 (.loop (.seq (.seq (.reg [⟨some 9,none,.mov (.t 5)⟩,⟨some 10,none,.mov (.t 0)⟩,⟨some 11,none,.len false (.t 10)⟩,⟨some 12,none,.bin .lss (.t 9) (.t 11)⟩])
(.cond (.t 12) (.skip) (.exit 0)))
(.seq (.block 1 (.seq (.reg [⟨some 15,none,.mov (.t 0)⟩,⟨some 16,none,.mov (.t 5)⟩,⟨some 17,none,.iaddr 3 (.t 15) (.t 16)⟩,⟨some 18,none,.faddr 0 (.t 17)⟩,⟨some 19,none,.load false 1 (.t 18)⟩,⟨some 6,none,.mov (.t 19)⟩])
(.seq (.seq (.reg [⟨some 20,none,.mov (.t 6)⟩,⟨some 21,none,.bin .lss (.t 20) (.c (j 1))⟩,⟨some 22,none,.mov (.t 21)⟩,⟨some 23,some (22,false),.mov (.t 6)⟩,⟨some 24,some (22,false),.bin .gtr (.t 23) (.c (j 6))⟩,⟨some 25,none,.pick (.t 22) (.c (.bool true)) (.t 24)⟩])
(.cond (.t 25) (.reg [⟨some 6,none,.mov (.c (j 0))⟩]) (.skip)))
(.reg [⟨some 26,none,.mov (.t 6)⟩,⟨some 27,none,.iaddrA 7 1 (.t 4) (.t 26)⟩,⟨some 28,none,.load false 1 (.t 27)⟩,⟨some 29,none,.bin .add (.t 28) (.c (j 1))⟩,⟨some 30,none,.iaddrA 7 1 (.t 4) (.t 26)⟩,⟨none,none,.store 1 (.t 30) (.t 29)⟩]))))
(.reg [⟨some 13,none,.mov (.t 5)⟩,⟨some 14,none,.bin .add (.t 13) (.c (j 1))⟩,⟨some 5,none,.mov (.t 14)⟩]))))))
(.seq (.reg [⟨some 31,none,.load true 7 (.t 3)⟩,⟨some 32,none,.load true 7 (.t 4)⟩,⟨some 33,none,.eqA false [.i,.i,.i,.i,.i,.i,.i] (.t 31) (.t 32)⟩,⟨some 34,none,.mov (.t 33)⟩,⟨some 35,some (34,true),.call (.c (.func 5 [] [])) []⟩,⟨some 36,none,.pick (.t 34) (.t 35) (.c (.bool false))⟩,⟨some 2,none,.mov (.t 36)⟩])
(.ret))))), [.tmp 2], none⟩
theorem amok3 : FnOk Tryz.prog 3 am3 := FnOk.mk' quiets Tryz.func3 (pols := [(1, 2, .hole),(1, 3, .hole)]) (keep := none) (by kernel_rfl) rfl
def am4 : AFunc := ⟨1, .seq (.reg [⟨some 2,none,.allocB z0 []⟩])
(.seq (.reg [⟨some 3,none,.allocB z0 []⟩])
(.seq (.seq (.reg [⟨some 6,none,.mov (.t 0)⟩,⟨some 7,none,.len false (.t 6)⟩,⟨some 8,none,.mov (.c (j 0))⟩])
(.block 0 (.loop (.seq (.reg [⟨some 9,none,.bin .lss (.t 8) (.t 7)⟩])
(.seq (.cond (.t 9) (.skip) (.exit 0))
(.seq (.block 1 (.seq (.reg [⟨some 10,none,.iaddr 3 (.t 6) (.t 8)⟩,⟨some 11,none,.load true 3 (.t 10)⟩,⟨some 5,none,.hole 3⟩,⟨some 5,none,.fill 3 ⟨.t 11, none⟩⟩])
(.seq (.reg [⟨some 12,none,.faddr 0 (.t 5)⟩,⟨some 13,none,.load false 1 (.t 12)⟩,⟨some 14,none,.bin .lss (.t 13) (.c (j 1))⟩,⟨some 15,none,.mov (.t 14)⟩,⟨some 16,some (15,false),.faddr 0 (.t 5)⟩,⟨some 17,some (15,false),.load false 1 (.t 16)⟩,⟨some 18,some (15,false),.bin .gtr (.t 17) (.c (j 6))⟩,⟨some 19,none,.pick (.t 15) (.c (.bool true)) (.t 18)⟩])
(.cond (.t 19) (.reg [⟨some 20,none,.iaddrA 7 1 (.t 3) (.c (j 0))⟩,⟨some 21,none,.load false 1 (.t 20)⟩,⟨some 22,none,.bin .add (.t 21) (.c (j 1))⟩,⟨some 23,none,.iaddrA 7 1 (.t 3) (.c (j 0))⟩,⟨none,none,.store 1 (.t 23) (.t 22)⟩]) (.reg [⟨some 24,none,.faddr 0 (.t 5)⟩,⟨some 25,none,.load false 1 (.t 24)⟩,⟨some 26,none,.iaddrA 7 1 (.t 3) (.t 25)⟩,⟨some 27,none,.load false 1 (.t 26)⟩,⟨some 28,none,.bin .add (.t 27) (.c (j 1))⟩,⟨some 29,none,.iaddrA 7 1 (.t 3) (.t 25)⟩,⟨none,none,.store 1 (.t 29) (.t 28)⟩])))))
(.reg [⟨some 30,none,.bin .add (.t 8) (.c (j 1))⟩,⟨some 8,none,.mov (.t 30)⟩])))))))
(.seq (.reg [⟨some 31,none,.load true 7 (.t 3)⟩,⟨none,none,.store 7 (.t 2) (.t 31)⟩])
(.ret)))), [.cell 2 true 7], none⟩
theorem amok4 : FnOk Tryz.prog 4 am4 := FnOk.mk' quiets Tryz.func4 (pols := [(4, 2, .hole),(4, 3, .hole)]) (keep := none) (by kernel_rfl) rfl
def am5 : AFunc := ⟨0, .seq (.reg [⟨some 0,none,.mov (.c (.bool false))⟩])
(.seq (.reg [⟨some 5,none,.call (.c (.func 6 [] [])) [.c (.str [49,32,97,115,32,36,120,32,124,32,50])]⟩,⟨some 4,none,.mov (.t 5)⟩,⟨some 6,none,.extract (.t 4) 0⟩,⟨some 7,none,.extract (.t 4) 1⟩,⟨some 8,none,.extract (.t 4) 2⟩,⟨some 1,none,.mov (.t 6)⟩,⟨some 2,none,.mov (.t 7)⟩,⟨some 3,none,.mov (.t 8)⟩])
(.seq (.reg [⟨some 9,none,.mov (.t 3)⟩,⟨some 10,none,.call (.c (.func 7 [] [])) [.t 9]⟩,⟨some 11,none,.bin .eql (.t 10) (.c (j 0))⟩,⟨some 12,none,.mov (.t 11)⟩,⟨some 13,some (12,true),.mov (.t 1)⟩,⟨some 14,some (12,true),.len false (.t 13)⟩,⟨some 15,some (12,true),.bin .eql (.t 14) (.c (j 1))⟩,⟨some 16,none,.pick (.t 12) (.t 15) (.c (.bool false))⟩,⟨some 17,none,.mov (.t 16)⟩,⟨some 18,some (17,true),.mov (.t 1)⟩,⟨some 19,some (17,true),.iaddr 3 (.t 18) (.c (j 0))⟩,⟨some 20,some (17,true),.load true 3 (.t 19)⟩,⟨some 21,some (17,true),.build z1 [(0,1,.c (j 2)),(1,1,.c (.str [120]))]⟩,⟨some 22,some (17,true),.eqA false [.i,.s,.i] (.t 20) (.t 21)⟩,⟨some 23,none,.pick (.t 17) (.t 22) (.c (.bool false))⟩,⟨some 0,none,.mov (.t 23)⟩])
(.ret))), [.tmp 0], none⟩
theorem amok5 : FnOk Tryz.prog 5 am5 := FnOk.mk' quiets Tryz.func5 (pols := []) (keep := none) (by kernel_rfl) rfl
def am6 : AFunc := ⟨1, .seq (.reg [⟨some 2,none,.mov (.c (.nilsl))⟩,⟨some 3,none,.mov (.c (j 0))⟩,⟨some 4,none,.mov (.c (j 0))⟩])
(.seq (.reg [⟨some 10,none,.mov (.t 0)⟩,⟨some 11,none,.call (.c (.func 8 [] [])) [.t 10]⟩,⟨some 9,none,.mov (.t 11)⟩,⟨some 12,none,.extract (.t 9) 0⟩,⟨some 13,none,.extract (.t 9) 1⟩,⟨some 14,none,.extract (.t 9) 2⟩,⟨some 5,none,.hole 10⟩,⟨some 5,none,.fill 10 ⟨.t 12, none⟩⟩,⟨some 6,none,.mov (.t 13)⟩,⟨some 7,none,.mov (.t 14)⟩])
(.seq (.seq (.reg [⟨some 15,none,.mov (.t 7)⟩,⟨some 16,none,.bin .neq (.t 15) (.c (j 0))⟩])
(.cond (.t 16) (.seq (.reg [⟨some 17,none,.mov (.t 6)⟩,⟨some 18,none,.mov (.t 7)⟩,⟨some 2,none,.mov (.c (.nilsl))⟩,⟨some 3,none,.mov (.t 17)⟩,⟨some 4,none,.mov (.t 18)⟩])
(.ret)) (.skip)))
(.seq (.reg [⟨some 20,none,.load true 10 (.t 5)⟩,⟨some 21,none,.call (.c (.func 9 [] [])) [.t 20]⟩,⟨some 19,none,.mov (.t 21)⟩,⟨some 22,none,.extract (.t 19) 0⟩,⟨some 23,none,.extract (.t 19) 1⟩,⟨some 8,none,.mov (.t 22)⟩,⟨some 7,none,.mov (.t 23)⟩])
(.seq (.reg [⟨some 24,none,.mov (.t 8)⟩,⟨some 25,none,.mov (.t 7)⟩,⟨some 2,none,.mov (.t 24)⟩,⟨some 3,none,.mov (.c (j 0))⟩,⟨some 4,none,.mov (.t 25)⟩])
(.ret))))), [.tmp 2,.tmp 3,.tmp 4], none⟩
theorem amok6 : FnOk Tryz.prog 6 am6 := FnOk.mk' quiets Tryz.func6 (pols := [(1, 6, .hole),(1, 7, .hole)]) (keep := none) (by kernel_rfl) rfl
def am7 : AFunc := ⟨1, .seq (.reg [⟨some 2,none,.mov (.c (j 0))⟩])
(.seq (.reg [⟨some 3,none,.mov (.t 0)⟩,⟨some 2,none,.mov (.t 3)⟩])
(.ret)), [.tmp 2], none⟩
theorem amok7 : FnOk Tryz.prog 7 am7 := FnOk.mk' quiets Tryz.func7 (pols := []) (keep := none) (by kernel_rfl) rfl
def am8 : AFunc := ⟨1, .seq (.reg [⟨some 2,none,.allocB z2 []⟩,⟨some 3,none,.mov (.c (j 0))⟩,⟨some 4,none,.mov (.c (j 0))⟩])
(.seq (.reg [⟨some 9,none,.mov (.t 0)⟩,⟨some 10,none,.call (.c (.func 10 [] [])) [.t 9]⟩,⟨some 8,none,.mov (.t 10)⟩,⟨some 11,none,.extract (.t 8) 0⟩,⟨some 12,none,.extract (.t 8) 1⟩,⟨some 13,none,.extract (.t 8) 2⟩,⟨some 5,none,.mov (.t 11)⟩,⟨some 6,none,.mov (.t 12)⟩,⟨some 7,none,.mov (.t 13)⟩])
(.seq (.seq (.reg [⟨some 14,none,.mov (.t 7)⟩,⟨some 15,none,.bin .neq (.t 14) (.c (j 0))⟩])
(.cond (.t 15) (.seq (.reg [⟨some 16,none,.build z2 []⟩,⟨some 17,none,.mov (.t 6)⟩,⟨some 18,none,.mov (.t 7)⟩,⟨none,none,.store 10 (.t 2) (.t 16)⟩,⟨some 3,none,.mov (.t 17)⟩,⟨some 4,none,.mov (.t 18)⟩])
(.ret)) (.skip)))
(.seq (.reg [⟨some 19,none,.mov (.t 5)⟩,⟨some 20,none,.mov (.t 0)⟩,⟨some 21,none,.len true (.t 20)⟩,⟨some 22,none,.call (.c (.func 11 [] [])) [.t 19,.t 21]⟩,⟨some 23,none,.extract (.t 22) 0⟩,⟨some 24,none,.extract (.t 22) 1⟩,⟨some 25,none,.extract (.t 22) 2⟩,⟨none,none,.store 10 (.t 2) (.t 23)⟩,⟨some 3,none,.mov (.t 24)⟩,⟨some 4,none,.mov (.t 25)⟩])
(.ret)))), [.cell 2 true 10,.tmp 3,.tmp 4], none⟩
theorem amok8 : FnOk Tryz.prog 8 am8 := FnOk.mk' quiets Tryz.func8 (pols := []) (keep := none) (by kernel_rfl) rfl
def am9 : AFunc := ⟨1, .seq (.reg [⟨some 1,none,.boxB 10 (.t 0) []⟩,⟨some 2,none,.mov (.c (.nilsl))⟩,⟨some 3,none,.mov (.c (j 0))⟩])
(.seq (.seq (.reg [⟨some 6,none,.load true 10 (.t 1)⟩,⟨some 7,none,.call (.c (.func 12 [] [])) [.t 6]⟩,⟨some 4,none,.mov (.t 7)⟩])
(.seq (.reg [⟨some 8,none,.mov (.t 4)⟩,⟨some 9,none,.bin .neq (.t 8) (.c (j 0))⟩])
(.cond (.t 9) (.seq (.reg [⟨some 10,none,.mov (.t 4)⟩,⟨some 2,none,.mov (.c (.nilsl))⟩,⟨some 3,none,.mov (.t 10)⟩])
(.ret)) (.skip))))
(.seq (.reg [⟨some 11,none,.build [.nilsl] []⟩,⟨some 12,none,.boxB 1 (.t 11) [(0,3)]⟩,⟨some 5,none,.mov (.t 12)⟩])
(.seq (.reg [⟨some 13,none,.mov (.t 5)⟩,⟨some 14,none,.load true 10 (.t 1)⟩,⟨some 15,none,.call (.c (.func 13 [] [])) [.t 13,.t 14,.c (.nilsl)]⟩])
(.seq (.reg [⟨some 16,none,.mov (.t 5)⟩,⟨some 17,none,.nilchk (.t 16)⟩,⟨some 18,none,.faddr 0 (.t 17)⟩,⟨some 19,none,.load false 1 (.t 18)⟩,⟨some 2,none,.mov (.t 19)⟩,⟨some 3,none,.mov (.c (j 0))⟩])
(.ret))))), [.tmp 2,.tmp 3], none⟩
theorem amok9 : FnOk Tryz.prog 9 am9 := FnOk.mk' quiets Tryz.func9 (pols := [(4, 1, .res [(0,3)])]) (keep := none) (by kernel_rfl) rfl
def am10 : AFunc := ⟨1, .seq (.reg [⟨some 2,none,.allocB [.nilsl] []⟩,⟨some 3,none,.allocB [j 0] []⟩,⟨some 4,none,.allocB [j 0] []⟩])
(.seq (.seq (.reg [⟨some 6,none,.mov (.t 0)⟩,⟨some 7,none,.len true (.t 6)⟩,⟨some 8,none,.bin .gtr (.t 7) (.c (j 65536))⟩])
(.cond (.t 8) (.seq (.reg [⟨none,none,.store 1 (.t 2) (.c (.nilsl))⟩,⟨none,none,.store 1 (.t 3) (.c (j 0))⟩,⟨none,none,.store 1 (.t 4) (.c (j 5))⟩])
(.ret)) (.skip)))
(.seq (.reg [⟨some 9,none,.mkf 14 [] [.t 2,.t 3,.t 4]⟩,⟨none,none,.dfrop 14 (.t 9)⟩])
(.seq (.reg [⟨some 10,none,.mov (.t 0)⟩,⟨some 11,none,.build z3 [(0,1,.t 10)]⟩,⟨some 12,none,.boxB 3 (.t 11) [(2,6)]⟩,⟨some 5,none,.mov (.t 12)⟩])
(.seq (.reg [⟨some 13,none,.mov (.t 5)⟩,⟨some 14,none,.call (.c (.func 15 [] [])) [.t 13,.c (j 0)]⟩])
(.seq (.reg [⟨some 15,none,.mov (.t 5)⟩,⟨some 16,none,.nilchk (.t 15)⟩,⟨some 17,none,.faddr 2 (.t 16)⟩,⟨some 18,none,.load false 1 (.t 17)⟩,⟨some 19,none,.mov (.t 0)⟩,⟨some 20,none,.len true (.t 19)⟩,⟨none,none,.store 1 (.t 2) (.t 18)⟩,⟨none,none,.store 1 (.t 3) (.t 20)⟩,⟨none,none,.store 1 (.t 4) (.c (j 0))⟩])
(.ret)))))), [.cell 2 false 1,.cell 3 false 1,.cell 4 false 1], none⟩
theorem amok10 : FnOk Tryz.prog 10 am10 := FnOk.mk' quiets Tryz.func10 (pols := [(3, 1, .quiet 14),(4, 2, .res [(2,6)])]) (keep := none) (by kernel_rfl) rfl
def am11 : AFunc := ⟨2, .seq (.reg [⟨some 4,none,.allocB z2 []⟩,⟨some 5,none,.allocB [j 0] []⟩,⟨some 6,none,.allocB [j 0] []⟩])
(.seq (.seq (.reg [⟨some 11,none,.mov (.t 0)⟩,⟨some 12,none,.len false (.t 11)⟩,⟨some 13,none,.mov (.c (j 0))⟩])
(.block 0 (.loop (.seq (.reg [⟨some 14,none,.bin .lss (.t 13) (.t 12)⟩])
(.seq (.cond (.t 14) (.skip) (.exit 0))
(.seq (.block 1 (.seq (.reg [⟨some 15,none,.iaddr 6 (.t 11) (.t 13)⟩,⟨some 16,none,.load true 6 (.t 15)⟩,⟨some 8,none,.hole 6⟩,⟨some 8,none,.fill 6 ⟨.t 16, none⟩⟩])
(.seq (.reg [⟨some 17,none,.load true 6 (.t 8)⟩,⟨some 18,none,.call (.c (.func 16 [] [])) [.t 17]⟩,⟨some 9,none,.mov (.t 18)⟩])
(.seq (.reg [⟨some 19,none,.mov (.t 9)⟩,⟨some 20,none,.bin .neq (.t 19) (.c (j 0))⟩])
(.cond (.t 20) (.seq (.dreg [(⟨some 21,none,.build z2 []⟩,0,0),(⟨some 22,none,.faddr 5 (.t 8)⟩,0,0),(⟨some 23,none,.load false 1 (.t 22)⟩,2,5),(⟨some 24,none,.mov (.t 9)⟩,0,0),(⟨none,none,.store 10 (.t 4) (.t 21)⟩,0,0),(⟨none,none,.store 1 (.t 5) (.t 23)⟩,0,0),(⟨none,none,.store 1 (.t 6) (.t 24)⟩,0,0)])
(.ret)) (.skip))))))
(.reg [⟨some 25,none,.bin .add (.t 13) (.c (j 1))⟩,⟨some 13,none,.mov (.t 25)⟩])))))))
(.seq (.reg [⟨some 26,none,.mkf 17 [] [.t 4,.t 5,.t 6]⟩,⟨none,none,.dfrop 17 (.t 26)⟩])
(.seq (.reg [⟨some 27,none,.mov (.t 0)⟩,⟨some 28,none,.mov (.t 1)⟩,⟨some 29,none,.build z4 [(0,1,.t 27),(1,1,.t 28)]⟩,⟨some 30,none,.boxB 4 (.t 29) []⟩,⟨some 10,none,.mov (.t 30)⟩])
(.seq (.reg [⟨some 31,none,.mov (.t 10)⟩,⟨some 32,none,.call (.c (.func 18 [] [])) [.t 31]⟩,⟨some 33,none,.mov (.t 1)⟩,⟨none,none,.store 10 (.t 4) (.t 32)⟩,⟨none,none,.store 1 (.t 5) (.t 33)⟩,⟨none,none,.store 1 (.t 6) (.c (j 0))⟩])
(.ret))))), [.cell 4 true 10,.cell 5 false 1,.cell 6 false 1], none⟩
theorem amok11 : FnOk Tryz.prog 11 am11 := FnOk.mk' quiets Tryz.func11 (pols := [(3, 2, .hole),(3, 3, .hole),(8, 1, .quiet 17)]) (keep := none) (by kernel_rfl) rfl
def am12 : AFunc := ⟨1, .seq (.reg [⟨some 1,none,.boxB 10 (.t 0) []⟩,⟨some 2,none,.mov (.c (j 0))⟩])
(.seq (.block 0 (.seq (.reg [⟨some 4,none,.load true 10 (.t 1)⟩,⟨some 5,none,.call (.c (.func 19 [] [])) [.t 4]⟩,⟨some 6,none,.bin .gtr (.t 5) (.c (j 60))⟩,⟨some 3,none,.mov (.t 6)⟩])
(.cond (.t 3) (.seq (.reg [⟨some 2,none,.mov (.c (j 42))⟩])
(.ret)) (.seq (.reg [⟨some 8,none,.load true 10 (.t 1)⟩,⟨some 9,none,.call (.c (.func 20 [] [])) [.t 8]⟩,⟨some 10,none,.bin .gtr (.t 9) (.c (j 4096))⟩,⟨some 7,none,.mov (.t 10)⟩])
(.cond (.t 7) (.seq (.reg [⟨some 2,none,.mov (.c (j 3))⟩])
(.ret)) (.seq (.reg [⟨some 12,none,.faddr 0 (.t 1)⟩,⟨some 13,none,.load false 1 (.t 12)⟩,⟨some 14,none,.bin .eql (.t 13) (.c (j 11))⟩,⟨some 15,none,.mov (.t 14)⟩,⟨some 16,some (15,false),.faddr 0 (.t 1)⟩,⟨some 17,some (15,false),.load false 1 (.t 16)⟩,⟨some 18,some (15,false),.bin .eql (.t 17) (.c (j 14))⟩,⟨some 19,none,.pick (.t 15) (.c (.bool true)) (.t 18)⟩,⟨some 11,none,.mov (.t 19)⟩])
(.cond (.t 11) (.seq (.reg [⟨some 2,none,.mov (.c (j 9))⟩])
(.ret)) (.skip))))))))
(.seq (.reg [⟨some 20,none,.load true 10 (.t 1)⟩,⟨some 21,none,.call (.c (.func 21 [] [])) [.t 20]⟩,⟨some 2,none,.mov (.t 21)⟩])
(.ret))), [.tmp 2], none⟩
theorem amok12 : FnOk Tryz.prog 12 am12 := FnOk.mk' quiets Tryz.func12 (pols := []) (keep := none) (by kernel_rfl) rfl
def am13 : AFunc := ⟨3, .seq (.reg [⟨some 4,none,.boxB 10 (.t 1) []⟩])
(.seq (.seq (.reg [⟨some 7,none,.faddr 0 (.t 4)⟩,⟨some 8,none,.load false 1 (.t 7)⟩,⟨some 9,none,.bin .eql (.t 8) (.c (j 0))⟩])
(.cond (.t 9) (.ret) (.skip)))
(.seq (.reg [⟨some 10,none,.mov (.t 0)⟩,⟨some 11,none,.load true 10 (.t 4)⟩,⟨some 12,none,.mov (.t 2)⟩,⟨some 13,none,.call (.c (.func 22 [] [])) [.t 10,.t 11,.t 12]⟩])
(.seq (.reg [⟨some 14,none,.mov (.t 2)⟩,⟨some 15,none,.load true 10 (.t 4)⟩,⟨some 16,none,.call (.c (.func 24 [] [])) [.t 15]⟩,⟨some 17,none,.bslF z5 2 [(0,1,.t 14),(1,1,.t 16)]⟩,⟨some 18,none,.call (.c (.func 23 [] [])) [.t 17]⟩,⟨some 6,none,.mov (.t 18)⟩])
(.seq (.reg [⟨some 19,none,.faddr 0 (.t 4)⟩,⟨some 20,none,.load false 1 (.t 19)⟩])
(.block 0 (.seq (.seq (.reg [⟨some 27,none,.bin .eql (.t 20) (.c (j 21))⟩,⟨some 26,none,.mov (.t 27)⟩])
(.cond (.t 26) (.skip) (.reg [⟨some 28,none,.bin .eql (.t 20) (.c (j 22))⟩,⟨some 26,none,.mov (.t 28)⟩])))
(.cond (.t 26) (.seq (.reg [⟨some 29,none,.mov (.t 0)⟩,⟨some 30,none,.mov (.t 2)⟩,⟨some 31,none,.faddr 6 (.t 4)⟩,⟨some 32,none,.load false 1 (.t 31)⟩,⟨some 33,none,.iaddr 10 (.t 32) (.c (j 0))⟩,⟨some 34,none,.load true 10 (.t 33)⟩,⟨some 35,none,.bslF z2 1 [(0,10,.t 34)]⟩,⟨some 36,none,.call (.c (.func 25 [] [])) [.t 29,.t 30,.t 35]⟩])
(.seq (.reg [⟨some 37,none,.mov (.t 0)⟩,⟨some 38,none,.mov (.t 2)⟩,⟨some 39,none,.faddr 7 (.t 4)⟩,⟨some 40,none,.load false 1 (.t 39)⟩,⟨some 41,none,.call (.c (.func 26 [] [])) [.t 37,.t 38,.t 40]⟩])
(.seq (.reg [⟨some 42,none,.mov (.t 0)⟩,⟨some 43,none,.mov (.t 2)⟩,⟨some 44,none,.faddr 6 (.t 4)⟩,⟨some 45,none,.load false 1 (.t 44)⟩,⟨some 46,none,.iaddr 10 (.t 45) (.c (j 1))⟩,⟨some 47,none,.load true 10 (.t 46)⟩,⟨some 48,none,.bslF z2 1 [(0,10,.t 47)]⟩,⟨some 49,none,.call (.c (.func 25 [] [])) [.t 42,.t 43,.t 48]⟩])
(.reg [⟨some 50,none,.mov (.t 0)⟩,⟨some 51,none,.mov (.t 6)⟩,⟨some 52,none,.faddr 6 (.t 4)⟩,⟨some 53,none,.load false 1 (.t 52)⟩,⟨some 54,none,.sliceL 10 (.t 53) (some (.c (j 2))) none none⟩,⟨some 55,none,.call (.c (.func 25 [] [])) [.t 50,.t 51,.t 54]⟩])))) (.seq (.reg [⟨some 57,none,.bin .eql (.t 20) (.c (j 25))⟩,⟨some 56,none,.mov (.t 57)⟩])
(.cond (.t 56) (.seq (.dreg [(⟨some 58,none,.mov (.t 0)⟩,0,0),(⟨some 59,none,.faddr 8 (.t 4)⟩,0,0),(⟨some 60,none,.load false 1 (.t 59)⟩,2,14),(⟨some 61,none,.iaddr 12 (.t 60) (.c (j 0))⟩,0,0),(⟨some 62,none,.faddr 2 (.t 61)⟩,0,0),(⟨some 63,none,.load true 10 (.t 62)⟩,5,14),(⟨some 64,none,.mov (.t 6)⟩,0,0),(⟨some 65,none,.faddr 8 (.t 4)⟩,0,0),(⟨some 66,none,.load false 1 (.t 65)⟩,8,0),(⟨some 67,none,.iaddr 12 (.t 66) (.c (j 0))⟩,0,0),(⟨some 68,none,.load true 12 (.t 67)⟩,10,0),(⟨some 69,none,.call (.c (.func 27 [] [])) [.t 68]⟩,0,0),(⟨some 70,none,.bslF z5 2 [(0,1,.t 64),(1,1,.t 69)]⟩,0,0),(⟨some 71,none,.call (.c (.func 23 [] [])) [.t 70]⟩,0,0),(⟨some 72,none,.call (.c (.func 13 [] [])) [.t 58,.t 63,.t 71]⟩,0,0)])
(.reg [⟨some 73,none,.mov (.t 0)⟩,⟨some 74,none,.faddr 6 (.t 4)⟩,⟨some 75,none,.load false 1 (.t 74)⟩,⟨some 76,none,.iaddr 10 (.t 75) (.c (j 0))⟩,⟨some 77,none,.load true 10 (.t 76)⟩,⟨some 78,none,.mov (.t 6)⟩,⟨some 79,none,.call (.c (.func 13 [] [])) [.t 73,.t 77,.t 78]⟩])) (.seq (.reg [⟨some 81,none,.bin .eql (.t 20) (.c (j 26))⟩,⟨some 80,none,.mov (.t 81)⟩])
(.cond (.t 80) (.seq (.reg [⟨some 82,none,.mov (.t 0)⟩,⟨some 83,none,.mov (.t 2)⟩,⟨some 84,none,.faddr 6 (.t 4)⟩,⟨some 85,none,.load false 1 (.t 84)⟩,⟨some 86,none,.iaddr 10 (.t 85) (.c (j 0))⟩,⟨some 87,none,.load true 10 (.t 86)⟩,⟨some 88,none,.bslF z2 1 [(0,10,.t 87)]⟩,⟨some 89,none,.call (.c (.func 25 [] [])) [.t 82,.t 83,.t 88]⟩])
(.seq (.reg [⟨some 90,none,.mov (.t 0)⟩,⟨some 91,none,.mov (.t 2)⟩,⟨some 92,none,.faddr 7 (.t 4)⟩,⟨some 93,none,.load false 1 (.t 92)⟩,⟨some 94,none,.call (.c (.func 26 [] [])) [.t 90,.t 91,.t 93]⟩])
(.reg [⟨some 95,none,.mov (.t 0)⟩,⟨some 96,none,.mov (.t 6)⟩,⟨some 97,none,.faddr 6 (.t 4)⟩,⟨some 98,none,.load false 1 (.t 97)⟩,⟨some 99,none,.iaddr 10 (.t 98) (.c (j 1))⟩,⟨some 100,none,.load true 10 (.t 99)⟩,⟨some 101,none,.bslF z2 1 [(0,10,.t 100)]⟩,⟨some 102,none,.call (.c (.func 25 [] [])) [.t 95,.t 96,.t 101]⟩]))) (.reg [⟨some 21,none,.mov (.t 0)⟩,⟨some 22,none,.mov (.t 6)⟩,⟨some 23,none,.faddr 6 (.t 4)⟩,⟨some 24,none,.load false 1 (.t 23)⟩,⟨some 25,none,.call (.c (.func 25 [] [])) [.t 21,.t 22,.t 24]⟩])))))))))))), [], none⟩
theorem amok13 : FnOk Tryz.prog 13 am13 := FnOk.mk' quiets Tryz.func13 (pols := [(3, 3, .frz),(8, 6, .frz),(10, 6, .frz),(13, 12, .frz),(16, 6, .frz),(18, 6, .frz)]) (keep := none) (by kernel_rfl) rfl
def am15 : AFunc := ⟨2, .seq (.seq (.reg [⟨some 4,none,.mov (.c (j 0))⟩])
(.block 0 (.loop (.seq (.seq (.dreg [(⟨some 6,none,.mov (.t 0)⟩,0,0),(⟨some 7,none,.nilchk (.t 6)⟩,0,0),(⟨some 8,none,.faddr 1 (.t 7)⟩,0,0),(⟨some 9,none,.load false 1 (.t 8)⟩,3,0),(⟨some 10,none,.mov (.t 0)⟩,0,0),(⟨some 11,none,.nilchk (.t 10)⟩,0,0),(⟨some 12,none,.faddr 0 (.t 11)⟩,0,0),(⟨some 13,none,.load false 1 (.t 12)⟩,7,0),(⟨some 14,none,.len true (.t 13)⟩,0,0),(⟨some 15,none,.bin .lss (.t 9) (.t 14)⟩,0,0)])
(.cond (.t 15) (.skip) (.exit 0)))
(.block 1 (.seq (.dreg [(⟨some 16,none,.mov (.t 0)⟩,0,0),(⟨some 17,none,.nilchk (.t 16)⟩,0,0),(⟨some 18,none,.faddr 0 (.t 17)⟩,0,0),(⟨some 19,none,.load false 1 (.t 18)⟩,3,0),(⟨some 20,none,.mov (.t 0)⟩,0,0),(⟨some 21,none,.nilchk (.t 20)⟩,0,0),(⟨some 22,none,.faddr 1 (.t 21)⟩,0,0),(⟨some 23,none,.load false 1 (.t 22)⟩,7,0),(⟨some 24,none,.indexS (.t 19) (.t 23)⟩,0,0),(⟨some 5,none,.mov (.t 24)⟩,0,0)])
(.block 2 (.seq (.reg [⟨some 37,none,.mov (.t 5)⟩,⟨some 38,none,.call (.c (.func 28 [] [])) [.c (.str [32,9,10,13]),.t 37]⟩,⟨some 39,none,.bin .geq (.t 38) (.c (j 0))⟩,⟨some 36,none,.mov (.t 39)⟩])
(.cond (.t 36) (.reg [⟨some 40,none,.mov (.t 0)⟩,⟨some 41,none,.nilchk (.t 40)⟩,⟨some 42,none,.faddr 1 (.t 41)⟩,⟨some 43,none,.load false 1 (.t 42)⟩,⟨some 44,none,.bin .add (.t 43) (.c (j 1))⟩,⟨some 45,none,.nilchk (.t 40)⟩,⟨some 46,none,.faddr 1 (.t 45)⟩,⟨none,none,.store 1 (.t 46) (.t 44)⟩]) (.seq (.reg [⟨some 48,none,.mov (.t 5)⟩,⟨some 49,none,.bin .eql (.t 48) (.c (.int .u8 (.ofNat 35)))⟩,⟨some 47,none,.mov (.t 49)⟩])
(.cond (.t 47) (.reg [⟨some 50,none,.mov (.t 0)⟩,⟨some 51,none,.call (.c (.func 29 [] [])) [.t 50]⟩]) (.seq (.reg [⟨some 53,none,.mov (.t 5)⟩,⟨some 54,none,.call (.c (.func 30 [] [])) [.t 53]⟩,⟨some 52,none,.mov (.t 54)⟩])
(.cond (.t 52) (.reg [⟨some 55,none,.mov (.t 0)⟩,⟨some 56,none,.call (.c (.func 31 [] [])) [.t 55,.c (j 1),.c (j 0)]⟩]) (.seq (.reg [⟨some 58,none,.mov (.t 5)⟩,⟨some 59,none,.bin .eql (.t 58) (.c (.int .u8 (.ofNat 46)))⟩,⟨some 60,none,.mov (.t 59)⟩,⟨some 61,some (60,true),.mov (.t 0)⟩,⟨some 62,some (60,true),.call (.c (.func 32 [] [])) [.t 61,.c (j 1)]⟩,⟨some 63,some (60,true),.call (.c (.func 30 [] [])) [.t 62]⟩,⟨some 64,none,.pick (.t 60) (.t 63) (.c (.bool false))⟩,⟨some 57,none,.mov (.t 64)⟩])
(.cond (.t 57) (.reg [⟨some 65,none,.mov (.t 0)⟩,⟨some 66,none,.call (.c (.func 31 [] [])) [.t 65,.c (j 2),.c (j 1)]⟩]) (.seq (.reg [⟨some 68,none,.mov (.t 5)⟩,⟨some 69,none,.bin .eql (.t 68) (.c (.int .u8 (.ofNat 36)))⟩,⟨some 70,none,.mov (.t 69)⟩,⟨some 71,some (70,true),.mov (.t 0)⟩,⟨some 72,some (70,true),.call (.c (.func 32 [] [])) [.t 71,.c (j 1)]⟩,⟨some 73,some (70,true),.call (.c (.func 30 [] [])) [.t 72]⟩,⟨some 74,none,.pick (.t 70) (.t 73) (.c (.bool false))⟩,⟨some 67,none,.mov (.t 74)⟩])
(.cond (.t 67) (.reg [⟨some 75,none,.mov (.t 0)⟩,⟨some 76,none,.call (.c (.func 31 [] [])) [.t 75,.c (j 5),.c (j 1)]⟩]) (.seq (.reg [⟨some 78,none,.mov (.t 5)⟩,⟨some 79,none,.bin .eql (.t 78) (.c (.int .u8 (.ofNat 64)))⟩,⟨some 80,none,.mov (.t 79)⟩,⟨some 81,some (80,true),.mov (.t 0)⟩,⟨some 82,some (80,true),.call (.c (.func 32 [] [])) [.t 81,.c (j 1)]⟩,⟨some 83,some (80,true),.call (.c (.func 30 [] [])) [.t 82]⟩,⟨some 84,none,.pick (.t 80) (.t 83) (.c (.bool false))⟩,⟨some 77,none,.mov (.t 84)⟩])
(.cond (.t 77) (.reg [⟨some 85,none,.mov (.t 0)⟩,⟨some 86,none,.call (.c (.func 31 [] [])) [.t 85,.c (j 6),.c (j 1)]⟩]) (.seq (.reg [⟨some 88,none,.mov (.t 5)⟩,⟨some 89,none,.bin .geq (.t 88) (.c (.int .u8 (.ofNat 48)))⟩,⟨some 90,none,.mov (.t 89)⟩,⟨some 91,some (90,true),.mov (.t 5)⟩,⟨some 92,some (90,true),.bin .leq (.t 91) (.c (.int .u8 (.ofNat 57)))⟩,⟨some 93,none,.pick (.t 90) (.t 92) (.c (.bool false))⟩,⟨some 87,none,.mov (.t 93)⟩])
(.cond (.t 87) (.reg [⟨some 94,none,.mov (.t 0)⟩,⟨some 95,none,.call (.c (.func 33 [] [])) [.t 94]⟩]) (.seq (.reg [⟨some 97,none,.mov (.t 5)⟩,⟨some 98,none,.bin .eql (.t 97) (.c (.int .u8 (.ofNat 34)))⟩,⟨some 96,none,.mov (.t 98)⟩])
(.cond (.t 96) (.reg [⟨some 99,none,.mov (.t 0)⟩,⟨some 100,none,.mov (.t 1)⟩,⟨some 101,none,.call (.c (.func 34 [] [])) [.t 99,.t 100]⟩]) (.seq (.reg [⟨some 103,none,.mov (.t 5)⟩,⟨some 104,none,.bin .eql (.t 103) (.c (.int .u8 (.ofNat 41)))⟩,⟨some 105,none,.mov (.t 104)⟩,⟨some 106,some (105,true),.mov (.t 1)⟩,⟨some 107,some (105,true),.bin .gtr (.t 106) (.c (j 0))⟩,⟨some 108,none,.pick (.t 105) (.t 107) (.c (.bool false))⟩,⟨some 109,none,.mov (.t 108)⟩,⟨some 110,some (109,true),.mov (.t 4)⟩,⟨some 111,some (109,true),.bin .eql (.t 110) (.c (j 0))⟩,⟨some 112,none,.pick (.t 109) (.t 111) (.c (.bool false))⟩,⟨some 102,none,.mov (.t 112)⟩])
(.cond (.t 102) (.ret) (.seq (.reg [⟨some 25,none,.mov (.t 4)⟩,⟨some 26,none,.mov (.t 5)⟩,⟨some 27,none,.convIS (.t 26)⟩,⟨some 28,none,.call (.c (.func 35 [] [])) [.c (.str [40]),.t 27]⟩,⟨some 29,none,.mov (.t 5)⟩,⟨some 30,none,.convIS (.t 29)⟩,⟨some 31,none,.call (.c (.func 35 [] [])) [.c (.str [41]),.t 30]⟩,⟨some 32,none,.bin .sub (.t 28) (.t 31)⟩,⟨some 33,none,.bin .add (.t 25) (.t 32)⟩,⟨some 4,none,.mov (.t 33)⟩])
(.reg [⟨some 34,none,.mov (.t 0)⟩,⟨some 35,none,.call (.c (.func 36 [] [])) [.t 34]⟩])))))))))))))))))))))))))))
(.reg [⟨some 113,none,.mov (.t 1)⟩,⟨some 114,none,.bin .eql (.t 113) (.c (j 0))⟩,⟨some 115,none,.mov (.t 0)⟩,⟨some 116,none,.nilchk (.t 115)⟩,⟨some 117,none,.faddr 0 (.t 116)⟩,⟨some 118,none,.load false 1 (.t 117)⟩,⟨some 119,none,.len true (.t 118)⟩,⟨some 120,none,.call (.c (.func 37 [] [])) [.t 114,.t 119,.c (j 8)]⟩]), [], none⟩
theorem amok15 : FnOk Tryz.prog 15 am15 := FnOk.mk' quiets Tryz.func15 (pols := []) (keep := none) (by kernel_rfl) rfl
def am16 : AFunc := ⟨1, .seq (.reg [⟨some 1,none,.boxF 6 (.t 0)⟩,⟨some 2,none,.mov (.c (j 0))⟩])
(.seq (.block 0 (.seq (.reg [⟨some 4,none,.faddr 0 (.t 1)⟩,⟨some 5,none,.load false 1 (.t 4)⟩,⟨some 6,none,.bin .lss (.t 5) (.c (j 1))⟩,⟨some 7,none,.mov (.t 6)⟩,⟨some 8,some (7,false),.faddr 0 (.t 1)⟩,⟨some 9,some (7,false),.load false 1 (.t 8)⟩,⟨some 10,some (7,false),.bin .gtr (.t 9) (.c (j 11))⟩,⟨some 11,none,.pick (.t 7) (.c (.bool true)) (.t 10)⟩,⟨some 3,none,.mov (.t 11)⟩])
(.cond (.t 3) (.seq (.reg [⟨some 2,none,.mov (.c (j 23))⟩])
(.ret)) (.seq (.reg [⟨some 13,none,.load true 6 (.t 1)⟩,⟨some 14,none,.call (.c (.func 38 [] [])) [.t 13]⟩,⟨some 15,none,.un .not (.t 14)⟩,⟨some 12,none,.mov (.t 15)⟩])
(.cond (.t 12) (.seq (.reg [⟨some 2,none,.mov (.c (j 32))⟩])
(.ret)) (.seq (.reg [⟨some 17,none,.faddr 5 (.t 1)⟩,⟨some 18,none,.load false 1 (.t 17)⟩,⟨some 19,none,.bin .lss (.t 18) (.c (j 0))⟩,⟨some 20,none,.mov (.t 19)⟩,⟨some 21,some (20,false),.faddr 0 (.t 1)⟩,⟨some 22,some (20,false),.load false 1 (.t 21)⟩,⟨some 23,some (20,false),.bin .neq (.t 22) (.c (j 3))⟩,⟨some 24,some (20,false),.mov (.t 23)⟩,⟨some 25,some (24,true),.faddr 2 (.t 1)⟩,⟨some 26,some (24,true),.faddr 0 (.t 25)⟩,⟨some 27,some (24,true),.load false 1 (.t 26)⟩,⟨some 28,some (24,true),.mov (.t 27)⟩,⟨some 29,some (28,false),.faddr 2 (.t 1)⟩,⟨some 30,some (28,false),.faddr 1 (.t 29)⟩,⟨some 31,some (28,false),.load false 1 (.t 30)⟩,⟨some 32,some (28,false),.len false (.t 31)⟩,⟨some 33,some (28,false),.bin .gtr (.t 32) (.c (j 0))⟩,⟨some 34,some (24,true),.pick (.t 28) (.c (.bool true)) (.t 33)⟩,⟨some 35,some (24,true),.mov (.t 34)⟩,⟨some 36,some (35,false),.faddr 2 (.t 1)⟩,⟨some 37,some (35,false),.faddr 2 (.t 36)⟩,⟨some 38,some (35,false),.load false 1 (.t 37)⟩,⟨some 39,some (35,false),.bin .neq (.t 38) (.c (j 0))⟩,⟨some 40,some (24,true),.pick (.t 35) (.c (.bool true)) (.t 39)⟩,⟨some 41,some (20,false),.pick (.t 24) (.t 40) (.c (.bool false))⟩,⟨some 42,none,.pick (.t 20) (.c (.bool true)) (.t 41)⟩,⟨some 16,none,.mov (.t 42)⟩])
(.cond (.t 16) (.seq (.reg [⟨some 2,none,.mov (.c (j 9))⟩])
(.ret)) (.skip))))))))
(.seq (.reg [⟨some 2,none,.mov (.c (j 0))⟩])
(.ret))), [.tmp 2], none⟩
theorem amok16 : FnOk Tryz.prog 16 am16 := FnOk.mk' quiets Tryz.func16 (pols := [(0, 0, .frz)]) (keep := none) (by kernel_rfl) rfl
def am18 : AFunc := ⟨1, .seq (.reg [⟨some 2,none,.allocB z2 []⟩])
(.seq (.reg [⟨some 4,none,.mov (.t 0)⟩,⟨some 5,none,.call (.c (.func 39 [] [])) [.t 4]⟩,⟨some 3,none,.hole 10⟩,⟨some 3,none,.fill 10 ⟨.t 5, none⟩⟩])
(.seq (.seq (.reg [⟨some 6,none,.mov (.t 0)⟩,⟨some 7,none,.nilchk (.t 6)⟩,⟨some 8,none,.faddr 0 (.t 7)⟩,⟨some 9,none,.load false 1 (.t 8)⟩,⟨some 10,none,.len false (.t 9)⟩,⟨some 11,none,.bin .gtr (.t 10) (.c (j 0))⟩])
(.cond (.t 11) (.reg [⟨some 12,none,.mov (.t 0)⟩,⟨some 13,none,.call (.c (.func 40 [] [])) [.t 12]⟩]) (.skip)))
(.seq (.block 0 (.seq (.reg [⟨some 15,none,.load true 10 (.t 3)⟩,⟨some 16,none,.call (.c (.func 19 [] [])) [.t 15]⟩,⟨some 17,none,.bin .gtr (.t 16) (.c (j 60))⟩,⟨some 14,none,.mov (.t 17)⟩])
(.cond (.t 14) (.reg [⟨some 18,none,.mov (.t 0)⟩,⟨some 19,none,.call (.c (.func 41 [] [])) [.t 18,.c (j 42)]⟩]) (.seq (.reg [⟨some 21,none,.load true 10 (.t 3)⟩,⟨some 22,none,.call (.c (.func 20 [] [])) [.t 21]⟩,⟨some 23,none,.bin .gtr (.t 22) (.c (j 4096))⟩,⟨some 20,none,.mov (.t 23)⟩])
(.cond (.t 20) (.reg [⟨some 24,none,.mov (.t 0)⟩,⟨some 25,none,.call (.c (.func 41 [] [])) [.t 24,.c (j 3)]⟩]) (.skip))))))
(.seq (.reg [⟨some 26,none,.load true 10 (.t 3)⟩,⟨none,none,.store 10 (.t 2) (.t 26)⟩])
(.ret))))), [.cell 2 true 10], none⟩
theorem amok18 : FnOk Tryz.prog 18 am18 := FnOk.mk' quiets Tryz.func18 (pols := [(1, 2, .hole),(1, 3, .hole)]) (keep := none) (by kernel_rfl) rfl
def am19 : AFunc := ⟨1, .seq (.reg [⟨some 1,none,.boxB 10 (.t 0) []⟩,⟨some 2,none,.mov (.c (j 0))⟩])
(.seq (.reg [⟨some 3,none,.load true 10 (.t 1)⟩,⟨some 4,none,.call (.c (.func 42 [] [])) [.t 3,.c (j 1000)]⟩,⟨some 2,none,.mov (.t 4)⟩])
(.ret)), [.tmp 2], none⟩
theorem amok19 : FnOk Tryz.prog 19 am19 := FnOk.mk' quiets Tryz.func19 (pols := []) (keep := none) (by kernel_rfl) rfl
def am20 : AFunc := ⟨1, .seq (.reg [⟨some 1,none,.boxB 10 (.t 0) []⟩,⟨some 2,none,.allocB [j 0] []⟩])
(.seq (.reg [⟨some 3,none,.hole 1⟩,⟨some 3,none,.fill 1 ⟨.c (j 1), (some [])⟩⟩])
(.seq (.seq (.reg [⟨some 5,none,.load true 10 (.t 1)⟩,⟨some 6,none,.call (.c (.func 43 [] [])) [.t 5]⟩])
(.block 0 (.rangeF (.t 6) [7] (.reg [⟨some 4,none,.hole 10⟩,⟨some 4,none,.fill 10 ⟨.t 7, none⟩⟩]) (.block 1 (.seq (.dreg [(⟨some 8,none,.load false 1 (.t 3)⟩,0,3),(⟨some 9,none,.load true 10 (.t 4)⟩,1,0),(⟨some 10,none,.call (.c (.func 20 [] [])) [.t 9]⟩,0,0),(⟨some 11,none,.bin .add (.t 8) (.t 10)⟩,0,0),(⟨none,none,.store 1 (.t 3) (.t 11)⟩,0,0)])
(.seq (.reg [⟨some 12,none,.load false 1 (.t 3)⟩,⟨some 13,none,.bin .geq (.t 12) (.c (j 1048576))⟩])
(.cond (.t 13) (.seq (.reg [⟨none,none,.store 1 (.t 2) (.c (j 1048576))⟩])
(.ret)) (.skip))))))))
(.seq (.reg [⟨some 14,none,.load false 1 (.t 3)⟩,⟨none,none,.store 1 (.t 2) (.t 14)⟩])
(.ret)))), [.cell 2 false 1], none⟩
theorem amok20 : FnOk Tryz.prog 20 am20 := FnOk.mk' quiets Tryz.func20 (pols := [(1, 1, .res []),(1, 0, .hole),(3, 0, .hole),(3, 1, .hole)]) (keep := none) (by kernel_rfl) rfl
def am21 : AFunc := ⟨1, .seq (.reg [⟨some 1,none,.boxB 10 (.t 0) []⟩,⟨some 2,none,.allocB [j 0] []⟩])
(.seq (.seq (.reg [⟨some 6,none,.load true 10 (.t 1)⟩,⟨some 7,none,.call (.c (.func 44 [] [])) [.t 6]⟩,⟨some 3,none,.mov (.t 7)⟩])
(.seq (.reg [⟨some 8,none,.mov (.t 3)⟩,⟨some 9,none,.bin .neq (.t 8) (.c (j 0))⟩])
(.cond (.t 9) (.seq (.reg [⟨some 10,none,.mov (.t 3)⟩,⟨none,none,.store 1 (.t 2) (.t 10)⟩])
(.ret)) (.skip))))
(.seq (.seq (.reg [⟨some 11,none,.load true 10 (.t 1)⟩,⟨some 12,none,.call (.c (.func 43 [] [])) [.t 11]⟩])
(.block 0 (.rangeF (.t 12) [13] (.reg [⟨some 4,none,.hole 10⟩,⟨some 4,none,.fill 10 ⟨.t 13, none⟩⟩]) (.block 1 (.seq (.seq (.reg [⟨some 14,none,.faddr 0 (.t 4)⟩,⟨some 15,none,.load false 1 (.t 14)⟩,⟨some 16,none,.bin .eql (.t 15) (.c (j 0))⟩])
(.cond (.t 16) (.exit 1) (.skip)))
(.seq (.reg [⟨some 17,none,.load true 10 (.t 4)⟩,⟨some 18,none,.call (.c (.func 21 [] [])) [.t 17]⟩,⟨some 5,none,.mov (.t 18)⟩])
(.seq (.reg [⟨some 19,none,.mov (.t 5)⟩,⟨some 20,none,.bin .neq (.t 19) (.c (j 0))⟩])
(.cond (.t 20) (.seq (.reg [⟨some 21,none,.mov (.t 5)⟩,⟨none,none,.store 1 (.t 2) (.t 21)⟩])
(.ret)) (.skip)))))))))
(.seq (.reg [⟨none,none,.store 1 (.t 2) (.c (j 0))⟩])
(.ret)))), [.cell 2 false 1], none⟩
theorem amok21 : FnOk Tryz.prog 21 am21 := FnOk.mk' quiets Tryz.func21 (pols := [(5, 0, .hole),(5, 1, .hole)]) (keep := none) (by kernel_rfl) rfl
def am22 : AFunc := ⟨3, .seq (.reg [⟨some 4,none,.boxB 10 (.t 1) []⟩])
(.seq (.seq (.reg [⟨some 12,none,.faddr 0 (.t 4)⟩,⟨some 13,none,.load false 1 (.t 12)⟩,⟨some 14,none,.bin .eql (.t 13) (.c (j 25))⟩])
(.cond (.t 14) (.seq (.reg [⟨some 15,none,.load true 10 (.t 4)⟩,⟨some 16,none,.call (.c (.func 24 [] [])) [.t 15]⟩,⟨some 17,none,.iaddr 1 (.t 16) (.c (j 0))⟩,⟨some 18,none,.load false 1 (.t 17)⟩,⟨some 6,none,.mov (.t 18)⟩])
(.seq (.reg [⟨some 19,none,.mov (.t 6)⟩,⟨some 20,none,.faddr 6 (.t 4)⟩,⟨some 21,none,.load false 1 (.t 20)⟩,⟨some 22,none,.iaddr 10 (.t 21) (.c (j 0))⟩,⟨some 23,none,.load true 10 (.t 22)⟩,⟨some 24,none,.bslF z2 1 [(0,10,.t 23)]⟩,⟨some 25,none,.call (.c (.func 45 [] [])) [.t 19,.t 24]⟩,⟨some 26,none,.un .not (.t 25)⟩])
(.cond (.t 26) (.reg [⟨some 27,none,.mov (.t 0)⟩,⟨some 28,none,.mov (.t 6)⟩,⟨some 29,none,.load true 10 (.t 4)⟩,⟨some 30,none,.call (.c (.func 46 [] [])) [.t 27,.c (j 1),.t 28,.t 29]⟩]) (.skip)))) (.skip)))
(.seq (.seq (.reg [⟨some 31,none,.faddr 7 (.t 4)⟩,⟨some 32,none,.load false 1 (.t 31)⟩,⟨some 33,none,.call (.c (.func 47 [] [])) [.t 32]⟩,⟨some 34,none,.len false (.t 33)⟩,⟨some 35,none,.mov (.c (j 0))⟩])
(.block 0 (.loop (.seq (.reg [⟨some 36,none,.bin .lss (.t 35) (.t 34)⟩])
(.seq (.cond (.t 36) (.skip) (.exit 0))
(.seq (.block 1 (.seq (.reg [⟨some 37,none,.iaddr 1 (.t 33) (.t 35)⟩,⟨some 38,none,.load false 1 (.t 37)⟩,⟨some 8,none,.hole 1⟩,⟨some 8,none,.fill 1 ⟨.t 38, none⟩⟩])
(.seq (.reg [⟨some 39,none,.faddr 7 (.t 4)⟩,⟨some 40,none,.load false 1 (.t 39)⟩,⟨some 41,none,.mkf 49 [] [.t 8]⟩,⟨some 42,none,.call (.c (.func 48 [] [])) [.t 40,.t 41]⟩,⟨some 9,none,.mov (.t 42)⟩])
(.seq (.dreg [(⟨some 43,none,.mov (.t 9)⟩,0,0),(⟨some 44,none,.un .not (.t 43)⟩,0,0),(⟨some 45,none,.mov (.t 44)⟩,0,0),(⟨some 46,some (45,true),.load false 1 (.t 8)⟩,3,7),(⟨some 47,some (45,true),.bin .add (.c (.str [36])) (.t 46)⟩,0,0),(⟨some 48,some (45,true),.load true 10 (.t 4)⟩,5,0),(⟨some 49,some (45,true),.call (.c (.func 51 [] [])) [.t 48]⟩,0,0),(⟨some 50,some (45,true),.call (.c (.func 45 [] [])) [.t 47,.t 49]⟩,0,0),(⟨some 51,some (45,true),.un .not (.t 50)⟩,0,0),(⟨some 52,none,.pick (.t 45) (.t 51) (.c (.bool false))⟩,0,0)])
(.cond (.t 52) (.reg [⟨some 53,none,.mov (.t 0)⟩,⟨some 54,none,.load false 1 (.t 8)⟩,⟨some 55,none,.load true 10 (.t 4)⟩,⟨some 56,none,.call (.c (.func 46 [] [])) [.t 53,.c (j 2),.t 54,.t 55]⟩]) (.skip))))))
(.reg [⟨some 57,none,.bin .add (.t 35) (.c (j 1))⟩,⟨some 35,none,.mov (.t 57)⟩])))))))
(.seq (.seq (.dreg [(⟨some 58,none,.faddr 0 (.t 4)⟩,0,0),(⟨some 59,none,.load false 1 (.t 58)⟩,1,0),(⟨some 60,none,.bin .eql (.t 59) (.c (j 23))⟩,0,0),(⟨some 61,none,.mov (.t 60)⟩,0,0),(⟨some 62,some (61,true),.faddr 1 (.t 4)⟩,0,0),(⟨some 63,some (61,true),.load false 1 (.t 62)⟩,5,0),(⟨some 64,some (61,true),.bin .add (.c (.str [42])) (.t 63)⟩,0,0),(⟨some 65,some (61,true),.faddr 6 (.t 4)⟩,0,0),(⟨some 66,some (61,true),.load false 1 (.t 65)⟩,8,0),(⟨some 67,some (61,true),.iaddr 10 (.t 66) (.c (j 0))⟩,0,0),(⟨some 68,some (61,true),.load true 10 (.t 67)⟩,10,0),(⟨some 69,some (61,true),.bslF z2 1 [(0,10,.t 68)]⟩,0,0),(⟨some 70,some (61,true),.call (.c (.func 45 [] [])) [.t 64,.t 69]⟩,0,0),(⟨some 71,some (61,true),.un .not (.t 70)⟩,0,0),(⟨some 72,none,.pick (.t 61) (.t 71) (.c (.bool false))⟩,0,0)])
(.cond (.t 72) (.reg [⟨some 73,none,.mov (.t 0)⟩,⟨some 74,none,.faddr 1 (.t 4)⟩,⟨some 75,none,.load false 1 (.t 74)⟩,⟨some 76,none,.load true 10 (.t 4)⟩,⟨some 77,none,.call (.c (.func 46 [] [])) [.t 73,.c (j 3),.t 75,.t 76]⟩]) (.skip)))
(.seq (.seq (.reg [⟨some 78,none,.load true 10 (.t 4)⟩,⟨some 79,none,.call (.c (.func 24 [] [])) [.t 78]⟩,⟨some 80,none,.len false (.t 79)⟩,⟨some 81,none,.mov (.c (j 0))⟩])
(.block 2 (.loop (.seq (.reg [⟨some 82,none,.bin .lss (.t 81) (.t 80)⟩])
(.seq (.cond (.t 82) (.skip) (.exit 2))
(.seq (.block 3 (.seq (.reg [⟨some 83,none,.iaddr 1 (.t 79) (.t 81)⟩,⟨some 84,none,.load false 1 (.t 83)⟩,⟨some 11,none,.mov (.t 84)⟩])
(.seq (.reg [⟨some 85,none,.mov (.t 2)⟩,⟨some 86,none,.mov (.t 11)⟩,⟨some 87,none,.call (.c (.func 52 [] [])) [.t 85,.t 86]⟩])
(.cond (.t 87) (.dreg [(⟨some 88,none,.mov (.t 0)⟩,0,0),(⟨some 89,none,.mov (.t 11)⟩,0,0),(⟨some 90,none,.call (.c (.func 53 [] [])) [.t 89]⟩,0,0),(⟨some 91,none,.load true 10 (.t 4)⟩,2,0),(⟨some 92,none,.call (.c (.func 46 [] [])) [.t 88,.c (j 4),.t 90,.t 91]⟩,0,0)]) (.skip)))))
(.reg [⟨some 93,none,.bin .add (.t 81) (.c (j 1))⟩,⟨some 81,none,.mov (.t 93)⟩])))))))
(.seq (.seq (.reg [⟨some 94,none,.faddr 0 (.t 4)⟩,⟨some 95,none,.load false 1 (.t 94)⟩,⟨some 96,none,.bin .eql (.t 95) (.c (j 19))⟩,⟨some 97,none,.mov (.t 96)⟩,⟨some 98,some (97,true),.faddr 6 (.t 4)⟩,⟨some 99,some (97,true),.load false 1 (.t 98)⟩,⟨some 100,some (97,true),.iaddr 10 (.t 99) (.c (j 0))⟩,⟨some 101,some (97,true),.load true 10 (.t 100)⟩,⟨some 102,some (97,true),.call (.c (.func 54 [] [])) [.t 101,.c (.bool true)]⟩,⟨some 103,none,.pick (.t 97) (.t 102) (.c (.bool false))⟩])
(.cond (.t 103) (.reg [⟨some 104,none,.mov (.t 0)⟩,⟨some 105,none,.load true 10 (.t 4)⟩,⟨some 106,none,.call (.c (.func 46 [] [])) [.t 104,.c (j 5),.c (.str []),.t 105]⟩]) (.skip)))
(.seq (.reg [⟨some 107,none,.faddr 0 (.t 4)⟩,⟨some 108,none,.load false 1 (.t 107)⟩,⟨some 109,none,.bin .eql (.t 108) (.c (j 27))⟩,⟨some 110,none,.mov (.t 109)⟩,⟨some 111,some (110,true),.faddr 6 (.t 4)⟩,⟨some 112,some (110,true),.load false 1 (.t 111)⟩,⟨some 113,some (110,true),.iaddr 10 (.t 112) (.c (j 0))⟩,⟨some 114,some (110,true),.load true 10 (.t 113)⟩,⟨some 115,some (110,true),.call (.c (.func 54 [] [])) [.t 114,.c (.bool false)]⟩,⟨some 116,none,.pick (.t 110) (.t 115) (.c (.bool false))⟩])
(.cond (.t 116) (.reg [⟨some 117,none,.mov (.t 0)⟩,⟨some 118,none,.load true 10 (.t 4)⟩,⟨some 119,none,.call (.c (.func 46 [] [])) [.t 117,.c (j 6),.c (.str []),.t 118]⟩]) (.skip)))))))), [], none⟩
theorem amok22 : FnOk Tryz.prog 22 am22 := FnOk.mk' quiets Tryz.func22 (pols := [(3, 5, .frz),(7, 2, .hole),(7, 3, .hole),(12, 11, .frz)]) (keep := none) (by kernel_rfl) rfl
def am23 : AFunc := ⟨1, .seq (.reg [⟨some 2,none,.resv 1⟩])
(.seq (.reg [⟨some 3,none,.mov (.c (j 0))⟩])
(.seq (.seq (.reg [⟨some 9,none,.mov (.t 0)⟩,⟨some 10,none,.len false (.t 9)⟩,⟨some 11,none,.mov (.c (j 0))⟩])
(.block 0 (.loop (.seq (.reg [⟨some 12,none,.bin .lss (.t 11) (.t 10)⟩])
(.seq (.cond (.t 12) (.skip) (.exit 0))
(.seq (.block 1 (.seq (.reg [⟨some 13,none,.iaddr 1 (.t 9) (.t 11)⟩,⟨some 14,none,.load false 1 (.t 13)⟩,⟨some 5,none,.mov (.t 14)⟩])
(.seq (.reg [⟨some 15,none,.mov (.t 3)⟩,⟨some 16,none,.mov (.t 5)⟩,⟨some 17,none,.len false (.t 16)⟩,⟨some 18,none,.bin .add (.t 15) (.t 17)⟩,⟨some 3,none,.mov (.t 18)⟩])
(.seq (.reg [⟨some 19,none,.mov (.t 3)⟩,⟨some 20,none,.bin .lss (.t 19) (.c (j 0))⟩])
(.cond (.t 20) (.reg [⟨some 21,none,.bad⟩,⟨none,none,.bad⟩]) (.skip))))))
(.reg [⟨some 22,none,.bin .add (.t 11) (.c (j 1))⟩,⟨some 11,none,.mov (.t 22)⟩])))))))
(.seq (.reg [⟨some 23,none,.mov (.t 3)⟩,⟨some 24,none,.call (.c (.func 55 [] [])) [.c (.nilsl),.t 23]⟩,⟨some 6,none,.mov (.t 24)⟩])
(.seq (.seq (.reg [⟨some 25,none,.mov (.t 0)⟩,⟨some 26,none,.len false (.t 25)⟩,⟨some 27,none,.mov (.c (j 0))⟩])
(.block 2 (.loop (.seq (.reg [⟨some 28,none,.bin .lss (.t 27) (.t 26)⟩])
(.seq (.cond (.t 28) (.skip) (.exit 2))
(.seq (.block 3 (.seq (.reg [⟨some 29,none,.iaddr 1 (.t 25) (.t 27)⟩,⟨some 30,none,.load false 1 (.t 29)⟩,⟨some 8,none,.mov (.t 30)⟩])
(.reg [⟨some 31,none,.mov (.t 6)⟩,⟨some 32,none,.mov (.t 8)⟩,⟨some 33,none,.append 1 16 (.t 31) (.t 32)⟩,⟨some 6,none,.mov (.t 33)⟩])))
(.reg [⟨some 34,none,.bin .add (.t 27) (.c (j 1))⟩,⟨some 27,none,.mov (.t 34)⟩])))))))
(.seq (.reg [⟨some 35,none,.mov (.t 6)⟩,⟨some 2,none,.mov (.t 35)⟩])
(.ret)))))), [.tmp 2], none⟩
theorem amok23 : FnOk Tryz.prog 23 am23 := FnOk.mk' quiets Tryz.func23 (pols := [(0, 0, .res [(0,1)])]) (keep := none) (by kernel_rfl) rfl
def am24 : AFunc := ⟨1, .seq (.reg [⟨some 1,none,.boxB 10 (.t 0) []⟩,⟨some 2,none,.resv 1⟩])
(.seq (.reg [⟨some 3,none,.resv 1⟩])
(.seq (.seq (.reg [⟨some 6,none,.faddr 0 (.t 1)⟩,⟨some 7,none,.load false 1 (.t 6)⟩])
(.block 0 (.seq (.reg [⟨some 9,none,.bin .eql (.t 7) (.c (j 23))⟩,⟨some 8,none,.mov (.t 9)⟩])
(.cond (.t 8) (.reg [⟨some 10,none,.mov (.t 3)⟩,⟨some 11,none,.faddr 1 (.t 1)⟩,⟨some 12,none,.load false 1 (.t 11)⟩,⟨some 13,none,.bin .add (.c (.str [42])) (.t 12)⟩,⟨some 14,none,.bslF [.str []] 1 [(0,1,.t 13)]⟩,⟨some 15,none,.append 1 16 (.t 10) (.t 14)⟩,⟨some 3,none,.mov (.t 15)⟩]) (.seq (.reg [⟨some 17,none,.bin .eql (.t 7) (.c (j 25))⟩,⟨some 16,none,.mov (.t 17)⟩])
(.cond (.t 16) (.dreg [(⟨some 18,none,.mov (.t 3)⟩,0,0),(⟨some 19,none,.faddr 8 (.t 1)⟩,0,0),(⟨some 20,none,.load false 1 (.t 19)⟩,2,0),(⟨some 21,none,.iaddr 12 (.t 20) (.c (j 0))⟩,0,0),(⟨some 22,none,.faddr 0 (.t 21)⟩,0,0),(⟨some 23,none,.load false 1 (.t 22)⟩,5,0),(⟨some 24,none,.faddr 8 (.t 1)⟩,0,0),(⟨some 25,none,.load false 1 (.t 24)⟩,7,0),(⟨some 26,none,.iaddr 12 (.t 25) (.c (j 0))⟩,0,0),(⟨some 27,none,.faddr 1 (.t 26)⟩,0,0),(⟨some 28,none,.load false 1 (.t 27)⟩,10,0),(⟨some 29,none,.len false (.t 28)⟩,0,0),(⟨some 30,none,.call (.c (.func 56 [] [])) [.t 23,.t 29]⟩,0,0),(⟨some 31,none,.bslF [.str []] 1 [(0,1,.t 30)]⟩,0,0),(⟨some 32,none,.append 1 16 (.t 18) (.t 31)⟩,0,0),(⟨some 3,none,.mov (.t 32)⟩,0,0)]) (.skip)))))))
(.seq (.seq (.reg [⟨some 33,none,.faddr 7 (.t 1)⟩,⟨some 34,none,.load false 1 (.t 33)⟩,⟨some 35,none,.call (.c (.func 47 [] [])) [.t 34]⟩,⟨some 36,none,.len false (.t 35)⟩,⟨some 37,none,.mov (.c (j 0))⟩])
(.block 1 (.loop (.seq (.reg [⟨some 38,none,.bin .lss (.t 37) (.t 36)⟩])
(.seq (.cond (.t 38) (.skip) (.exit 1))
(.seq (.block 2 (.seq (.reg [⟨some 39,none,.iaddr 1 (.t 35) (.t 37)⟩,⟨some 40,none,.load false 1 (.t 39)⟩,⟨some 5,none,.mov (.t 40)⟩])
(.reg [⟨some 41,none,.mov (.t 3)⟩,⟨some 42,none,.mov (.t 5)⟩,⟨some 43,none,.bin .add (.c (.str [36])) (.t 42)⟩,⟨some 44,none,.bslF [.str []] 1 [(0,1,.t 43)]⟩,⟨some 45,none,.append 1 16 (.t 41) (.t 44)⟩,⟨some 3,none,.mov (.t 45)⟩])))
(.reg [⟨some 46,none,.bin .add (.t 37) (.c (j 1))⟩,⟨some 37,none,.mov (.t 46)⟩])))))))
(.seq (.reg [⟨some 47,none,.mov (.t 3)⟩,⟨some 2,none,.mov (.t 47)⟩])
(.ret))))), [.tmp 2], none⟩
theorem amok24 : FnOk Tryz.prog 24 am24 := FnOk.mk' quiets Tryz.func24 (pols := [(0, 1, .res [(0,1)]),(1, 0, .res [(0,1)]),(4, 4, .frz),(6, 13, .frz),(10, 3, .frz)]) (keep := none) (by kernel_rfl) rfl
def am25 : AFunc := ⟨3, .seq (.reg [⟨some 8,none,.mov (.t 2)⟩,⟨some 9,none,.len false (.t 8)⟩,⟨some 10,none,.mov (.c (j 0))⟩])
(.block 0 (.loop (.seq (.reg [⟨some 11,none,.bin .lss (.t 10) (.t 9)⟩])
(.seq (.cond (.t 11) (.skip) (.exit 0))
(.seq (.block 1 (.seq (.reg [⟨some 12,none,.iaddr 10 (.t 8) (.t 10)⟩,⟨some 13,none,.load true 10 (.t 12)⟩,⟨some 7,none,.hole 10⟩,⟨some 7,none,.fill 10 ⟨.t 13, none⟩⟩])
(.reg [⟨some 14,none,.mov (.t 0)⟩,⟨some 15,none,.load true 10 (.t 7)⟩,⟨some 16,none,.mov (.t 1)⟩,⟨some 17,none,.call (.c (.func 13 [] [])) [.t 14,.t 15,.t 16]⟩])))
(.reg [⟨some 18,none,.bin .add (.t 10) (.c (j 1))⟩,⟨some 10,none,.mov (.t 18)⟩])))))), [], none⟩
theorem amok25 : FnOk Tryz.prog 25 am25 := FnOk.mk' quiets Tryz.func25 (pols := [(2, 2, .hole),(2, 3, .hole)]) (keep := none) (by kernel_rfl) rfl
def am26 : AFunc := ⟨3, .seq (.reg [⟨some 13,none,.mov (.t 2)⟩,⟨some 14,none,.len false (.t 13)⟩,⟨some 15,none,.mov (.c (j 0))⟩])
(.block 0 (.loop (.seq (.reg [⟨some 16,none,.bin .lss (.t 15) (.t 14)⟩])
(.seq (.cond (.t 16) (.skip) (.exit 0))
(.seq (.block 1 (.seq (.reg [⟨some 17,none,.iaddr 4 (.t 13) (.t 15)⟩,⟨some 18,none,.load true 4 (.t 17)⟩,⟨some 7,none,.hole 4⟩,⟨some 7,none,.fill 4 ⟨.t 18, none⟩⟩])
(.seq (.reg [⟨some 19,none,.mov (.t 1)⟩,⟨some 8,none,.mov (.t 19)⟩])
(.seq (.reg [⟨some 20,none,.faddr 3 (.t 7)⟩,⟨some 21,none,.load false 1 (.t 20)⟩,⟨some 22,none,.len false (.t 21)⟩,⟨some 23,none,.mov (.c (j 0))⟩])
(.block 2 (.loop (.seq (.reg [⟨some 24,none,.bin .lss (.t 23) (.t 22)⟩])
(.seq (.cond (.t 24) (.skip) (.exit 2))
(.seq (.block 3 (.seq (.reg [⟨some 25,none,.mov (.t 23)⟩,⟨some 26,none,.iaddr 4 (.t 21) (.t 23)⟩,⟨some 27,none,.load true 4 (.t 26)⟩,⟨some 10,none,.hole 4⟩,⟨some 9,none,.mov (.t 25)⟩,⟨some 10,none,.fill 4 ⟨.t 27, none⟩⟩])
(.seq (.seq (.reg [⟨some 28,none,.faddr 0 (.t 7)⟩,⟨some 29,none,.load false 1 (.t 28)⟩,⟨some 30,none,.bin .eql (.t 29) (.c (j 3))⟩])
(.cond (.t 30) (.reg [⟨some 31,none,.mov (.t 0)⟩,⟨some 32,none,.faddr 2 (.t 7)⟩,⟨some 33,none,.load false 1 (.t 32)⟩,⟨some 34,none,.mov (.t 9)⟩,⟨some 35,none,.iaddr 10 (.t 33) (.t 34)⟩,⟨some 36,none,.load true 10 (.t 35)⟩,⟨some 37,none,.mov (.t 8)⟩,⟨some 38,none,.call (.c (.func 13 [] [])) [.t 31,.t 36,.t 37]⟩]) (.skip)))
(.seq (.reg [⟨some 39,none,.mov (.t 0)⟩,⟨some 40,none,.mov (.t 8)⟩,⟨some 41,none,.load true 4 (.t 10)⟩,⟨some 42,none,.bslF z6 1 [(0,4,.t 41)]⟩,⟨some 43,none,.call (.c (.func 26 [] [])) [.t 39,.t 40,.t 42]⟩])
(.seq (.reg [⟨some 44,none,.load true 4 (.t 10)⟩,⟨some 45,none,.bslF z6 1 [(0,4,.t 44)]⟩,⟨some 46,none,.call (.c (.func 47 [] [])) [.t 45]⟩,⟨some 47,none,.len false (.t 46)⟩,⟨some 48,none,.mov (.c (j 0))⟩])
(.block 4 (.loop (.seq (.reg [⟨some 49,none,.bin .lss (.t 48) (.t 47)⟩])
(.seq (.cond (.t 49) (.skip) (.exit 4))
(.seq (.block 5 (.seq (.reg [⟨some 50,none,.iaddr 1 (.t 46) (.t 48)⟩,⟨some 51,none,.load false 1 (.t 50)⟩,⟨some 12,none,.mov (.t 51)⟩])
(.reg [⟨some 52,none,.mov (.t 8)⟩,⟨some 53,none,.call (.c (.func 57 [] [])) [.t 52]⟩,⟨some 54,none,.mov (.t 12)⟩,⟨some 55,none,.bin .add (.c (.str [36])) (.t 54)⟩,⟨some 56,none,.bslF [.str []] 1 [(0,1,.t 55)]⟩,⟨some 57,none,.append 1 16 (.t 53) (.t 56)⟩,⟨some 8,none,.mov (.t 57)⟩])))
(.reg [⟨some 58,none,.bin .add (.t 48) (.c (j 1))⟩,⟨some 48,none,.mov (.t 58)⟩])))))))))))
(.reg [⟨some 59,none,.bin .add (.t 23) (.c (j 1))⟩,⟨some 23,none,.mov (.t 59)⟩]))))))))))
(.reg [⟨some 60,none,.bin .add (.t 15) (.c (j 1))⟩,⟨some 15,none,.mov (.t 60)⟩])))))), [], none⟩
theorem amok26 : FnOk Tryz.prog 26 am26 := FnOk.mk' quiets Tryz.func26 (pols := [(2, 2, .hole),(2, 3, .hole),(6, 3, .hole),(6, 5, .hole),(9, 3, .frz),(10, 1, .frz),(13, 4, .frz)]) (keep := none) (by kernel_rfl) rfl
def am28 : AFunc := ⟨2, .seq (.reg [⟨some 4,none,.mov (.c (j 0))⟩])
(.seq (.reg [⟨some 5,none,.mov (.t 0)⟩,⟨some 6,none,.mov (.t 1)⟩,⟨some 7,none,.call (.c (.func 59 [] [])) [.t 5,.t 6]⟩,⟨some 4,none,.mov (.t 7)⟩])
(.ret)), [.tmp 4], none⟩
theorem amok28 : FnOk Tryz.prog 28 am28 := FnOk.mk' quiets Tryz.func28 (pols := []) (keep := none) (by kernel_rfl) rfl
def am30 : AFunc := ⟨1, .seq (.reg [⟨some 2,none,.mov (.c (.bool false))⟩])
(.seq (.reg [⟨some 3,none,.mov (.t 0)⟩,⟨some 4,none,.bin .or (.t 3) (.c (.int .u8 (.ofNat 32)))⟩,⟨some 5,none,.bin .geq (.t 4) (.c (.int .u8 (.ofNat 97)))⟩,⟨some 6,none,.mov (.t 5)⟩,⟨some 7,some (6,true),.mov (.t 0)⟩,⟨some 8,some (6,true),.bin .or (.t 7) (.c (.int .u8 (.ofNat 32)))⟩,⟨some 9,some (6,true),.bin .leq (.t 8) (.c (.int .u8 (.ofNat 122)))⟩,⟨some 10,none,.pick (.t 6) (.t 9) (.c (.bool false))⟩,⟨some 11,none,.mov (.t 10)⟩,⟨some 12,some (11,true),.mov (.t 0)⟩,⟨some 13,some (11,true),.bin .lss (.t 12) (.c (.int .u8 (.ofNat 128)))⟩,⟨some 14,none,.pick (.t 11) (.t 13) (.c (.bool false))⟩,⟨some 15,none,.mov (.t 14)⟩,⟨some 16,some (15,false),.mov (.t 0)⟩,⟨some 17,some (15,false),.bin .eql (.t 16) (.c (.int .u8 (.ofNat 95)))⟩,⟨some 18,none,.pick (.t 15) (.c (.bool true)) (.t 17)⟩,⟨some 2,none,.mov (.t 18)⟩])
(.ret)), [.tmp 2], none⟩
theorem amok30 : FnOk Tryz.prog 30 am30 := FnOk.mk' quiets Tryz.func30 (pols := []) (keep := none) (by kernel_rfl) rfl
def am31 : AFunc := ⟨3, .seq (.reg [⟨some 8,none,.mov (.t 0)⟩,⟨some 9,none,.nilchk (.t 8)⟩,⟨some 10,none,.faddr 1 (.t 9)⟩,⟨some 11,none,.load false 1 (.t 10)⟩,⟨some 6,none,.mov (.t 11)⟩])
(.seq (.reg [⟨some 12,none,.mov (.t 0)⟩,⟨some 13,none,.nilchk (.t 12)⟩,⟨some 14,none,.faddr 1 (.t 13)⟩,⟨some 15,none,.load false 1 (.t 14)⟩,⟨some 16,none,.mov (.t 2)⟩,⟨some 17,none,.bin .add (.t 15) (.t 16)⟩,⟨some 18,none,.nilchk (.t 12)⟩,⟨some 19,none,.faddr 1 (.t 18)⟩,⟨none,none,.store 1 (.t 19) (.t 17)⟩])
(.seq (.reg [⟨some 20,none,.mov (.t 0)⟩,⟨some 21,none,.call (.c (.func 60 [] [])) [.t 20]⟩,⟨some 7,none,.mov (.t 21)⟩])
(.seq (.reg [⟨some 22,none,.mov (.t 7)⟩,⟨some 23,none,.len true (.t 22)⟩,⟨some 24,none,.bin .leq (.t 23) (.c (j 64))⟩,⟨some 25,none,.mov (.t 24)⟩,⟨some 26,some (25,true),.mov (.t 1)⟩,⟨some 27,some (25,true),.bin .neq (.t 26) (.c (j 6))⟩,⟨some 28,some (25,true),.mov (.t 27)⟩,⟨some 29,some (28,false),.call (.c (.func 61 [] [])) []⟩,⟨some 30,some (28,false),.mov (.t 7)⟩,⟨some 31,some (28,false),.call (.c (.func 52 [] [])) [.t 29,.t 30]⟩,⟨some 32,some (25,true),.pick (.t 28) (.c (.bool true)) (.t 31)⟩,⟨some 33,none,.pick (.t 25) (.t 32) (.c (.bool false))⟩,⟨some 34,none,.mov (.t 6)⟩,⟨some 35,none,.call (.c (.func 37 [] [])) [.t 33,.t 34,.c (j 31)]⟩])
(.reg [⟨some 36,none,.mov (.t 0)⟩,⟨some 37,none,.mov (.t 1)⟩,⟨some 38,none,.mov (.t 7)⟩,⟨some 39,none,.mov (.t 6)⟩,⟨some 40,none,.build z7 [(0,1,.t 37),(1,1,.t 38),(5,1,.t 39)]⟩,⟨some 41,none,.call (.c (.func 62 [] [])) [.t 36,.t 40]⟩])))), [], none⟩
theorem amok31 : FnOk Tryz.prog 31 am31 := FnOk.mk' quiets Tryz.func31 (pols := []) (keep := none) (by kernel_rfl) rfl
def am32 : AFunc := ⟨2, .seq (.reg [⟨some 4,none,.mov (.c (.int .u8 (.ofNat 0)))⟩])
(.seq (.seq (.dreg [(⟨some 5,none,.mov (.t 0)⟩,0,0),(⟨some 6,none,.nilchk (.t 5)⟩,0,0),(⟨some 7,none,.faddr 1 (.t 6)⟩,0,0),(⟨some 8,none,.load false 1 (.t 7)⟩,3,0),(⟨some 9,none,.mov (.t 1)⟩,0,0),(⟨some 10,none,.bin .add (.t 8) (.t 9)⟩,0,0),(⟨some 11,none,.mov (.t 0)⟩,0,0),(⟨some 12,none,.nilchk (.t 11)⟩,0,0),(⟨some 13,none,.faddr 0 (.t 12)⟩,0,0),(⟨some 14,none,.load false 1 (.t 13)⟩,9,0),(⟨some 15,none,.len true (.t 14)⟩,0,0),(⟨some 16,none,.bin .lss (.t 10) (.t 15)⟩,0,0)])
(.cond (.t 16) (.seq (.dreg [(⟨some 17,none,.mov (.t 0)⟩,0,0),(⟨some 18,none,.nilchk (.t 17)⟩,0,0),(⟨some 19,none,.faddr 0 (.t 18)⟩,0,0),(⟨some 20,none,.load false 1 (.t 19)⟩,3,0),(⟨some 21,none,.mov (.t 0)⟩,0,0),(⟨some 22,none,.nilchk (.t 21)⟩,0,0),(⟨some 23,none,.faddr 1 (.t 22)⟩,0,0),(⟨some 24,none,.load false 1 (.t 23)⟩,7,0),(⟨some 25,none,.mov (.t 1)⟩,0,0),(⟨some 26,none,.bin .add (.t 24) (.t 25)⟩,0,0),(⟨some 27,none,.indexS (.t 20) (.t 26)⟩,0,0),(⟨some 4,none,.mov (.t 27)⟩,0,0)])
(.ret)) (.skip)))
(.seq (.reg [⟨some 4,none,.mov (.c (.int .u8 (.ofNat 0)))⟩])
(.ret))), [.tmp 4], none⟩
theorem amok32 : FnOk Tryz.prog 32 am32 := FnOk.mk' quiets Tryz.func32 (pols := []) (keep := none) (by kernel_rfl) rfl
def am33 : AFunc := ⟨1, .seq (.reg [⟨some 7,none,.mov (.t 0)⟩,⟨some 8,none,.nilchk (.t 7)⟩,⟨some 9,none,.faddr 1 (.t 8)⟩,⟨some 10,none,.load false 1 (.t 9)⟩,⟨some 2,none,.mov (.t 10)⟩])
(.seq (.reg [⟨some 11,none,.mov (.t 0)⟩,⟨some 12,none,.call (.c (.func 63 [] [])) [.t 11,.c (.str [48])]⟩,⟨some 13,none,.mov (.t 12)⟩,⟨some 14,some (13,false),.mov (.t 0)⟩,⟨some 15,some (13,false),.call (.c (.func 64 [] [])) [.t 14]⟩,⟨some 16,none,.pick (.t 13) (.c (.bool true)) (.t 15)⟩,⟨some 3,none,.mov (.t 16)⟩])
(.seq (.seq (.reg [⟨some 17,none,.mov (.t 0)⟩,⟨some 18,none,.call (.c (.func 63 [] [])) [.t 17,.c (.str [46])]⟩])
(.cond (.t 18) (.reg [⟨some 19,none,.mov (.t 0)⟩,⟨some 20,none,.call (.c (.func 64 [] [])) [.t 19]⟩,⟨some 21,none,.mov (.t 20)⟩,⟨some 22,some (21,true),.mov (.t 3)⟩,⟨some 23,none,.pick (.t 21) (.t 22) (.c (.bool false))⟩,⟨some 3,none,.mov (.t 23)⟩]) (.skip)))
(.seq (.seq (.reg [⟨some 24,none,.mov (.t 3)⟩,⟨some 25,none,.mov (.t 24)⟩,⟨some 26,some (25,true),.mov (.t 0)⟩,⟨some 27,some (25,true),.call (.c (.func 63 [] [])) [.t 26,.c (.str [101,69])]⟩,⟨some 28,none,.pick (.t 25) (.t 27) (.c (.bool false))⟩])
(.cond (.t 28) (.seq (.reg [⟨some 29,none,.mov (.t 0)⟩,⟨some 30,none,.call (.c (.func 63 [] [])) [.t 29,.c (.str [43,45])]⟩])
(.reg [⟨some 31,none,.mov (.t 0)⟩,⟨some 32,none,.call (.c (.func 64 [] [])) [.t 31]⟩,⟨some 3,none,.mov (.t 32)⟩])) (.skip)))
(.seq (.reg [⟨some 33,none,.mov (.t 3)⟩,⟨some 34,none,.mov (.t 33)⟩,⟨some 35,some (34,true),.mov (.t 0)⟩,⟨some 36,some (34,true),.call (.c (.func 32 [] [])) [.t 35,.c (j 0)]⟩,⟨some 37,some (34,true),.call (.c (.func 65 [] [])) [.t 36]⟩,⟨some 38,some (34,true),.un .not (.t 37)⟩,⟨some 39,none,.pick (.t 34) (.t 38) (.c (.bool false))⟩,⟨some 40,none,.mov (.t 39)⟩,⟨some 41,some (40,true),.mov (.t 0)⟩,⟨some 42,some (40,true),.call (.c (.func 32 [] [])) [.t 41,.c (j 0)]⟩,⟨some 43,some (40,true),.bin .neq (.t 42) (.c (.int .u8 (.ofNat 46)))⟩,⟨some 44,none,.pick (.t 40) (.t 43) (.c (.bool false))⟩,⟨some 45,none,.mov (.t 2)⟩,⟨some 46,none,.call (.c (.func 37 [] [])) [.t 44,.t 45,.c (j 32)]⟩])
(.seq (.dreg [(⟨some 47,none,.mov (.t 0)⟩,0,0),(⟨some 48,none,.nilchk (.t 47)⟩,0,0),(⟨some 49,none,.faddr 0 (.t 48)⟩,0,0),(⟨some 50,none,.load false 1 (.t 49)⟩,3,0),(⟨some 51,none,.mov (.t 2)⟩,0,0),(⟨some 52,none,.mov (.t 0)⟩,0,0),(⟨some 53,none,.nilchk (.t 52)⟩,0,0),(⟨some 54,none,.faddr 1 (.t 53)⟩,0,0),(⟨some 55,none,.load false 1 (.t 54)⟩,8,0),(⟨some 56,none,.sliceS (.t 50) (some (.t 51)) (some (.t 55))⟩,0,0),(⟨some 4,none,.mov (.t 56)⟩,0,0)])
(.seq (.reg [⟨some 58,none,.mov (.t 4)⟩,⟨some 59,none,.call (.c (.func 66 [] [])) [.t 58]⟩,⟨some 57,none,.mov (.t 59)⟩,⟨some 60,none,.extract (.t 57) 0⟩,⟨some 61,none,.extract (.t 57) 1⟩,⟨some 5,none,.hole 3⟩,⟨some 5,none,.fill 3 ⟨.t 60, none⟩⟩,⟨some 6,none,.mov (.t 61)⟩])
(.seq (.reg [⟨some 62,none,.mov (.t 6)⟩,⟨some 63,none,.bin .eql (.t 62) (.c (j 0))⟩,⟨some 64,none,.mov (.t 2)⟩,⟨some 65,none,.mov (.t 6)⟩,⟨some 66,none,.call (.c (.func 37 [] [])) [.t 63,.t 64,.t 65]⟩])
(.reg [⟨some 67,none,.mov (.t 0)⟩,⟨some 68,none,.mov (.t 4)⟩,⟨some 69,none,.load true 3 (.t 5)⟩,⟨some 70,none,.mov (.t 2)⟩,⟨some 71,none,.build z7 [(0,1,.c (j 3)),(1,1,.t 68),(2,3,.t 69),(5,1,.t 70)]⟩,⟨some 72,none,.call (.c (.func 62 [] [])) [.t 67,.t 71]⟩])))))))), [], none⟩
theorem amok33 : FnOk Tryz.prog 33 am33 := FnOk.mk' quiets Tryz.func33 (pols := [(9, 5, .hole),(9, 6, .hole)]) (keep := none) (by kernel_rfl) rfl
def am35 : AFunc := ⟨2, .seq (.reg [⟨some 4,none,.mov (.c (j 0))⟩])
(.seq (.seq (.reg [⟨some 7,none,.mov (.t 1)⟩,⟨some 8,none,.len true (.t 7)⟩,⟨some 9,none,.bin .eql (.t 8) (.c (j 0))⟩])
(.cond (.t 9) (.seq (.reg [⟨some 10,none,.mov (.t 0)⟩,⟨some 11,none,.call (.c (.func 68 [] [])) [.t 10]⟩,⟨some 12,none,.bin .add (.t 11) (.c (j 1))⟩,⟨some 4,none,.mov (.t 12)⟩])
(.ret)) (.skip)))
(.seq (.seq (.reg [⟨some 13,none,.mov (.t 1)⟩,⟨some 14,none,.len true (.t 13)⟩,⟨some 15,none,.bin .eql (.t 14) (.c (j 1))⟩])
(.cond (.t 15) (.seq (.reg [⟨some 16,none,.mov (.t 0)⟩,⟨some 17,none,.mov (.t 1)⟩,⟨some 18,none,.indexS (.t 17) (.c (j 0))⟩,⟨some 19,none,.call (.c (.func 69 [] [])) [.t 16,.t 18]⟩,⟨some 4,none,.mov (.t 19)⟩])
(.ret)) (.skip)))
(.seq (.reg [⟨some 5,none,.mov (.c (j 0))⟩])
(.block 0 (.loop (.block 1 (.seq (.reg [⟨some 20,none,.mov (.t 0)⟩,⟨some 21,none,.mov (.t 1)⟩,⟨some 22,none,.call (.c (.func 70 [] [])) [.t 20,.t 21]⟩,⟨some 6,none,.mov (.t 22)⟩])
(.seq (.seq (.reg [⟨some 23,none,.mov (.t 6)⟩,⟨some 24,none,.bin .eql (.t 23) (.c (.int .i64 (.negSucc 0)))⟩])
(.cond (.t 24) (.seq (.reg [⟨some 25,none,.mov (.t 5)⟩,⟨some 4,none,.mov (.t 25)⟩])
(.ret)) (.skip)))
(.seq (.reg [⟨some 26,none,.mov (.t 5)⟩,⟨some 27,none,.bin .add (.t 26) (.c (j 1))⟩,⟨some 5,none,.mov (.t 27)⟩])
(.reg [⟨some 28,none,.mov (.t 0)⟩,⟨some 29,none,.mov (.t 6)⟩,⟨some 30,none,.mov (.t 1)⟩,⟨some 31,none,.len true (.t 30)⟩,⟨some 32,none,.bin .add (.t 29) (.t 31)⟩,⟨some 33,none,.sliceS (.t 28) (some (.t 32)) none⟩,⟨some 0,none,.mov (.t 33)⟩])))))))))), [.tmp 4], none⟩
theorem amok35 : FnOk Tryz.prog 35 am35 := FnOk.mk' quiets Tryz.func35 (pols := []) (keep := none) (by kernel_rfl) rfl
def am36 : AFunc := ⟨1, .seq (.seq (.reg [⟨some 4,none,.call (.c (.func 71 [] [])) [.c (.str [63,47,47,32,47,47,61,32,46,46,32,124,61,32,43,61,32,45,61,32,42,61,32,47,61,32,37,61,32,61,61,32,33,61,32,60,61,32,62,61,32,47,47,32,46,32,91,32,93,32,40,32,41,32,123,32,125,32,124,32,44,32,58,32,59,32,61,32,60,32,62,32,43,32,45,32,42,32,47,32,37,32,63])]⟩,⟨some 5,none,.len false (.t 4)⟩,⟨some 6,none,.mov (.c (j 0))⟩])
(.block 0 (.loop (.seq (.reg [⟨some 7,none,.bin .lss (.t 6) (.t 5)⟩])
(.seq (.cond (.t 7) (.skip) (.exit 0))
(.seq (.block 1 (.seq (.reg [⟨some 8,none,.iaddr 1 (.t 4) (.t 6)⟩,⟨some 9,none,.load false 1 (.t 8)⟩,⟨some 3,none,.mov (.t 9)⟩])
(.seq (.dreg [(⟨some 10,none,.mov (.t 0)⟩,0,0),(⟨some 11,none,.nilchk (.t 10)⟩,0,0),(⟨some 12,none,.faddr 0 (.t 11)⟩,0,0),(⟨some 13,none,.load false 1 (.t 12)⟩,3,0),(⟨some 14,none,.mov (.t 0)⟩,0,0),(⟨some 15,none,.nilchk (.t 14)⟩,0,0),(⟨some 16,none,.faddr 1 (.t 15)⟩,0,0),(⟨some 17,none,.load false 1 (.t 16)⟩,7,0),(⟨some 18,none,.sliceS (.t 13) (some (.t 17)) none⟩,0,0),(⟨some 19,none,.mov (.t 3)⟩,0,0),(⟨some 20,none,.call (.c (.func 72 [] [])) [.t 18,.t 19]⟩,0,0)])
(.cond (.t 20) (.seq (.reg [⟨some 21,none,.mov (.t 0)⟩,⟨some 22,none,.mov (.t 3)⟩,⟨some 23,none,.mov (.t 0)⟩,⟨some 24,none,.nilchk (.t 23)⟩,⟨some 25,none,.faddr 1 (.t 24)⟩,⟨some 26,none,.load false 1 (.t 25)⟩,⟨some 27,none,.build z7 [(0,1,.c (j 4)),(1,1,.t 22),(5,1,.t 26)]⟩,⟨some 28,none,.call (.c (.func 62 [] [])) [.t 21,.t 27]⟩])
(.seq (.reg [⟨some 29,none,.mov (.t 0)⟩,⟨some 30,none,.nilchk (.t 29)⟩,⟨some 31,none,.faddr 1 (.t 30)⟩,⟨some 32,none,.load false 1 (.t 31)⟩,⟨some 33,none,.mov (.t 3)⟩,⟨some 34,none,.len true (.t 33)⟩,⟨some 35,none,.bin .add (.t 32) (.t 34)⟩,⟨some 36,none,.nilchk (.t 29)⟩,⟨some 37,none,.faddr 1 (.t 36)⟩,⟨none,none,.store 1 (.t 37) (.t 35)⟩])
(.ret))) (.skip)))))
(.reg [⟨some 38,none,.bin .add (.t 6) (.c (j 1))⟩,⟨some 6,none,.mov (.t 38)⟩])))))))
(.reg [⟨some 39,none,.mov (.t 0)⟩,⟨some 40,none,.nilchk (.t 39)⟩,⟨some 41,none,.faddr 1 (.t 40)⟩,⟨some 42,none,.load false 1 (.t 41)⟩,⟨some 43,none,.call (.c (.func 37 [] [])) [.c (.bool false),.t 42,.c (j 32)]⟩]), [], none⟩
theorem amok36 : FnOk Tryz.prog 36 am36 := FnOk.mk' quiets Tryz.func36 (pols := []) (keep := none) (by kernel_rfl) rfl
def am37 : AFunc := ⟨3, .seq (.reg [⟨some 6,none,.mov (.t 0)⟩,⟨some 7,none,.un .not (.t 6)⟩])
(.cond (.t 7) (.reg [⟨some 8,none,.mov (.t 1)⟩,⟨some 9,none,.mov (.t 2)⟩,⟨some 10,none,.build [j 0,j 0] [(0,1,.t 8),(1,1,.t 9)]⟩,⟨some 11,none,.bad⟩,⟨none,none,.bad⟩]) (.skip)), [], none⟩
theorem amok37 : FnOk Tryz.prog 37 am37 := FnOk.mk' quiets Tryz.func37 (pols := []) (keep := none) (by kernel_rfl) rfl
def am38 : AFunc := ⟨1, .seq (.reg [⟨some 1,none,.boxF 6 (.t 0)⟩,⟨some 2,none,.mov (.c (.bool false))⟩])
(.seq (.seq (.reg [⟨some 8,none,.faddr 0 (.t 1)⟩,⟨some 9,none,.load false 1 (.t 8)⟩])
(.block 0 (.seq (.seq (.reg [⟨some 11,none,.bin .eql (.t 9) (.c (j 1))⟩,⟨some 10,none,.mov (.t 11)⟩])
(.cond (.t 10) (.skip) (.seq (.reg [⟨some 12,none,.bin .eql (.t 9) (.c (j 2))⟩,⟨some 10,none,.mov (.t 12)⟩])
(.cond (.t 10) (.skip) (.reg [⟨some 13,none,.bin .eql (.t 9) (.c (j 5))⟩,⟨some 10,none,.mov (.t 13)⟩])))))
(.cond (.t 10) (.seq (.reg [⟨some 14,none,.faddr 1 (.t 1)⟩,⟨some 15,none,.load false 1 (.t 14)⟩,⟨some 16,none,.call (.c (.func 73 [] [])) [.t 15]⟩,⟨some 17,none,.mov (.t 16)⟩,⟨some 18,some (17,true),.faddr 1 (.t 1)⟩,⟨some 19,some (17,true),.load false 1 (.t 18)⟩,⟨some 20,some (17,true),.len true (.t 19)⟩,⟨some 21,some (17,true),.bin .leq (.t 20) (.c (j 64))⟩,⟨some 22,none,.pick (.t 17) (.t 21) (.c (.bool false))⟩,⟨some 2,none,.mov (.t 22)⟩])
(.ret)) (.seq (.reg [⟨some 24,none,.bin .eql (.t 9) (.c (j 6))⟩,⟨some 23,none,.mov (.t 24)⟩])
(.cond (.t 23) (.seq (.dreg [(⟨some 25,none,.call (.c (.func 61 [] [])) []⟩,0,0),(⟨some 26,none,.faddr 1 (.t 1)⟩,0,0),(⟨some 27,none,.load false 1 (.t 26)⟩,0,0),(⟨some 28,none,.call (.c (.func 52 [] [])) [.t 25,.t 27]⟩,0,0),(⟨some 2,none,.mov (.t 28)⟩,0,0)])
(.ret)) (.seq (.reg [⟨some 30,none,.bin .eql (.t 9) (.c (j 3))⟩,⟨some 29,none,.mov (.t 30)⟩])
(.cond (.t 29) (.seq (.reg [⟨some 32,none,.faddr 1 (.t 1)⟩,⟨some 33,none,.load false 1 (.t 32)⟩,⟨some 34,none,.call (.c (.func 10 [] [])) [.t 33]⟩,⟨some 31,none,.mov (.t 34)⟩,⟨some 35,none,.extract (.t 31) 0⟩,⟨some 36,none,.extract (.t 31) 1⟩,⟨some 37,none,.extract (.t 31) 2⟩,⟨some 3,none,.mov (.t 35)⟩,⟨some 4,none,.mov (.t 36)⟩,⟨some 5,none,.mov (.t 37)⟩])
(.seq (.dreg [(⟨some 38,none,.mov (.t 5)⟩,0,0),(⟨some 39,none,.bin .eql (.t 38) (.c (j 0))⟩,0,0),(⟨some 40,none,.mov (.t 39)⟩,0,0),(⟨some 41,some (40,true),.mov (.t 3)⟩,0,0),(⟨some 42,some (40,true),.len false (.t 41)⟩,0,0),(⟨some 43,some (40,true),.bin .eql (.t 42) (.c (j 1))⟩,0,0),(⟨some 44,none,.pick (.t 40) (.t 43) (.c (.bool false))⟩,0,0),(⟨some 45,none,.mov (.t 44)⟩,0,0),(⟨some 46,some (45,true),.mov (.t 3)⟩,0,0),(⟨some 47,some (45,true),.iaddr 6 (.t 46) (.c (j 0))⟩,0,0),(⟨some 48,some (45,true),.faddr 0 (.t 47)⟩,0,0),(⟨some 49,some (45,true),.load false 1 (.t 48)⟩,11,0),(⟨some 50,some (45,true),.bin .eql (.t 49) (.c (j 3))⟩,0,0),(⟨some 51,none,.pick (.t 45) (.t 50) (.c (.bool false))⟩,0,0),(⟨some 52,none,.mov (.t 51)⟩,0,0),(⟨some 53,some (52,true),.mov (.t 3)⟩,0,0),(⟨some 54,some (52,true),.iaddr 6 (.t 53) (.c (j 0))⟩,0,0),(⟨some 55,some (52,true),.faddr 1 (.t 54)⟩,0,0),(⟨some 56,some (52,true),.load false 1 (.t 55)⟩,18,0),(⟨some 57,some (52,true),.faddr 1 (.t 1)⟩,0,0),(⟨some 58,some (52,true),.load false 1 (.t 57)⟩,20,0),(⟨some 59,some (52,true),.bin .eql (.t 56) (.t 58)⟩,0,0),(⟨some 60,none,.pick (.t 52) (.t 59) (.c (.bool false))⟩,0,0),(⟨some 61,none,.mov (.t 60)⟩,0,0),(⟨some 62,some (61,true),.mov (.t 3)⟩,0,0),(⟨some 63,some (61,true),.iaddr 6 (.t 62) (.c (j 0))⟩,0,0),(⟨some 64,some (61,true),.faddr 2 (.t 63)⟩,0,0),(⟨some 65,some (61,true),.faddr 2 (.t 64)⟩,0,0),(⟨some 66,some (61,true),.load false 1 (.t 65)⟩,28,0),(⟨some 67,some (61,true),.faddr 2 (.t 1)⟩,0,0),(⟨some 68,some (61,true),.faddr 2 (.t 67)⟩,0,0),(⟨some 69,some (61,true),.load false 1 (.t 68)⟩,31,0),(⟨some 70,some (61,true),.bin .eql (.t 66) (.t 69)⟩,0,0),(⟨some 71,none,.pick (.t 61) (.t 70) (.c (.bool false))⟩,0,0),(⟨some 72,none,.mov (.t 71)⟩,0,0),(⟨some 73,some (72,true),.faddr 2 (.t 1)⟩,0,0),(⟨some 74,some (72,true),.faddr 0 (.t 73)⟩,0,0),(⟨some 75,some (72,true),.load false 1 (.t 74)⟩,37,0),(⟨some 76,some (72,true),.un .not (.t 75)⟩,0,0),(⟨some 77,none,.pick (.t 72) (.t 76) (.c (.bool false))⟩,0,0),(⟨some 78,none,.mov (.t 77)⟩,0,0),(⟨some 79,some (78,true),.mov (.t 3)⟩,0,0),(⟨some 80,some (78,true),.iaddr 6 (.t 79) (.c (j 0))⟩,0,0),(⟨some 81,some (78,true),.faddr 2 (.t 80)⟩,0,0),(⟨some 82,some (78,true),.faddr 1 (.t 81)⟩,0,0),(⟨some 83,some (78,true),.load false 1 (.t 82)⟩,45,0),(⟨some 84,some (78,true),.faddr 2 (.t 1)⟩,0,0),(⟨some 85,some (78,true),.faddr 1 (.t 84)⟩,0,0),(⟨some 86,some (78,true),.load false 1 (.t 85)⟩,48,0),(⟨some 87,some (78,true),.call (.c (.func 74 [] [])) [.t 83,.t 86]⟩,0,0),(⟨some 88,none,.pick (.t 78) (.t 87) (.c (.bool false))⟩,0,0),(⟨some 2,none,.mov (.t 88)⟩,0,0)])
(.ret))) (.seq (.reg [⟨some 90,none,.bin .eql (.t 9) (.c (j 4))⟩,⟨some 89,none,.mov (.t 90)⟩])
(.cond (.t 89) (.seq (.dreg [(⟨some 91,none,.faddr 1 (.t 1)⟩,0,0),(⟨some 92,none,.load false 1 (.t 91)⟩,1,0),(⟨some 93,none,.bin .neq (.t 92) (.c (.str []))⟩,0,0),(⟨some 94,none,.mov (.t 93)⟩,0,0),(⟨some 95,some (94,true),.call (.c (.func 71 [] [])) [.c (.str [63,47,47,32,47,47,61,32,46,46,32,124,61,32,43,61,32,45,61,32,42,61,32,47,61,32,37,61,32,61,61,32,33,61,32,60,61,32,62,61,32,47,47,32,46,32,91,32,93,32,40,32,41,32,123,32,125,32,124,32,44,32,58,32,59,32,61,32,60,32,62,32,43,32,45,32,42,32,47,32,37,32,63])]⟩,0,0),(⟨some 96,some (94,true),.faddr 1 (.t 1)⟩,0,0),(⟨some 97,some (94,true),.load false 1 (.t 96)⟩,4,0),(⟨some 98,some (94,true),.call (.c (.func 52 [] [])) [.t 95,.t 97]⟩,0,0),(⟨some 99,none,.pick (.t 94) (.t 98) (.c (.bool false))⟩,0,0),(⟨some 2,none,.mov (.t 99)⟩,0,0)])
(.ret)) (.seq (.reg [⟨some 101,none,.bin .eql (.t 9) (.c (j 8))⟩,⟨some 100,none,.mov (.t 101)⟩])
(.cond (.t 100) (.seq (.reg [⟨some 103,none,.faddr 1 (.t 1)⟩,⟨some 104,none,.load false 1 (.t 103)⟩,⟨some 105,none,.call (.c (.func 75 [] [])) [.t 104]⟩,⟨some 102,none,.mov (.t 105)⟩,⟨some 106,none,.extract (.t 102) 0⟩,⟨some 107,none,.extract (.t 102) 1⟩,⟨some 6,none,.mov (.t 106)⟩,⟨some 7,none,.mov (.t 107)⟩])
(.seq (.reg [⟨some 108,none,.faddr 1 (.t 1)⟩,⟨some 109,none,.load false 1 (.t 108)⟩,⟨some 110,none,.bin .neq (.t 109) (.c (.str []))⟩,⟨some 111,none,.mov (.t 110)⟩,⟨some 112,some (111,true),.faddr 1 (.t 1)⟩,⟨some 113,some (111,true),.load false 1 (.t 112)⟩,⟨some 114,some (111,true),.len true (.t 113)⟩,⟨some 115,some (111,true),.bin .leq (.t 114) (.c (j 16384))⟩,⟨some 116,none,.pick (.t 111) (.t 115) (.c (.bool false))⟩,⟨some 117,none,.mov (.t 116)⟩,⟨some 118,some (117,true),.mov (.t 7)⟩,⟨some 119,some (117,true),.bin .eql (.t 118) (.c (j 0))⟩,⟨some 120,none,.pick (.t 117) (.t 119) (.c (.bool false))⟩,⟨some 2,none,.mov (.t 120)⟩])
(.ret))) (.skip)))))))))))))
(.seq (.reg [⟨some 121,none,.faddr 1 (.t 1)⟩,⟨some 122,none,.load false 1 (.t 121)⟩,⟨some 123,none,.bin .eql (.t 122) (.c (.str []))⟩,⟨some 2,none,.mov (.t 123)⟩])
(.ret))), [.tmp 2], none⟩
theorem amok38 : FnOk Tryz.prog 38 am38 := FnOk.mk' quiets Tryz.func38 (pols := [(0, 0, .frz)]) (keep := none) (by kernel_rfl) rfl
def am39 : AFunc := ⟨1, .seq (.reg [⟨some 1,none,.boxB 1 (.t 0) []⟩,⟨some 2,none,.allocB z2 []⟩])
(.seq (.reg [⟨some 3,none,.load false 1 (.t 1)⟩,⟨some 4,none,.mkf 77 [] [.t 1]⟩,⟨some 5,none,.call (.c (.func 76 [] [])) [.t 3,.t 4]⟩,⟨none,none,.store 10 (.t 2) (.t 5)⟩])
(.ret)), [.cell 2 true 10], none⟩
theorem amok39 : FnOk Tryz.prog 39 am39 := FnOk.mk' quiets Tryz.func39 (pols := []) (keep := none) (by kernel_rfl) rfl
def am42 : AFunc := ⟨2, .seq (.reg [⟨some 2,none,.boxB 10 (.t 0) []⟩,⟨some 3,none,.boxF 1 (.t 1)⟩,⟨some 4,none,.mov (.c (j 0))⟩])
(.seq (.seq (.reg [⟨some 7,none,.load false 1 (.t 3)⟩,⟨some 8,none,.bin .eql (.t 7) (.c (j 0))⟩])
(.cond (.t 8) (.seq (.reg [⟨some 4,none,.mov (.c (j 0))⟩])
(.ret)) (.skip)))
(.seq (.reg [⟨some 9,none,.faddr 7 (.t 2)⟩,⟨some 10,none,.load false 1 (.t 9)⟩,⟨some 11,none,.load false 1 (.t 3)⟩,⟨some 12,none,.bin .sub (.t 11) (.c (j 1))⟩,⟨some 13,none,.call (.c (.func 83 [] [])) [.t 10,.t 12]⟩,⟨some 5,none,.hole 1⟩,⟨some 5,none,.fill 1 ⟨.t 13, (some [])⟩⟩])
(.seq (.seq (.reg [⟨some 14,none,.load true 10 (.t 2)⟩,⟨some 15,none,.call (.c (.func 43 [] [])) [.t 14]⟩])
(.block 0 (.rangeF (.t 15) [16] (.reg [⟨some 6,none,.hole 10⟩,⟨some 6,none,.fill 10 ⟨.t 16, none⟩⟩]) (.block 1 (.dreg [(⟨some 17,none,.load false 1 (.t 5)⟩,0,5),(⟨some 18,none,.load true 10 (.t 6)⟩,1,0),(⟨some 19,none,.load false 1 (.t 3)⟩,2,0),(⟨some 20,none,.bin .sub (.t 19) (.c (j 1))⟩,0,0),(⟨some 21,none,.call (.c (.func 42 [] [])) [.t 18,.t 20]⟩,0,0),(⟨some 22,none,.maxs (.t 17) [.t 21]⟩,0,0),(⟨none,none,.store 1 (.t 5) (.t 22)⟩,0,0)])))))
(.seq (.reg [⟨some 23,none,.load false 1 (.t 5)⟩,⟨some 24,none,.bin .add (.t 23) (.c (j 1))⟩,⟨some 4,none,.mov (.t 24)⟩])
(.ret))))), [.tmp 4], none⟩
theorem amok42 : FnOk Tryz.prog 42 am42 := FnOk.mk' quiets Tryz.func42 (pols := [(0, 1, .frz),(3, 6, .res []),(3, 5, .hole),(5, 0, .hole),(5, 1, .hole)]) (keep := none) (by kernel_rfl) rfl
def am43 : AFunc := ⟨1, .seq (.reg [⟨some 1,none,.boxB 10 (.t 0) []⟩,⟨some 2,none,.mov (.c (.nilf))⟩])
(.seq (.reg [⟨some 3,none,.mkf 84 [] [.t 1]⟩,⟨some 2,none,.mov (.t 3)⟩])
(.ret)), [.tmp 2], none⟩
theorem amok43 : FnOk Tryz.prog 43 am43 := FnOk.mk' quiets Tryz.func43 (pols := []) (keep := none) (by kernel_rfl) rfl
def am44 : AFunc := ⟨1, .seq (.reg [⟨some 1,none,.boxB 10 (.t 0) []⟩,⟨some 2,none,.mov (.c (j 0))⟩])
(.seq (.seq (.reg [⟨some 4,none,.faddr 0 (.t 1)⟩,⟨some 5,none,.load false 1 (.t 4)⟩,⟨some 6,none,.bin .leq (.t 5) (.c (j 0))⟩,⟨some 7,none,.mov (.t 6)⟩,⟨some 8,some (7,false),.faddr 0 (.t 1)⟩,⟨some 9,some (7,false),.load false 1 (.t 8)⟩,⟨some 10,some (7,false),.bin .gtr (.t 9) (.c (j 29))⟩,⟨some 11,none,.pick (.t 7) (.c (.bool true)) (.t 10)⟩])
(.cond (.t 11) (.seq (.reg [⟨some 2,none,.mov (.c (j 23))⟩])
(.ret)) (.skip)))
(.seq (.reg [⟨some 12,none,.load true 10 (.t 1)⟩,⟨some 13,none,.call (.c (.func 89 [] [])) [.t 12]⟩,⟨some 14,none,.mov (.t 13)⟩,⟨some 15,some (14,true),.load true 10 (.t 1)⟩,⟨some 16,some (14,true),.call (.c (.func 90 [] [])) [.t 15]⟩,⟨some 17,none,.pick (.t 14) (.t 16) (.c (.bool false))⟩,⟨some 18,none,.mov (.t 17)⟩,⟨some 19,some (18,true),.load true 10 (.t 1)⟩,⟨some 20,some (18,true),.call (.c (.func 91 [] [])) [.t 19]⟩,⟨some 21,none,.pick (.t 18) (.t 20) (.c (.bool false))⟩,⟨some 22,none,.mov (.t 21)⟩,⟨some 23,some (22,true),.load true 10 (.t 1)⟩,⟨some 24,some (22,true),.call (.c (.func 92 [] [])) [.t 23]⟩,⟨some 25,none,.pick (.t 22) (.t 24) (.c (.bool false))⟩,⟨some 26,none,.mov (.t 25)⟩,⟨some 27,some (26,true),.faddr 9 (.t 1)⟩,⟨some 28,some (26,true),.load false 1 (.t 27)⟩,⟨some 29,some (26,true),.bin .geq (.t 28) (.c (j 0))⟩,⟨some 30,none,.pick (.t 26) (.t 29) (.c (.bool false))⟩,⟨some 3,none,.mov (.t 30)⟩])
(.seq (.seq (.dreg [(⟨some 31,none,.mov (.t 3)⟩,0,0),(⟨some 32,none,.un .not (.t 31)⟩,0,0),(⟨some 33,none,.mov (.t 32)⟩,0,0),(⟨some 34,some (33,false),.faddr 0 (.t 1)⟩,0,0),(⟨some 35,some (33,false),.load false 1 (.t 34)⟩,4,0),(⟨some 36,some (33,false),.bin .eql (.t 35) (.c (j 10))⟩,0,0),(⟨some 37,some (33,false),.mov (.t 36)⟩,0,0),(⟨some 38,some (37,true),.load true 10 (.t 1)⟩,7,0),(⟨some 39,some (37,true),.call (.c (.func 93 [] [])) [.t 38]⟩,0,0),(⟨some 40,some (37,true),.un .not (.t 39)⟩,0,0),(⟨some 41,some (33,false),.pick (.t 37) (.t 40) (.c (.bool false))⟩,0,0),(⟨some 42,none,.pick (.t 33) (.c (.bool true)) (.t 41)⟩,0,0),(⟨some 43,none,.mov (.t 42)⟩,0,0),(⟨some 44,some (43,false),.faddr 0 (.t 1)⟩,0,0),(⟨some 45,some (43,false),.load false 1 (.t 44)⟩,14,0),(⟨some 46,some (43,false),.bin .eql (.t 45) (.c (j 5))⟩,0,0),(⟨some 47,some (43,false),.mov (.t 46)⟩,0,0),(⟨some 48,some (47,true),.faddr 6 (.t 1)⟩,0,0),(⟨some 49,some (47,true),.load false 1 (.t 48)⟩,18,0),(⟨some 50,some (47,true),.iaddr 10 (.t 49) (.c (j 1))⟩,0,0),(⟨some 51,some (47,true),.faddr 0 (.t 50)⟩,0,0),(⟨some 52,some (47,true),.load false 1 (.t 51)⟩,21,0),(⟨some 53,some (47,true),.faddr 6 (.t 1)⟩,0,0),(⟨some 54,some (47,true),.load false 1 (.t 53)⟩,23,0),(⟨some 55,some (47,true),.iaddr 10 (.t 54) (.c (j 2))⟩,0,0),(⟨some 56,some (47,true),.faddr 0 (.t 55)⟩,0,0),(⟨some 57,some (47,true),.load false 1 (.t 56)⟩,26,0),(⟨some 58,some (47,true),.bin .add (.t 52) (.t 57)⟩,0,0),(⟨some 59,some (47,true),.bin .eql (.t 58) (.c (j 0))⟩,0,0),(⟨some 60,some (43,false),.pick (.t 47) (.t 59) (.c (.bool false))⟩,0,0),(⟨some 61,none,.pick (.t 43) (.c (.bool true)) (.t 60)⟩,0,0)])
(.cond (.t 61) (.seq (.reg [⟨some 2,none,.mov (.c (j 9))⟩])
(.ret)) (.skip)))
(.seq (.reg [⟨some 2,none,.mov (.c (j 0))⟩])
(.ret))))), [.tmp 2], none⟩
theorem amok44 : FnOk Tryz.prog 44 am44 := FnOk.mk' quiets Tryz.func44 (pols := []) (keep := none) (by kernel_rfl) rfl
def am45 : AFunc := ⟨2, .seq (.reg [⟨some 2,none,.boxF 1 (.t 0)⟩,⟨some 4,none,.mov (.c (.bool false))⟩])
(.seq (.reg [⟨some 5,none,.mov (.t 1)⟩,⟨some 6,none,.mkf 94 [] [.t 2]⟩,⟨some 7,none,.call (.c (.func 86 [] [])) [.t 5,.t 6]⟩,⟨some 4,none,.mov (.t 7)⟩])
(.ret)), [.tmp 4], none⟩
theorem amok45 : FnOk Tryz.prog 45 am45 := FnOk.mk' quiets Tryz.func45 (pols := [(0, 0, .frz)]) (keep := none) (by kernel_rfl) rfl
def am46 : AFunc := ⟨4, .seq (.reg [⟨some 7,none,.boxB 10 (.t 3) []⟩])
(.dreg [(⟨some 8,none,.mov (.t 0)⟩,0,0),(⟨some 9,none,.mov (.t 0)⟩,0,0),(⟨some 10,none,.nilchk (.t 9)⟩,0,0),(⟨some 11,none,.faddr 0 (.t 10)⟩,0,0),(⟨some 12,none,.load false 1 (.t 11)⟩,4,0),(⟨some 13,none,.mov (.t 1)⟩,0,0),(⟨some 14,none,.mov (.t 2)⟩,0,0),(⟨some 15,none,.faddr 9 (.t 7)⟩,0,0),(⟨some 16,none,.load false 1 (.t 15)⟩,8,0),(⟨some 17,none,.build z1 [(0,1,.t 13),(1,1,.t 14),(2,1,.t 16)]⟩,0,0),(⟨some 18,none,.bslF z1 1 [(0,3,.t 17)]⟩,0,0),(⟨some 19,none,.append 3 32 (.t 12) (.t 18)⟩,0,0),(⟨some 20,none,.nilchk (.t 8)⟩,0,0),(⟨some 21,none,.faddr 0 (.t 20)⟩,0,0),(⟨none,none,.store 1 (.t 21) (.t 19)⟩,0,0)]), [], none⟩
theorem amok46 : FnOk Tryz.prog 46 am46 := FnOk.mk' quiets Tryz.func46 (pols := [(1, 10, .frz)]) (keep := none) (by kernel_rfl) rfl
def am47 : AFunc := ⟨1, .seq (.reg [⟨some 2,none,.resv 1⟩])
(.seq (.reg [⟨some 3,none,.resv 1⟩])
(.seq (.seq (.reg [⟨some 9,none,.mov (.t 0)⟩,⟨some 10,none,.len false (.t 9)⟩,⟨some 11,none,.mov (.c (j 0))⟩])
(.block 0 (.loop (.seq (.reg [⟨some 12,none,.bin .lss (.t 11) (.t 10)⟩])
(.seq (.cond (.t 12) (.skip) (.exit 0))
(.seq (.block 1 (.seq (.reg [⟨some 13,none,.iaddr 4 (.t 9) (.t 11)⟩,⟨some 14,none,.load true 4 (.t 13)⟩,⟨some 5,none,.hole 4⟩,⟨some 5,none,.fill 4 ⟨.t 14, none⟩⟩])
(.seq (.reg [⟨some 15,none,.faddr 3 (.t 5)⟩,⟨some 16,none,.load false 1 (.t 15)⟩,⟨some 17,none,.call (.c (.func 47 [] [])) [.t 16]⟩,⟨some 6,none,.mov (.t 17)⟩])
(.seq (.seq (.reg [⟨some 18,none,.faddr 0 (.t 5)⟩,⟨some 19,none,.load false 1 (.t 18)⟩,⟨some 20,none,.bin .eql (.t 19) (.c (j 1))⟩])
(.cond (.t 20) (.reg [⟨some 21,none,.faddr 1 (.t 5)⟩,⟨some 22,none,.load false 1 (.t 21)⟩,⟨some 23,none,.bslR 1 [.str []] 1 [(0,1,.t 22)]⟩,⟨some 24,none,.mov (.t 6)⟩,⟨some 25,none,.append 1 16 (.t 23) (.t 24)⟩,⟨some 6,none,.mov (.t 25)⟩]) (.skip)))
(.seq (.reg [⟨some 26,none,.mov (.t 6)⟩,⟨some 27,none,.len false (.t 26)⟩,⟨some 28,none,.mov (.c (j 0))⟩])
(.block 2 (.loop (.seq (.reg [⟨some 29,none,.bin .lss (.t 28) (.t 27)⟩])
(.seq (.cond (.t 29) (.skip) (.exit 2))
(.seq (.block 3 (.seq (.reg [⟨some 30,none,.iaddr 1 (.t 26) (.t 28)⟩,⟨some 31,none,.load false 1 (.t 30)⟩,⟨some 8,none,.mov (.t 31)⟩])
(.seq (.reg [⟨some 32,none,.mov (.t 3)⟩,⟨some 33,none,.mov (.t 8)⟩,⟨some 34,none,.call (.c (.func 52 [] [])) [.t 32,.t 33]⟩,⟨some 35,none,.un .not (.t 34)⟩])
(.cond (.t 35) (.reg [⟨some 36,none,.mov (.t 3)⟩,⟨some 37,none,.mov (.t 8)⟩,⟨some 38,none,.bslF [.str []] 1 [(0,1,.t 37)]⟩,⟨some 39,none,.append 1 16 (.t 36) (.t 38)⟩,⟨some 3,none,.mov (.t 39)⟩]) (.skip)))))
(.reg [⟨some 40,none,.bin .add (.t 28) (.c (j 1))⟩,⟨some 28,none,.mov (.t 40)⟩])))))))))))
(.reg [⟨some 41,none,.bin .add (.t 11) (.c (j 1))⟩,⟨some 11,none,.mov (.t 41)⟩])))))))
(.seq (.reg [⟨some 42,none,.mov (.t 3)⟩,⟨some 2,none,.mov (.t 42)⟩])
(.ret)))), [.tmp 2], none⟩
theorem amok47 : FnOk Tryz.prog 47 am47 := FnOk.mk' quiets Tryz.func47 (pols := [(0, 0, .res [(0,1)]),(1, 0, .res [(0,1)]),(4, 2, .hole),(4, 3, .hole),(12, 2, .frz)]) (keep := none) (by kernel_rfl) rfl
def am48 : AFunc := ⟨2, .seq (.reg [⟨some 4,none,.mov (.c (.bool false))⟩])
(.seq (.reg [⟨some 5,none,.mov (.t 0)⟩,⟨some 6,none,.mov (.t 1)⟩,⟨some 7,none,.call (.c (.func 96 [] [])) [.t 5,.t 6]⟩,⟨some 8,none,.bin .geq (.t 7) (.c (j 0))⟩,⟨some 4,none,.mov (.t 8)⟩])
(.ret)), [.tmp 4], none⟩
theorem amok48 : FnOk Tryz.prog 48 am48 := FnOk.mk' quiets Tryz.func48 (pols := []) (keep := none) (by kernel_rfl) rfl
def am49 : AFunc := ⟨2, .seq (.reg [⟨some 2,none,.boxF 4 (.t 0)⟩,⟨some 3,none,.mov (.c (.bool false))⟩])
(.seq (.reg [⟨some 4,none,.load true 4 (.t 2)⟩,⟨some 5,none,.load false 1 (.t 1)⟩,⟨some 6,none,.call (.c (.func 50 [] [])) [.t 4,.t 5]⟩,⟨some 3,none,.mov (.t 6)⟩])
(.ret)), [.tmp 3], none⟩
theorem amok49 : FnOk Tryz.prog 49 am49 := FnOk.mk' quiets Tryz.func49 (pols := [(0, 0, .frz)]) (keep := none) (by kernel_rfl) rfl
def am50 : AFunc := ⟨2, .seq (.reg [⟨some 2,none,.boxF 4 (.t 0)⟩,⟨some 4,none,.mov (.c (.bool false))⟩])
(.seq (.reg [⟨some 5,none,.mov (.c (.bool false))⟩])
(.seq (.seq (.reg [⟨some 8,none,.faddr 3 (.t 2)⟩,⟨some 9,none,.load false 1 (.t 8)⟩,⟨some 10,none,.len false (.t 9)⟩,⟨some 11,none,.mov (.c (j 0))⟩])
(.block 0 (.loop (.seq (.reg [⟨some 12,none,.bin .lss (.t 11) (.t 10)⟩])
(.seq (.cond (.t 12) (.skip) (.exit 0))
(.seq (.block 1 (.seq (.reg [⟨some 13,none,.mov (.t 11)⟩,⟨some 14,none,.iaddr 4 (.t 9) (.t 11)⟩,⟨some 15,none,.load true 4 (.t 14)⟩,⟨some 7,none,.hole 4⟩,⟨some 6,none,.mov (.t 13)⟩,⟨some 7,none,.fill 4 ⟨.t 15, none⟩⟩])
(.seq (.seq (.reg [⟨some 16,none,.mov (.t 5)⟩,⟨some 17,none,.mov (.t 16)⟩,⟨some 18,some (17,true),.faddr 0 (.t 2)⟩,⟨some 19,some (17,true),.load false 1 (.t 18)⟩,⟨some 20,some (17,true),.bin .eql (.t 19) (.c (j 3))⟩,⟨some 21,none,.pick (.t 17) (.t 20) (.c (.bool false))⟩,⟨some 22,none,.mov (.t 21)⟩,⟨some 23,some (22,true),.mov (.t 1)⟩,⟨some 24,some (22,true),.bin .add (.c (.str [36])) (.t 23)⟩,⟨some 25,some (22,true),.faddr 2 (.t 2)⟩,⟨some 26,some (22,true),.load false 1 (.t 25)⟩,⟨some 27,some (22,true),.mov (.t 6)⟩,⟨some 28,some (22,true),.iaddr 10 (.t 26) (.t 27)⟩,⟨some 29,some (22,true),.load true 10 (.t 28)⟩,⟨some 30,some (22,true),.bslF z2 1 [(0,10,.t 29)]⟩,⟨some 31,some (22,true),.call (.c (.func 45 [] [])) [.t 24,.t 30]⟩,⟨some 32,none,.pick (.t 22) (.t 31) (.c (.bool false))⟩,⟨some 33,none,.mov (.t 32)⟩,⟨some 34,some (33,false),.mov (.t 5)⟩,⟨some 35,some (33,false),.mov (.t 34)⟩,⟨some 36,some (35,true),.load true 4 (.t 7)⟩,⟨some 37,some (35,true),.mov (.t 1)⟩,⟨some 38,some (35,true),.call (.c (.func 97 [] [])) [.t 36,.t 37]⟩,⟨some 39,some (33,false),.pick (.t 35) (.t 38) (.c (.bool false))⟩,⟨some 40,none,.pick (.t 33) (.c (.bool true)) (.t 39)⟩,⟨some 41,none,.mov (.t 40)⟩,⟨some 42,some (41,false),.load true 4 (.t 7)⟩,⟨some 43,some (41,false),.mov (.t 1)⟩,⟨some 44,some (41,false),.call (.c (.func 50 [] [])) [.t 42,.t 43]⟩,⟨some 45,none,.pick (.t 41) (.c (.bool true)) (.t 44)⟩])
(.cond (.t 45) (.seq (.reg [⟨some 4,none,.mov (.c (.bool true))⟩])
(.ret)) (.skip)))
(.reg [⟨some 46,none,.mov (.t 5)⟩,⟨some 47,none,.mov (.t 46)⟩,⟨some 48,some (47,false),.load true 4 (.t 7)⟩,⟨some 49,some (47,false),.bslF z6 1 [(0,4,.t 48)]⟩,⟨some 50,some (47,false),.call (.c (.func 47 [] [])) [.t 49]⟩,⟨some 51,some (47,false),.mov (.t 1)⟩,⟨some 52,some (47,false),.call (.c (.func 52 [] [])) [.t 50,.t 51]⟩,⟨some 53,none,.pick (.t 47) (.c (.bool true)) (.t 52)⟩,⟨some 5,none,.mov (.t 53)⟩]))))
(.reg [⟨some 54,none,.bin .add (.t 11) (.c (j 1))⟩,⟨some 11,none,.mov (.t 54)⟩])))))))
(.seq (.reg [⟨some 4,none,.mov (.c (.bool false))⟩])
(.ret)))), [.tmp 4], none⟩
theorem amok50 : FnOk Tryz.prog 50 am50 := FnOk.mk' quiets Tryz.func50 (pols := [(0, 0, .frz),(4, 3, .hole),(4, 5, .hole),(5, 14, .frz),(7, 3, .frz)]) (keep := none) (by kernel_rfl) rfl
def am51 : AFunc := ⟨1, .seq (.reg [⟨some 1,none,.boxB 10 (.t 0) []⟩,⟨some 2,none,.mov (.c (.nilsl))⟩])
(.seq (.seq (.reg [⟨some 3,none,.faddr 0 (.t 1)⟩,⟨some 4,none,.load false 1 (.t 3)⟩])
(.block 0 (.seq (.seq (.reg [⟨some 6,none,.bin .eql (.t 4) (.c (j 21))⟩,⟨some 5,none,.mov (.t 6)⟩])
(.cond (.t 5) (.skip) (.reg [⟨some 7,none,.bin .eql (.t 4) (.c (j 22))⟩,⟨some 5,none,.mov (.t 7)⟩])))
(.cond (.t 5) (.seq (.reg [⟨some 8,none,.faddr 6 (.t 1)⟩,⟨some 9,none,.load false 1 (.t 8)⟩,⟨some 10,none,.sliceL 10 (.t 9) (some (.c (j 2))) none none⟩,⟨some 2,none,.mov (.t 10)⟩])
(.ret)) (.seq (.reg [⟨some 12,none,.bin .eql (.t 4) (.c (j 26))⟩,⟨some 11,none,.mov (.t 12)⟩])
(.cond (.t 11) (.seq (.reg [⟨some 13,none,.faddr 6 (.t 1)⟩,⟨some 14,none,.load false 1 (.t 13)⟩,⟨some 15,none,.sliceL 10 (.t 14) (some (.c (j 1))) none none⟩,⟨some 2,none,.mov (.t 15)⟩])
(.ret)) (.skip)))))))
(.seq (.reg [⟨some 2,none,.mov (.c (.nilsl))⟩])
(.ret))), [.tmp 2], none⟩
theorem amok51 : FnOk Tryz.prog 51 am51 := FnOk.mk' quiets Tryz.func51 (pols := []) (keep := none) (by kernel_rfl) rfl
def am52 : AFunc := ⟨2, .seq (.reg [⟨some 4,none,.mov (.c (.bool false))⟩])
(.seq (.reg [⟨some 5,none,.mov (.t 0)⟩,⟨some 6,none,.mov (.t 1)⟩,⟨some 7,none,.call (.c (.func 98 [] [])) [.t 5,.t 6]⟩,⟨some 8,none,.bin .geq (.t 7) (.c (j 0))⟩,⟨some 4,none,.mov (.t 8)⟩])
(.ret)), [.tmp 4], none⟩
theorem amok52 : FnOk Tryz.prog 52 am52 := FnOk.mk' quiets Tryz.func52 (pols := []) (keep := none) (by kernel_rfl) rfl
def am55 : AFunc := ⟨2, .seq (.reg [⟨some 4,none,.resv 1⟩])
(.seq (.seq (.reg [⟨some 5,none,.mov (.t 1)⟩,⟨some 6,none,.bin .lss (.t 5) (.c (j 0))⟩])
(.cond (.t 6) (.reg [⟨some 7,none,.bad⟩,⟨none,none,.bad⟩]) (.skip)))
(.seq (.seq (.reg [⟨some 8,none,.mov (.t 1)⟩,⟨some 9,none,.mov (.t 0)⟩,⟨some 10,none,.capn (.t 9)⟩,⟨some 11,none,.mov (.t 0)⟩,⟨some 12,none,.len false (.t 11)⟩,⟨some 13,none,.bin .sub (.t 10) (.t 12)⟩,⟨some 14,none,.bin .sub (.t 8) (.t 13)⟩,⟨some 1,none,.mov (.t 14)⟩])
(.seq (.reg [⟨some 15,none,.mov (.t 1)⟩,⟨some 16,none,.bin .gtr (.t 15) (.c (j 0))⟩])
(.cond (.t 16) (.reg [⟨some 17,none,.mov (.t 0)⟩,⟨some 18,none,.mov (.t 0)⟩,⟨some 19,none,.capn (.t 18)⟩,⟨some 20,none,.sliceL 1 (.t 17) none (some (.t 19)) none⟩,⟨some 21,none,.mov (.t 1)⟩,⟨some 22,none,.appendZ 1 16 [.str []] (.t 20) (.t 21)⟩,⟨some 23,none,.mov (.t 0)⟩,⟨some 24,none,.len false (.t 23)⟩,⟨some 25,none,.sliceL 1 (.t 22) none (some (.t 24)) none⟩,⟨some 0,none,.mov (.t 25)⟩]) (.skip))))
(.seq (.reg [⟨some 26,none,.mov (.t 0)⟩,⟨some 4,none,.mov (.t 26)⟩])
(.ret)))), [.tmp 4], (some 0)⟩
theorem amok55 : FnOk Tryz.prog 55 am55 := FnOk.mk' quiets Tryz.func55 (pols := [(0, 0, .res [(0,1)])]) (keep := some 0) (by kernel_rfl) rfl
def am59 : AFunc := ⟨2, .seq (.reg [⟨some 4,none,.mov (.c (j 0))⟩])
(.seq (.reg [⟨some 5,none,.mov (.t 0)⟩,⟨some 6,none,.mov (.t 1)⟩,⟨some 7,none,.call (.c (.func 102 [] [])) [.t 5,.t 6]⟩,⟨some 4,none,.mov (.t 7)⟩])
(.ret)), [.tmp 4], none⟩
theorem amok59 : FnOk Tryz.prog 59 am59 := FnOk.mk' quiets Tryz.func59 (pols := []) (keep := none) (by kernel_rfl) rfl
def am60 : AFunc := ⟨1, .seq (.reg [⟨some 2,none,.mov (.c (.str []))⟩])
(.seq (.reg [⟨some 4,none,.mov (.t 0)⟩,⟨some 5,none,.nilchk (.t 4)⟩,⟨some 6,none,.faddr 1 (.t 5)⟩,⟨some 7,none,.load false 1 (.t 6)⟩,⟨some 3,none,.mov (.t 7)⟩])
(.seq (.block 0 (.loop (.seq (.seq (.reg [⟨some 8,none,.mov (.t 0)⟩,⟨some 9,none,.call (.c (.func 32 [] [])) [.t 8,.c (j 0)]⟩,⟨some 10,none,.call (.c (.func 65 [] [])) [.t 9]⟩])
(.cond (.t 10) (.skip) (.exit 0)))
(.block 1 (.reg [⟨some 11,none,.mov (.t 0)⟩,⟨some 12,none,.nilchk (.t 11)⟩,⟨some 13,none,.faddr 1 (.t 12)⟩,⟨some 14,none,.load false 1 (.t 13)⟩,⟨some 15,none,.bin .add (.t 14) (.c (j 1))⟩,⟨some 16,none,.nilchk (.t 11)⟩,⟨some 17,none,.faddr 1 (.t 16)⟩,⟨none,none,.store 1 (.t 17) (.t 15)⟩])))))
(.seq (.dreg [(⟨some 18,none,.mov (.t 0)⟩,0,0),(⟨some 19,none,.nilchk (.t 18)⟩,0,0),(⟨some 20,none,.faddr 0 (.t 19)⟩,0,0),(⟨some 21,none,.load false 1 (.t 20)⟩,3,0),(⟨some 22,none,.mov (.t 3)⟩,0,0),(⟨some 23,none,.mov (.t 0)⟩,0,0),(⟨some 24,none,.nilchk (.t 23)⟩,0,0),(⟨some 25,none,.faddr 1 (.t 24)⟩,0,0),(⟨some 26,none,.load false 1 (.t 25)⟩,8,0),(⟨some 27,none,.sliceS (.t 21) (some (.t 22)) (some (.t 26))⟩,0,0),(⟨some 2,none,.mov (.t 27)⟩,0,0)])
(.ret)))), [.tmp 2], none⟩
theorem amok60 : FnOk Tryz.prog 60 am60 := FnOk.mk' quiets Tryz.func60 (pols := []) (keep := none) (by kernel_rfl) rfl
def am61 : AFunc := ⟨0, .seq (.reg [⟨some 0,none,.mov (.c (.nilsl))⟩])
(.seq (.reg [⟨some 1,none,.call (.c (.func 71 [] [])) [.c (.str [116,101,120,116,32,106,115,111,110,32,98,97,115,101,54,52,32,98,97,115,101,54,52,100,32,117,114,105,32,104,116,109,108,32,99,115,118,32,116,115,118,32,115,104])]⟩,⟨some 0,none,.mov (.t 1)⟩])
(.ret)), [.tmp 0], none⟩
theorem amok61 : FnOk Tryz.prog 61 am61 := FnOk.mk' quiets Tryz.func61 (pols := []) (keep := none) (by kernel_rfl) rfl
def am62 : AFunc := ⟨2, .seq (.reg [⟨some 3,none,.boxF 6 (.t 1)⟩])
(.seq (.dreg [(⟨some 4,none,.mov (.t 0)⟩,0,0),(⟨some 5,none,.nilchk (.t 4)⟩,0,0),(⟨some 6,none,.faddr 2 (.t 5)⟩,0,0),(⟨some 7,none,.load false 1 (.t 6)⟩,3,0),(⟨some 8,none,.len false (.t 7)⟩,0,0),(⟨some 9,none,.bin .lss (.t 8) (.c (j 8192))⟩,0,0),(⟨some 10,none,.faddr 5 (.t 3)⟩,0,0),(⟨some 11,none,.load false 1 (.t 10)⟩,7,0),(⟨some 12,none,.call (.c (.func 37 [] [])) [.t 9,.t 11,.c (j 3)]⟩,0,0)])
(.dreg [(⟨some 13,none,.mov (.t 0)⟩,0,0),(⟨some 14,none,.mov (.t 0)⟩,0,0),(⟨some 15,none,.nilchk (.t 14)⟩,0,0),(⟨some 16,none,.faddr 2 (.t 15)⟩,0,0),(⟨some 17,none,.load false 1 (.t 16)⟩,4,0),(⟨some 18,none,.load true 6 (.t 3)⟩,5,0),(⟨some 19,none,.bslF z7 1 [(0,6,.t 18)]⟩,0,0),(⟨some 20,none,.append 6 72 (.t 17) (.t 19)⟩,0,0),(⟨some 21,none,.nilchk (.t 13)⟩,0,0),(⟨some 22,none,.faddr 2 (.t 21)⟩,0,0),(⟨none,none,.store 1 (.t 22) (.t 20)⟩,0,0)])), [], none⟩
theorem amok62 : FnOk Tryz.prog 62 am62 := FnOk.mk' quiets Tryz.func62 (pols := [(0, 0, .frz),(2, 6, .frz)]) (keep := none) (by kernel_rfl) rfl
def am63 : AFunc := ⟨2, .seq (.reg [⟨some 4,none,.mov (.c (.bool false))⟩])
(.seq (.dreg [(⟨some 6,none,.mov (.t 0)⟩,0,0),(⟨some 7,none,.nilchk (.t 6)⟩,0,0),(⟨some 8,none,.faddr 1 (.t 7)⟩,0,0),(⟨some 9,none,.load false 1 (.t 8)⟩,3,0),(⟨some 10,none,.mov (.t 0)⟩,0,0),(⟨some 11,none,.nilchk (.t 10)⟩,0,0),(⟨some 12,none,.faddr 0 (.t 11)⟩,0,0),(⟨some 13,none,.load false 1 (.t 12)⟩,7,0),(⟨some 14,none,.len true (.t 13)⟩,0,0),(⟨some 15,none,.bin .lss (.t 9) (.t 14)⟩,0,0),(⟨some 16,none,.mov (.t 15)⟩,0,0),(⟨some 17,some (16,true),.mov (.t 1)⟩,0,0),(⟨some 18,some (16,true),.mov (.t 0)⟩,0,0),(⟨some 19,some (16,true),.nilchk (.t 18)⟩,0,0),(⟨some 20,some (16,true),.faddr 0 (.t 19)⟩,0,0),(⟨some 21,some (16,true),.load false 1 (.t 20)⟩,15,0),(⟨some 22,some (16,true),.mov (.t 0)⟩,0,0),(⟨some 23,some (16,true),.nilchk (.t 22)⟩,0,0),(⟨some 24,some (16,true),.faddr 1 (.t 23)⟩,0,0),(⟨some 25,some (16,true),.load false 1 (.t 24)⟩,19,0),(⟨some 26,some (16,true),.indexS (.t 21) (.t 25)⟩,0,0),(⟨some 27,some (16,true),.call (.c (.func 28 [] [])) [.t 17,.t 26]⟩,0,0),(⟨some 28,some (16,true),.bin .geq (.t 27) (.c (j 0))⟩,0,0),(⟨some 29,none,.pick (.t 16) (.t 28) (.c (.bool false))⟩,0,0),(⟨some 5,none,.mov (.t 29)⟩,0,0)])
(.seq (.seq (.reg [⟨some 30,none,.mov (.t 5)⟩])
(.cond (.t 30) (.reg [⟨some 31,none,.mov (.t 0)⟩,⟨some 32,none,.nilchk (.t 31)⟩,⟨some 33,none,.faddr 1 (.t 32)⟩,⟨some 34,none,.load false 1 (.t 33)⟩,⟨some 35,none,.bin .add (.t 34) (.c (j 1))⟩,⟨some 36,none,.nilchk (.t 31)⟩,⟨some 37,none,.faddr 1 (.t 36)⟩,⟨none,none,.store 1 (.t 37) (.t 35)⟩]) (.skip)))
(.seq (.reg [⟨some 38,none,.mov (.t 5)⟩,⟨some 4,none,.mov (.t 38)⟩])
(.ret)))), [.tmp 4], none⟩
theorem amok63 : FnOk Tryz.prog 63 am63 := FnOk.mk' quiets Tryz.func63 (pols := []) (keep := none) (by kernel_rfl) rfl
def am64 : AFunc := ⟨1, .seq (.reg [⟨some 2,none,.mov (.c (.bool false))⟩])
(.seq (.reg [⟨some 5,none,.mov (.t 0)⟩,⟨some 6,none,.nilchk (.t 5)⟩,⟨some 7,none,.faddr 1 (.t 6)⟩,⟨some 8,none,.load false 1 (.t 7)⟩,⟨some 3,none,.mov (.t 8)⟩])
(.seq (.seq (.reg [⟨some 9,none,.mov (.t 0)⟩,⟨some 10,none,.call (.c (.func 32 [] [])) [.t 9,.c (j 0)]⟩,⟨some 4,none,.mov (.t 10)⟩])
(.block 0 (.loop (.seq (.seq (.reg [⟨some 11,none,.mov (.t 4)⟩,⟨some 12,none,.bin .geq (.t 11) (.c (.int .u8 (.ofNat 48)))⟩,⟨some 13,none,.mov (.t 12)⟩,⟨some 14,some (13,true),.mov (.t 4)⟩,⟨some 15,some (13,true),.bin .leq (.t 14) (.c (.int .u8 (.ofNat 57)))⟩,⟨some 16,none,.pick (.t 13) (.t 15) (.c (.bool false))⟩])
(.cond (.t 16) (.skip) (.exit 0)))
(.seq (.block 1 (.reg [⟨some 19,none,.mov (.t 0)⟩,⟨some 20,none,.nilchk (.t 19)⟩,⟨some 21,none,.faddr 1 (.t 20)⟩,⟨some 22,none,.load false 1 (.t 21)⟩,⟨some 23,none,.bin .add (.t 22) (.c (j 1))⟩,⟨some 24,none,.nilchk (.t 19)⟩,⟨some 25,none,.faddr 1 (.t 24)⟩,⟨none,none,.store 1 (.t 25) (.t 23)⟩]))
(.reg [⟨some 17,none,.mov (.t 0)⟩,⟨some 18,none,.call (.c (.func 32 [] [])) [.t 17,.c (j 0)]⟩,⟨some 4,none,.mov (.t 18)⟩]))))))
(.seq (.reg [⟨some 26,none,.mov (.t 0)⟩,⟨some 27,none,.nilchk (.t 26)⟩,⟨some 28,none,.faddr 1 (.t 27)⟩,⟨some 29,none,.load false 1 (.t 28)⟩,⟨some 30,none,.mov (.t 3)⟩,⟨some 31,none,.bin .gtr (.t 29) (.t 30)⟩,⟨some 2,none,.mov (.t 31)⟩])
(.ret)))), [.tmp 2], none⟩
theorem amok64 : FnOk Tryz.prog 64 am64 := FnOk.mk' quiets Tryz.func64 (pols := []) (keep := none) (by kernel_rfl) rfl
def am65 : AFunc := ⟨1, .seq (.reg [⟨some 2,none,.mov (.c (.bool false))⟩])
(.seq (.reg [⟨some 3,none,.mov (.t 0)⟩,⟨some 4,none,.call (.c (.func 30 [] [])) [.t 3]⟩,⟨some 5,none,.mov (.t 4)⟩,⟨some 6,some (5,false),.mov (.t 0)⟩,⟨some 7,some (5,false),.bin .geq (.t 6) (.c (.int .u8 (.ofNat 48)))⟩,⟨some 8,some (5,false),.mov (.t 7)⟩,⟨some 9,some (8,true),.mov (.t 0)⟩,⟨some 10,some (8,true),.bin .leq (.t 9) (.c (.int .u8 (.ofNat 57)))⟩,⟨some 11,some (5,false),.pick (.t 8) (.t 10) (.c (.bool false))⟩,⟨some 12,none,.pick (.t 5) (.c (.bool true)) (.t 11)⟩,⟨some 2,none,.mov (.t 12)⟩])
(.ret)), [.tmp 2], none⟩
theorem amok65 : FnOk Tryz.prog 65 am65 := FnOk.mk' quiets Tryz.func65 (pols := []) (keep := none) (by kernel_rfl) rfl
def am66 : AFunc := ⟨1, .seq (.reg [⟨some 2,none,.allocB z8 []⟩,⟨some 3,none,.mov (.c (j 0))⟩])
(.seq (.reg [⟨some 9,none,.mov (.t 0)⟩,⟨some 10,none,.call (.c (.func 103 [] [])) [.t 9]⟩,⟨some 8,none,.mov (.t 10)⟩,⟨some 11,none,.extract (.t 8) 0⟩,⟨some 12,none,.extract (.t 8) 1⟩,⟨some 4,none,.hole 5⟩,⟨some 4,none,.fill 5 ⟨.t 11, none⟩⟩,⟨some 5,none,.mov (.t 12)⟩])
(.seq (.block 0 (.seq (.reg [⟨some 14,none,.mov (.t 5)⟩,⟨some 15,none,.un .not (.t 14)⟩,⟨some 13,none,.mov (.t 15)⟩])
(.cond (.t 13) (.seq (.reg [⟨some 16,none,.build z8 []⟩,⟨none,none,.store 3 (.t 2) (.t 16)⟩,⟨some 3,none,.mov (.c (j 32))⟩])
(.ret)) (.seq (.reg [⟨some 18,none,.mov (.t 0)⟩,⟨some 19,none,.len true (.t 18)⟩,⟨some 20,none,.bin .gtr (.t 19) (.c (j 2000))⟩,⟨some 17,none,.mov (.t 20)⟩])
(.cond (.t 17) (.seq (.reg [⟨some 21,none,.build z8 []⟩,⟨none,none,.store 3 (.t 2) (.t 21)⟩,⟨some 3,none,.mov (.c (j 5))⟩])
(.ret)) (.skip))))))
(.seq (.reg [⟨some 23,none,.faddr 4 (.t 4)⟩,⟨some 24,none,.load false 1 (.t 23)⟩,⟨some 25,none,.faddr 1 (.t 4)⟩,⟨some 26,none,.load false 1 (.t 25)⟩,⟨some 27,none,.call (.c (.func 104 [] [])) [.t 24,.t 26]⟩,⟨some 22,none,.mov (.t 27)⟩,⟨some 28,none,.extract (.t 22) 0⟩,⟨some 29,none,.extract (.t 22) 1⟩,⟨some 6,none,.mov (.t 28)⟩,⟨some 5,none,.mov (.t 29)⟩])
(.seq (.seq (.reg [⟨some 30,none,.mov (.t 5)⟩,⟨some 31,none,.un .not (.t 30)⟩])
(.cond (.t 31) (.seq (.reg [⟨some 32,none,.build z8 []⟩,⟨none,none,.store 3 (.t 2) (.t 32)⟩,⟨some 3,none,.mov (.c (j 52))⟩])
(.ret)) (.skip)))
(.seq (.reg [⟨some 33,none,.faddr 2 (.t 4)⟩,⟨some 34,none,.load false 1 (.t 33)⟩,⟨some 35,none,.faddr 3 (.t 4)⟩,⟨some 36,none,.load false 1 (.t 35)⟩,⟨some 37,none,.bin .add (.t 34) (.t 36)⟩,⟨some 38,none,.call (.c (.func 106 [] [])) [.t 37]⟩,⟨some 39,none,.extract (.t 38) 0⟩,⟨some 40,none,.extract (.t 38) 1⟩,⟨some 41,none,.call (.c (.func 105 [] [])) [.t 39,.t 40]⟩,⟨some 7,none,.mov (.t 41)⟩])
(.seq (.reg [⟨some 42,none,.faddr 0 (.t 4)⟩,⟨some 43,none,.load false 1 (.t 42)⟩,⟨some 44,none,.mov (.t 7)⟩,⟨some 45,none,.mov (.t 6)⟩,⟨some 46,none,.faddr 3 (.t 4)⟩,⟨some 47,none,.load false 1 (.t 46)⟩,⟨some 48,none,.len true (.t 47)⟩,⟨some 49,none,.bin .sub (.t 45) (.t 48)⟩,⟨some 50,none,.build z8 [(0,1,.t 43),(1,1,.t 44),(2,1,.t 49)]⟩,⟨some 51,none,.build z8 [(0,3,.t 50)]⟩,⟨some 52,none,.call (.c (.func 107 [] [])) [.t 51]⟩,⟨some 53,none,.extract (.t 52) 0⟩,⟨some 54,none,.extract (.t 52) 1⟩,⟨none,none,.store 3 (.t 2) (.t 53)⟩,⟨some 3,none,.mov (.t 54)⟩])
(.ret))))))), [.cell 2 true 3,.tmp 3], none⟩
theorem amok66 : FnOk Tryz.prog 66 am66 := FnOk.mk' quiets Tryz.func66 (pols := [(1, 5, .hole),(1, 6, .hole)]) (keep := none) (by kernel_rfl) rfl
def am71 : AFunc := ⟨1, .seq (.reg [⟨some 2,none,.mov (.c (.nilsl))⟩])
(.seq (.reg [⟨some 3,none,.mov (.c (j 0))⟩])
(.seq (.reg [⟨some 4,none,.mov (.c (j 1))⟩])
(.seq (.reg [⟨some 5,none,.mov (.c (.int .u8 (.ofNat 0)))⟩])
(.seq (.seq (.reg [⟨some 6,none,.mov (.c (j 0))⟩])
(.block 0 (.loop (.seq (.seq (.reg [⟨some 13,none,.mov (.t 6)⟩,⟨some 14,none,.mov (.t 0)⟩,⟨some 15,none,.len true (.t 14)⟩,⟨some 16,none,.bin .lss (.t 13) (.t 15)⟩])
(.cond (.t 16) (.skip) (.exit 0)))
(.seq (.block 1 (.seq (.reg [⟨some 19,none,.mov (.t 0)⟩,⟨some 20,none,.mov (.t 6)⟩,⟨some 21,none,.indexS (.t 19) (.t 20)⟩,⟨some 7,none,.mov (.t 21)⟩])
(.seq (.reg [⟨some 22,none,.mov (.t 5)⟩,⟨some 23,none,.mov (.t 7)⟩,⟨some 24,none,.bin .or (.t 22) (.t 23)⟩,⟨some 5,none,.mov (.t 24)⟩])
(.seq (.reg [⟨some 25,none,.mov (.t 7)⟩,⟨some 26,none,.iaddrA 256 1 (.g 1) (.t 25)⟩,⟨some 27,none,.load false 1 (.t 26)⟩,⟨some 28,none,.convI .i64 (.t 27)⟩,⟨some 8,none,.mov (.t 28)⟩])
(.seq (.reg [⟨some 29,none,.mov (.t 3)⟩,⟨some 30,none,.mov (.t 4)⟩,⟨some 31,none,.mov (.t 8)⟩,⟨some 32,none,.un .xor (.t 31)⟩,⟨some 33,none,.bin .and (.t 30) (.t 32)⟩,⟨some 34,none,.bin .add (.t 29) (.t 33)⟩,⟨some 3,none,.mov (.t 34)⟩])
(.reg [⟨some 35,none,.mov (.t 8)⟩,⟨some 4,none,.mov (.t 35)⟩]))))))
(.reg [⟨some 17,none,.mov (.t 6)⟩,⟨some 18,none,.bin .add (.t 17) (.c (j 1))⟩,⟨some 6,none,.mov (.t 18)⟩]))))))
(.seq (.seq (.reg [⟨some 36,none,.mov (.t 5)⟩,⟨some 37,none,.bin .geq (.t 36) (.c (.int .u8 (.ofNat 128)))⟩])
(.cond (.t 37) (.seq (.reg [⟨some 38,none,.mov (.t 0)⟩,⟨some 39,none,.call (.c (.func 111 [] [])) [.t 38,.c (.func 112 [] [])]⟩,⟨some 2,none,.mov (.t 39)⟩])
(.ret)) (.skip)))
(.seq (.reg [⟨some 40,none,.mov (.t 3)⟩,⟨some 41,none,.msl 1 16 [.str []] (.t 40) (.t 40)⟩,⟨some 9,none,.mov (.t 41)⟩])
(.seq (.reg [⟨some 10,none,.mov (.c (j 0))⟩])
(.seq (.reg [⟨some 11,none,.mov (.c (j 0))⟩])
(.seq (.reg [⟨some 12,none,.mov (.c (j 0))⟩])
(.seq (.block 2 (.loop (.seq (.seq (.reg [⟨some 42,none,.mov (.t 12)⟩,⟨some 43,none,.mov (.t 0)⟩,⟨some 44,none,.len true (.t 43)⟩,⟨some 45,none,.bin .lss (.t 42) (.t 44)⟩,⟨some 46,none,.mov (.t 45)⟩,⟨some 47,some (46,true),.mov (.t 0)⟩,⟨some 48,some (46,true),.mov (.t 12)⟩,⟨some 49,some (46,true),.indexS (.t 47) (.t 48)⟩,⟨some 50,some (46,true),.iaddrA 256 1 (.g 1) (.t 49)⟩,⟨some 51,some (46,true),.load false 1 (.t 50)⟩,⟨some 52,some (46,true),.bin .neq (.t 51) (.c (.int .u8 (.ofNat 0)))⟩,⟨some 53,none,.pick (.t 46) (.t 52) (.c (.bool false))⟩])
(.cond (.t 53) (.skip) (.exit 2)))
(.block 3 (.reg [⟨some 54,none,.mov (.t 12)⟩,⟨some 55,none,.bin .add (.t 54) (.c (j 1))⟩,⟨some 12,none,.mov (.t 55)⟩])))))
(.seq (.reg [⟨some 56,none,.mov (.t 12)⟩,⟨some 11,none,.mov (.t 56)⟩])
(.seq (.block 4 (.loop (.seq (.seq (.reg [⟨some 57,none,.mov (.t 12)⟩,⟨some 58,none,.mov (.t 0)⟩,⟨some 59,none,.len true (.t 58)⟩,⟨some 60,none,.bin .lss (.t 57) (.t 59)⟩])
(.cond (.t 60) (.skip) (.exit 4)))
(.block 5 (.seq (.seq (.reg [⟨some 61,none,.mov (.t 0)⟩,⟨some 62,none,.mov (.t 12)⟩,⟨some 63,none,.indexS (.t 61) (.t 62)⟩,⟨some 64,none,.iaddrA 256 1 (.g 1) (.t 63)⟩,⟨some 65,none,.load false 1 (.t 64)⟩,⟨some 66,none,.bin .eql (.t 65) (.c (.int .u8 (.ofNat 0)))⟩])
(.cond (.t 66) (.seq (.reg [⟨some 67,none,.mov (.t 12)⟩,⟨some 68,none,.bin .add (.t 67) (.c (j 1))⟩,⟨some 12,none,.mov (.t 68)⟩])
(.exit 5)) (.skip)))
(.seq (.reg [⟨some 69,none,.mov (.t 9)⟩,⟨some 70,none,.mov (.t 10)⟩,⟨some 71,none,.mov (.t 0)⟩,⟨some 72,none,.mov (.t 11)⟩,⟨some 73,none,.mov (.t 12)⟩,⟨some 74,none,.sliceS (.t 71) (some (.t 72)) (some (.t 73))⟩,⟨some 75,none,.iaddr 1 (.t 69) (.t 70)⟩,⟨none,none,.store 1 (.t 75) (.t 74)⟩])
(.seq (.reg [⟨some 76,none,.mov (.t 10)⟩,⟨some 77,none,.bin .add (.t 76) (.c (j 1))⟩,⟨some 10,none,.mov (.t 77)⟩])
(.seq (.reg [⟨some 78,none,.mov (.t 12)⟩,⟨some 79,none,.bin .add (.t 78) (.c (j 1))⟩,⟨some 12,none,.mov (.t 79)⟩])
(.seq (.block 6 (.loop (.seq (.seq (.reg [⟨some 80,none,.mov (.t 12)⟩,⟨some 81,none,.mov (.t 0)⟩,⟨some 82,none,.len true (.t 81)⟩,⟨some 83,none,.bin .lss (.t 80) (.t 82)⟩,⟨some 84,none,.mov (.t 83)⟩,⟨some 85,some (84,true),.mov (.t 0)⟩,⟨some 86,some (84,true),.mov (.t 12)⟩,⟨some 87,some (84,true),.indexS (.t 85) (.t 86)⟩,⟨some 88,some (84,true),.iaddrA 256 1 (.g 1) (.t 87)⟩,⟨some 89,some (84,true),.load false 1 (.t 88)⟩,⟨some 90,some (84,true),.bin .neq (.t 89) (.c (.int .u8 (.ofNat 0)))⟩,⟨some 91,none,.pick (.t 84) (.t 90) (.c (.bool false))⟩])
(.cond (.t 91) (.skip) (.exit 6)))
(.block 7 (.reg [⟨some 92,none,.mov (.t 12)⟩,⟨some 93,none,.bin .add (.t 92) (.c (j 1))⟩,⟨some 12,none,.mov (.t 93)⟩])))))
(.reg [⟨some 94,none,.mov (.t 12)⟩,⟨some 11,none,.mov (.t 94)⟩]))))))))))
(.seq (.seq (.reg [⟨some 95,none,.mov (.t 11)⟩,⟨some 96,none,.mov (.t 0)⟩,⟨some 97,none,.len true (.t 96)⟩,⟨some 98,none,.bin .lss (.t 95) (.t 97)⟩])
(.cond (.t 98) (.reg [⟨some 99,none,.mov (.t 9)⟩,⟨some 100,none,.mov (.t 10)⟩,⟨some 101,none,.mov (.t 0)⟩,⟨some 102,none,.mov (.t 11)⟩,⟨some 103,none,.sliceS (.t 101) (some (.t 102)) none⟩,⟨some 104,none,.iaddr 1 (.t 99) (.t 100)⟩,⟨none,none,.store 1 (.t 104) (.t 103)⟩]) (.skip)))
(.seq (.reg [⟨some 105,none,.mov (.t 9)⟩,⟨some 2,none,.mov (.t 105)⟩])
(.ret))))))))))))))), [.tmp 2], none⟩
theorem amok71 : FnOk Tryz.prog 71 am71 := FnOk.mk' quiets Tryz.func71 (pols := []) (keep := none) (by kernel_rfl) rfl
def am72 : AFunc := ⟨2, .seq (.reg [⟨some 4,none,.mov (.c (.bool false))⟩])
(.seq (.reg [⟨some 5,none,.mov (.t 0)⟩,⟨some 6,none,.mov (.t 1)⟩,⟨some 7,none,.call (.c (.func 113 [] [])) [.t 5,.t 6]⟩,⟨some 4,none,.mov (.t 7)⟩])
(.ret)), [.tmp 4], none⟩
theorem amok72 : FnOk Tryz.prog 72 am72 := FnOk.mk' quiets Tryz.func72 (pols := []) (keep := none) (by kernel_rfl) rfl
def am73 : AFunc := ⟨1, .seq (.reg [⟨some 2,none,.mov (.c (.bool false))⟩])
(.seq (.reg [⟨some 3,none,.mov (.t 0)⟩,⟨some 4,none,.bin .neq (.t 3) (.c (.str []))⟩,⟨some 5,none,.mov (.t 4)⟩,⟨some 6,some (5,true),.mov (.t 0)⟩,⟨some 7,some (5,true),.indexS (.t 6) (.c (j 0))⟩,⟨some 8,some (5,true),.call (.c (.func 30 [] [])) [.t 7]⟩,⟨some 9,none,.pick (.t 5) (.t 8) (.c (.bool false))⟩,⟨some 10,none,.mov (.t 9)⟩,⟨some 11,some (10,true),.mov (.t 0)⟩,⟨some 12,some (10,true),.convSB (.t 11)⟩,⟨some 13,some (10,true),.call (.c (.func 114 [] [])) [.t 12,.c (.func 115 [] [])]⟩,⟨some 14,some (10,true),.un .not (.t 13)⟩,⟨some 15,none,.pick (.t 10) (.t 14) (.c (.bool false))⟩,⟨some 2,none,.mov (.t 15)⟩])
(.ret)), [.tmp 2], none⟩
theorem amok73 : FnOk Tryz.prog 73 am73 := FnOk.mk' quiets Tryz.func73 (pols := []) (keep := none) (by kernel_rfl) rfl
def am74 : AFunc := ⟨2, .seq (.reg [⟨some 4,none,.mov (.c (.bool false))⟩])
(.seq (.seq (.reg [⟨some 6,none,.mov (.t 0)⟩,⟨some 7,none,.len false (.t 6)⟩,⟨some 8,none,.mov (.t 1)⟩,⟨some 9,none,.len false (.t 8)⟩,⟨some 10,none,.bin .neq (.t 7) (.t 9)⟩])
(.cond (.t 10) (.seq (.reg [⟨some 4,none,.mov (.c (.bool false))⟩])
(.ret)) (.skip)))
(.seq (.seq (.reg [⟨some 11,none,.mov (.t 0)⟩,⟨some 12,none,.len false (.t 11)⟩,⟨some 13,none,.mov (.c (j 0))⟩])
(.block 0 (.loop (.seq (.reg [⟨some 14,none,.bin .lss (.t 13) (.t 12)⟩])
(.seq (.cond (.t 14) (.skip) (.exit 0))
(.seq (.block 1 (.seq (.reg [⟨some 15,none,.mov (.t 13)⟩,⟨some 5,none,.mov (.t 15)⟩])
(.seq (.dreg [(⟨some 16,none,.mov (.t 0)⟩,0,0),(⟨some 17,none,.mov (.t 5)⟩,0,0),(⟨some 18,none,.iaddr 1 (.t 16) (.t 17)⟩,0,0),(⟨some 19,none,.load false 1 (.t 18)⟩,3,0),(⟨some 20,none,.mov (.t 1)⟩,0,0),(⟨some 21,none,.mov (.t 5)⟩,0,0),(⟨some 22,none,.iaddr 1 (.t 20) (.t 21)⟩,0,0),(⟨some 23,none,.load false 1 (.t 22)⟩,7,0),(⟨some 24,none,.bin .neq (.t 19) (.t 23)⟩,0,0)])
(.cond (.t 24) (.seq (.reg [⟨some 4,none,.mov (.c (.bool false))⟩])
(.ret)) (.skip)))))
(.reg [⟨some 25,none,.bin .add (.t 13) (.c (j 1))⟩,⟨some 13,none,.mov (.t 25)⟩])))))))
(.seq (.reg [⟨some 4,none,.mov (.c (.bool true))⟩])
(.ret)))), [.tmp 4], none⟩
theorem amok74 : FnOk Tryz.prog 74 am74 := FnOk.mk' quiets Tryz.func74 (pols := []) (keep := none) (by kernel_rfl) rfl
def am76 : AFunc := ⟨2, .seq (.reg [⟨some 4,none,.allocB z2 []⟩])
(.seq (.seq (.reg [⟨some 6,none,.mov (.t 0)⟩,⟨some 7,none,.nilchk (.t 6)⟩,⟨some 8,none,.faddr 2 (.t 7)⟩,⟨some 9,none,.load false 1 (.t 8)⟩,⟨some 10,none,.bin .eql (.t 9) (.c (j 200))⟩])
(.cond (.t 10) (.seq (.seq (.reg [⟨some 11,none,.mov (.t 0)⟩,⟨some 12,none,.nilchk (.t 11)⟩,⟨some 13,none,.faddr 0 (.t 12)⟩,⟨some 14,none,.load false 1 (.t 13)⟩,⟨some 15,none,.len false (.t 14)⟩,⟨some 16,none,.bin .eql (.t 15) (.c (j 0))⟩])
(.cond (.t 16) (.reg [⟨some 17,none,.mov (.t 0)⟩,⟨some 18,none,.call (.c (.func 41 [] [])) [.t 17,.c (j 8)]⟩]) (.skip)))
(.reg [⟨some 19,none,.mov (.t 0)⟩,⟨some 20,none,.call (.c (.func 41 [] [])) [.t 19,.c (j 42)]⟩])) (.skip)))
(.seq (.reg [⟨some 21,none,.mov (.t 0)⟩,⟨some 22,none,.nilchk (.t 21)⟩,⟨some 23,none,.faddr 2 (.t 22)⟩,⟨some 24,none,.load false 1 (.t 23)⟩,⟨some 25,none,.bin .add (.t 24) (.c (j 1))⟩,⟨some 26,none,.nilchk (.t 21)⟩,⟨some 27,none,.faddr 2 (.t 26)⟩,⟨none,none,.store 1 (.t 27) (.t 25)⟩])
(.seq (.reg [⟨some 28,none,.mov (.t 1)⟩,⟨some 29,none,.call (.t 28) []⟩,⟨some 5,none,.hole 10⟩,⟨some 5,none,.fill 10 ⟨.t 29, none⟩⟩])
(.seq (.reg [⟨some 30,none,.mov (.t 0)⟩,⟨some 31,none,.nilchk (.t 30)⟩,⟨some 32,none,.faddr 2 (.t 31)⟩,⟨some 33,none,.load false 1 (.t 32)⟩,⟨some 34,none,.bin .sub (.t 33) (.c (j 1))⟩,⟨some 35,none,.nilchk (.t 30)⟩,⟨some 36,none,.faddr 2 (.t 35)⟩,⟨none,none,.store 1 (.t 36) (.t 34)⟩])
(.seq (.reg [⟨some 37,none,.load true 10 (.t 5)⟩,⟨none,none,.store 10 (.t 4) (.t 37)⟩])
(.ret)))))), [.cell 4 true 10], none⟩
theorem amok76 : FnOk Tryz.prog 76 am76 := FnOk.mk' quiets Tryz.func76 (pols := [(6, 2, .hole),(6, 3, .hole)]) (keep := none) (by kernel_rfl) rfl
def am77 : AFunc := ⟨1, .seq (.reg [⟨some 1,none,.allocB z2 []⟩])
(.seq (.reg [⟨some 2,none,.resv 10⟩])
(.block 0 (.loop (.block 1 (.seq (.reg [⟨some 4,none,.load false 1 (.t 0)⟩,⟨some 5,none,.call (.c (.func 78 [] [])) [.t 4,.c (j 1),.c (.str [100,101,102])]⟩,⟨some 6,none,.mov (.t 5)⟩,⟨some 7,some (6,false),.load false 1 (.t 0)⟩,⟨some 8,some (6,false),.call (.c (.func 78 [] [])) [.t 7,.c (j 1),.c (.str [108,97,98,101,108])]⟩,⟨some 9,none,.pick (.t 6) (.c (.bool true)) (.t 8)⟩,⟨some 3,none,.mov (.t 9)⟩])
(.seq (.reg [⟨some 10,none,.mov (.t 2)⟩,⟨some 11,none,.load false 1 (.t 0)⟩,⟨some 12,none,.call (.c (.func 79 [] [])) [.t 11]⟩,⟨some 13,none,.bslF z2 1 [(0,10,.t 12)]⟩,⟨some 14,none,.append 10 160 (.t 10) (.t 13)⟩,⟨some 2,none,.mov (.t 14)⟩])
(.seq (.reg [⟨some 15,none,.mov (.t 3)⟩,⟨some 16,none,.mov (.t 15)⟩,⟨some 17,some (16,false),.load false 1 (.t 0)⟩,⟨some 18,some (16,false),.call (.c (.func 80 [] [])) [.t 17,.c (j 4),.c (.str [124])]⟩,⟨some 19,some (16,false),.un .not (.t 18)⟩,⟨some 20,none,.pick (.t 16) (.c (.bool true)) (.t 19)⟩])
(.cond (.t 20) (.seq (.reg [⟨some 21,none,.mov (.t 2)⟩,⟨some 22,none,.call (.c (.func 81 [] [])) [.c (j 27),.t 21]⟩,⟨none,none,.store 10 (.t 1) (.t 22)⟩])
(.ret)) (.skip))))))))), [.cell 1 true 10], none⟩
theorem amok77 : FnOk Tryz.prog 77 am77 := FnOk.mk' quiets Tryz.func77 (pols := [(1, 0, .res [(0,10)]),(3, 3, .frz)]) (keep := none) (by kernel_rfl) rfl
def am78 : AFunc := ⟨3, .seq (.reg [⟨some 6,none,.mov (.c (.bool false))⟩])
(.seq (.reg [⟨some 7,none,.mov (.t 0)⟩,⟨some 8,none,.call (.c (.func 117 [] [])) [.t 7]⟩,⟨some 9,none,.mov (.t 1)⟩,⟨some 10,none,.bin .eql (.t 8) (.t 9)⟩,⟨some 11,none,.mov (.t 10)⟩,⟨some 12,some (11,true),.mov (.t 0)⟩,⟨some 13,some (11,true),.nilchk (.t 12)⟩,⟨some 14,some (11,true),.faddr 0 (.t 13)⟩,⟨some 15,some (11,true),.load false 1 (.t 14)⟩,⟨some 16,some (11,true),.iaddr 6 (.t 15) (.c (j 0))⟩,⟨some 17,some (11,true),.faddr 1 (.t 16)⟩,⟨some 18,some (11,true),.load false 1 (.t 17)⟩,⟨some 19,some (11,true),.mov (.t 2)⟩,⟨some 20,some (11,true),.bin .eql (.t 18) (.t 19)⟩,⟨some 21,none,.pick (.t 11) (.t 20) (.c (.bool false))⟩,⟨some 6,none,.mov (.t 21)⟩])
(.ret)), [.tmp 6], none⟩
theorem amok78 : FnOk Tryz.prog 78 am78 := FnOk.mk' quiets Tryz.func78 (pols := []) (keep := none) (by kernel_rfl) rfl
def am79 : AFunc := ⟨1, .seq (.reg [⟨some 2,none,.allocB z2 []⟩])
(.seq (.reg [⟨some 8,none,.mov (.t 0)⟩,⟨some 9,none,.call (.c (.func 82 [] [])) [.t 8]⟩,⟨some 3,none,.mov (.t 9)⟩])
(.seq (.block 0 (.seq (.reg [⟨some 11,none,.mov (.t 0)⟩,⟨some 12,none,.call (.c (.func 80 [] [])) [.t 11,.c (j 1),.c (.str [100,101,102])]⟩,⟨some 10,none,.mov (.t 12)⟩])
(.cond (.t 10) (.seq (.reg [⟨some 13,none,.mov (.t 0)⟩,⟨some 14,none,.call (.c (.func 118 [] [])) [.t 13]⟩,⟨some 4,none,.hole 12⟩,⟨some 4,none,.fill 12 ⟨.t 14, none⟩⟩])
(.seq (.reg [⟨some 15,none,.mov (.t 3)⟩,⟨some 16,none,.mov (.t 0)⟩,⟨some 17,none,.call (.c (.func 120 [] [])) [.t 16]⟩,⟨some 18,none,.bslF z2 1 [(0,10,.t 17)]⟩,⟨some 19,none,.call (.c (.func 119 [] [])) [.c (j 25),.t 15,.t 18]⟩,⟨some 5,none,.hole 10⟩,⟨some 5,none,.fill 10 ⟨.t 19, (some [])⟩⟩])
(.seq (.reg [⟨some 20,none,.load true 12 (.t 4)⟩,⟨some 21,none,.bslF z9 1 [(0,12,.t 20)]⟩,⟨some 22,none,.faddr 8 (.t 5)⟩,⟨none,none,.store 1 (.t 22) (.t 21)⟩])
(.seq (.reg [⟨some 23,none,.load true 10 (.t 5)⟩,⟨none,none,.store 10 (.t 2) (.t 23)⟩])
(.ret))))) (.seq (.reg [⟨some 25,none,.mov (.t 0)⟩,⟨some 26,none,.call (.c (.func 80 [] [])) [.t 25,.c (j 1),.c (.str [108,97,98,101,108])]⟩,⟨some 24,none,.mov (.t 26)⟩])
(.cond (.t 24) (.seq (.reg [⟨some 27,none,.mov (.t 0)⟩,⟨some 28,none,.call (.c (.func 121 [] [])) [.t 27,.c (j 5)]⟩,⟨some 6,none,.mov (.t 28)⟩])
(.seq (.reg [⟨some 29,none,.mov (.t 0)⟩,⟨some 30,none,.call (.c (.func 122 [] [])) [.t 29,.c (j 4),.c (.str [124])]⟩])
(.seq (.reg [⟨some 31,none,.mov (.t 3)⟩,⟨some 32,none,.mov (.t 0)⟩,⟨some 33,none,.call (.c (.func 39 [] [])) [.t 32]⟩,⟨some 34,none,.bslF z2 1 [(0,10,.t 33)]⟩,⟨some 35,none,.call (.c (.func 119 [] [])) [.c (j 23),.t 31,.t 34]⟩,⟨some 7,none,.hole 10⟩,⟨some 7,none,.fill 10 ⟨.t 35, (some [])⟩⟩])
(.seq (.reg [⟨some 36,none,.mov (.t 6)⟩,⟨some 37,none,.faddr 1 (.t 7)⟩,⟨none,none,.store 1 (.t 37) (.t 36)⟩])
(.seq (.reg [⟨some 38,none,.load true 10 (.t 7)⟩,⟨none,none,.store 10 (.t 2) (.t 38)⟩])
(.ret)))))) (.skip))))))
(.seq (.reg [⟨some 39,none,.mov (.t 0)⟩,⟨some 40,none,.mov (.t 0)⟩,⟨some 41,none,.mkf 124 [.t 40] []⟩,⟨some 42,none,.call (.c (.func 123 [] [])) [.t 39,.c (.str [44]),.t 41]⟩,⟨some 43,none,.call (.c (.func 81 [] [])) [.c (j 28),.t 42]⟩,⟨none,none,.store 10 (.t 2) (.t 43)⟩])
(.ret)))), [.cell 2 true 10], none⟩
theorem amok79 : FnOk Tryz.prog 79 am79 := FnOk.mk' quiets Tryz.func79 (pols := [(3, 2, .hole),(3, 3, .hole),(4, 3, .frz),(4, 6, .res []),(4, 5, .hole),(5, 1, .frz),(10, 3, .frz),(10, 6, .res []),(10, 5, .hole)]) (keep := none) (by kernel_rfl) rfl
def am80 : AFunc := ⟨3, .seq (.reg [⟨some 6,none,.mov (.c (.bool false))⟩])
(.seq (.reg [⟨some 8,none,.mov (.t 0)⟩,⟨some 9,none,.mov (.t 1)⟩,⟨some 10,none,.mov (.t 2)⟩,⟨some 11,none,.call (.c (.func 78 [] [])) [.t 8,.t 9,.t 10]⟩,⟨some 7,none,.mov (.t 11)⟩])
(.seq (.seq (.reg [⟨some 12,none,.mov (.t 7)⟩])
(.cond (.t 12) (.reg [⟨some 13,none,.mov (.t 0)⟩,⟨some 14,none,.call (.c (.func 125 [] [])) [.t 13]⟩]) (.skip)))
(.seq (.reg [⟨some 15,none,.mov (.t 7)⟩,⟨some 6,none,.mov (.t 15)⟩])
(.ret)))), [.tmp 6], none⟩
theorem amok80 : FnOk Tryz.prog 80 am80 := FnOk.mk' quiets Tryz.func80 (pols := []) (keep := none) (by kernel_rfl) rfl
def am81 : AFunc := ⟨2, .seq (.reg [⟨some 4,none,.allocB z2 []⟩])
(.seq (.seq (.reg [⟨some 5,none,.mov (.t 1)⟩,⟨some 6,none,.len false (.t 5)⟩,⟨some 7,none,.bin .eql (.t 6) (.c (j 1))⟩])
(.cond (.t 7) (.seq (.reg [⟨some 8,none,.mov (.t 1)⟩,⟨some 9,none,.iaddr 10 (.t 8) (.c (j 0))⟩,⟨some 10,none,.load true 10 (.t 9)⟩,⟨none,none,.store 10 (.t 4) (.t 10)⟩])
(.ret)) (.skip)))
(.seq (.reg [⟨some 11,none,.mov (.t 0)⟩,⟨some 12,none,.mov (.t 1)⟩,⟨some 13,none,.mov (.t 1)⟩,⟨some 14,none,.iaddr 10 (.t 13) (.c (j 0))⟩,⟨some 15,none,.faddr 9 (.t 14)⟩,⟨some 16,none,.load false 1 (.t 15)⟩,⟨some 17,none,.build z2 [(0,1,.t 11),(6,1,.t 12),(9,1,.t 16)]⟩,⟨none,none,.store 10 (.t 4) (.t 17)⟩])
(.ret))), [.cell 4 true 10], none⟩
theorem amok81 : FnOk Tryz.prog 81 am81 := FnOk.mk' quiets Tryz.func81 (pols := []) (keep := none) (by kernel_rfl) rfl
def am82 : AFunc := ⟨1, .seq (.reg [⟨some 2,none,.mov (.c (j 0))⟩])
(.seq (.seq (.reg [⟨some 3,none,.mov (.t 0)⟩,⟨some 4,none,.nilchk (.t 3)⟩,⟨some 5,none,.faddr 0 (.t 4)⟩,⟨some 6,none,.load false 1 (.t 5)⟩,⟨some 7,none,.len false (.t 6)⟩,⟨some 8,none,.bin .gtr (.t 7) (.c (j 0))⟩])
(.cond (.t 8) (.seq (.reg [⟨some 9,none,.mov (.t 0)⟩,⟨some 10,none,.nilchk (.t 9)⟩,⟨some 11,none,.faddr 0 (.t 10)⟩,⟨some 12,none,.load false 1 (.t 11)⟩,⟨some 13,none,.iaddr 6 (.t 12) (.c (j 0))⟩,⟨some 14,none,.faddr 5 (.t 13)⟩,⟨some 15,none,.load false 1 (.t 14)⟩,⟨some 2,none,.mov (.t 15)⟩])
(.ret)) (.skip)))
(.seq (.reg [⟨some 16,none,.mov (.t 0)⟩,⟨some 17,none,.nilchk (.t 16)⟩,⟨some 18,none,.faddr 1 (.t 17)⟩,⟨some 19,none,.load false 1 (.t 18)⟩,⟨some 2,none,.mov (.t 19)⟩])
(.ret))), [.tmp 2], none⟩
theorem amok82 : FnOk Tryz.prog 82 am82 := FnOk.mk' quiets Tryz.func82 (pols := []) (keep := none) (by kernel_rfl) rfl
def am83 : AFunc := ⟨2, .seq (.reg [⟨some 4,none,.mov (.c (j 0))⟩])
(.seq (.reg [⟨some 5,none,.mov (.c (j 0))⟩])
(.seq (.seq (.reg [⟨some 8,none,.mov (.t 0)⟩,⟨some 9,none,.len false (.t 8)⟩,⟨some 10,none,.mov (.c (j 0))⟩])
(.block 0 (.loop (.seq (.reg [⟨some 11,none,.bin .lss (.t 10) (.t 9)⟩])
(.seq (.cond (.t 11) (.skip) (.exit 0))
(.seq (.block 1 (.seq (.reg [⟨some 12,none,.iaddr 4 (.t 8) (.t 10)⟩,⟨some 13,none,.load true 4 (.t 12)⟩,⟨some 7,none,.hole 4⟩,⟨some 7,none,.fill 4 ⟨.t 13, none⟩⟩])
(.seq (.reg [⟨some 14,none,.mov (.t 1)⟩,⟨some 15,none,.bin .gtr (.t 14) (.c (j 0))⟩])
(.cond (.t 15) (.reg [⟨some 16,none,.mov (.t 5)⟩,⟨some 17,none,.faddr 3 (.t 7)⟩,⟨some 18,none,.load false 1 (.t 17)⟩,⟨some 19,none,.mov (.t 1)⟩,⟨some 20,none,.bin .sub (.t 19) (.c (j 1))⟩,⟨some 21,none,.call (.c (.func 83 [] [])) [.t 18,.t 20]⟩,⟨some 22,none,.bin .add (.c (j 1)) (.t 21)⟩,⟨some 23,none,.maxs (.t 16) [.t 22]⟩,⟨some 5,none,.mov (.t 23)⟩]) (.skip)))))
(.reg [⟨some 24,none,.bin .add (.t 10) (.c (j 1))⟩,⟨some 10,none,.mov (.t 24)⟩])))))))
(.seq (.reg [⟨some 25,none,.mov (.t 5)⟩,⟨some 4,none,.mov (.t 25)⟩])
(.ret)))), [.tmp 4], none⟩
theorem amok83 : FnOk Tryz.prog 83 am83 := FnOk.mk' quiets Tryz.func83 (pols := [(4, 2, .hole),(4, 3, .hole)]) (keep := none) (by kernel_rfl) rfl
def am84 : AFunc := ⟨2, .seq (.reg [⟨some 2,none,.boxB 1 (.t 0) []⟩])
(.seq (.reg [⟨some 6,none,.mkf 85 [] [.t 2]⟩,⟨some 3,none,.mov (.t 6)⟩])
(.seq (.seq (.reg [⟨some 7,none,.faddr 6 (.t 1)⟩,⟨some 8,none,.load false 1 (.t 7)⟩,⟨some 9,none,.mov (.t 3)⟩,⟨some 10,none,.call (.c (.func 86 [] [])) [.t 8,.t 9]⟩,⟨some 11,none,.mov (.t 10)⟩,⟨some 12,some (11,false),.faddr 7 (.t 1)⟩,⟨some 13,some (11,false),.load false 1 (.t 12)⟩,⟨some 14,some (11,false),.mkf 87 [] [.t 2]⟩,⟨some 15,some (11,false),.call (.c (.func 48 [] [])) [.t 13,.t 14]⟩,⟨some 16,none,.pick (.t 11) (.c (.bool true)) (.t 15)⟩])
(.cond (.t 16) (.ret) (.skip)))
(.seq (.reg [⟨some 17,none,.faddr 8 (.t 1)⟩,⟨some 18,none,.load false 1 (.t 17)⟩,⟨some 19,none,.len false (.t 18)⟩,⟨some 20,none,.mov (.c (j 0))⟩])
(.block 0 (.loop (.seq (.reg [⟨some 21,none,.bin .lss (.t 20) (.t 19)⟩])
(.seq (.cond (.t 21) (.skip) (.exit 0))
(.seq (.block 1 (.seq (.reg [⟨some 22,none,.iaddr 12 (.t 18) (.t 20)⟩,⟨some 23,none,.load true 12 (.t 22)⟩,⟨some 5,none,.hole 12⟩,⟨some 5,none,.fill 12 ⟨.t 23, none⟩⟩])
(.seq (.reg [⟨some 24,none,.mov (.t 3)⟩,⟨some 25,none,.faddr 2 (.t 5)⟩,⟨some 26,none,.load true 10 (.t 25)⟩,⟨some 27,none,.call (.t 24) [.t 26]⟩])
(.cond (.t 27) (.ret) (.skip)))))
(.reg [⟨some 28,none,.bin .add (.t 20) (.c (j 1))⟩,⟨some 20,none,.mov (.t 28)⟩]))))))))), [], none⟩
theorem amok84 : FnOk Tryz.prog 84 am84 := FnOk.mk' quiets Tryz.func84 (pols := [(5, 2, .hole),(5, 3, .hole)]) (keep := none) (by kernel_rfl) rfl
def am85 : AFunc := ⟨2, .seq (.reg [⟨some 2,none,.boxB 10 (.t 0) []⟩,⟨some 3,none,.mov (.c (.bool false))⟩])
(.seq (.reg [⟨some 4,none,.load false 1 (.t 1)⟩,⟨some 5,none,.load true 10 (.t 2)⟩,⟨some 6,none,.call (.t 4) [.t 5]⟩,⟨some 7,none,.un .not (.t 6)⟩,⟨some 3,none,.mov (.t 7)⟩])
(.ret)), [.tmp 3], none⟩
theorem amok85 : FnOk Tryz.prog 85 am85 := FnOk.mk' quiets Tryz.func85 (pols := []) (keep := none) (by kernel_rfl) rfl
def am86 : AFunc := ⟨2, .seq (.reg [⟨some 4,none,.mov (.c (.bool false))⟩])
(.seq (.reg [⟨some 5,none,.mov (.t 0)⟩,⟨some 6,none,.mov (.t 1)⟩,⟨some 7,none,.call (.c (.func 126 [] [])) [.t 5,.t 6]⟩,⟨some 8,none,.bin .geq (.t 7) (.c (j 0))⟩,⟨some 4,none,.mov (.t 8)⟩])
(.ret)), [.tmp 4], none⟩
theorem amok86 : FnOk Tryz.prog 86 am86 := FnOk.mk' quiets Tryz.func86 (pols := []) (keep := none) (by kernel_rfl) rfl
def am87 : AFunc := ⟨2, .seq (.reg [⟨some 2,none,.boxF 4 (.t 0)⟩,⟨some 3,none,.mov (.c (.bool false))⟩])
(.seq (.reg [⟨some 4,none,.load true 4 (.t 2)⟩,⟨some 5,none,.load false 1 (.t 1)⟩,⟨some 6,none,.call (.c (.func 88 [] [])) [.t 4,.t 5]⟩,⟨some 7,none,.un .not (.t 6)⟩,⟨some 3,none,.mov (.t 7)⟩])
(.ret)), [.tmp 3], none⟩
theorem amok87 : FnOk Tryz.prog 87 am87 := FnOk.mk' quiets Tryz.func87 (pols := [(0, 0, .frz)]) (keep := none) (by kernel_rfl) rfl
def am88 : AFunc := ⟨2, .seq (.reg [⟨some 2,none,.boxF 4 (.t 0)⟩,⟨some 3,none,.boxB 1 (.t 1) []⟩,⟨some 4,none,.mov (.c (.bool false))⟩])
(.seq (.reg [⟨some 5,none,.faddr 2 (.t 2)⟩,⟨some 6,none,.load false 1 (.t 5)⟩,⟨some 7,none,.mkf 127 [] [.t 3]⟩,⟨some 8,none,.call (.c (.func 86 [] [])) [.t 6,.t 7]⟩,⟨some 9,none,.un .not (.t 8)⟩,⟨some 10,none,.mov (.t 9)⟩,⟨some 11,some (10,true),.faddr 3 (.t 2)⟩,⟨some 12,some (10,true),.load false 1 (.t 11)⟩,⟨some 13,some (10,true),.mkf 128 [] [.t 3]⟩,⟨some 14,some (10,true),.call (.c (.func 48 [] [])) [.t 12,.t 13]⟩,⟨some 15,some (10,true),.un .not (.t 14)⟩,⟨some 16,none,.pick (.t 10) (.t 15) (.c (.bool false))⟩,⟨some 4,none,.mov (.t 16)⟩])
(.ret)), [.tmp 4], none⟩
theorem amok88 : FnOk Tryz.prog 88 am88 := FnOk.mk' quiets Tryz.func88 (pols := [(0, 0, .frz)]) (keep := none) (by kernel_rfl) rfl
def am89 : AFunc := ⟨1, .seq (.reg [⟨some 1,none,.boxB 10 (.t 0) []⟩,⟨some 2,none,.mov (.c (.bool false))⟩])
(.seq (.reg [⟨some 7,none,.faddr 0 (.t 1)⟩,⟨some 8,none,.load false 1 (.t 7)⟩,⟨some 9,none,.call (.c (.func 129 [] [])) [.t 8]⟩,⟨some 3,none,.hole 3⟩,⟨some 3,none,.fill 3 ⟨.t 9, none⟩⟩])
(.seq (.seq (.reg [⟨some 10,none,.faddr 6 (.t 1)⟩,⟨some 11,none,.load false 1 (.t 10)⟩,⟨some 12,none,.len false (.t 11)⟩,⟨some 13,none,.faddr 0 (.t 3)⟩,⟨some 14,none,.load false 1 (.t 13)⟩,⟨some 15,none,.bin .lss (.t 12) (.t 14)⟩,⟨some 16,none,.mov (.t 15)⟩,⟨some 17,some (16,false),.faddr 6 (.t 1)⟩,⟨some 18,some (16,false),.load false 1 (.t 17)⟩,⟨some 19,some (16,false),.len false (.t 18)⟩,⟨some 20,some (16,false),.faddr 1 (.t 3)⟩,⟨some 21,some (16,false),.load false 1 (.t 20)⟩,⟨some 22,some (16,false),.bin .gtr (.t 19) (.t 21)⟩,⟨some 23,none,.pick (.t 16) (.c (.bool true)) (.t 22)⟩])
(.cond (.t 23) (.seq (.reg [⟨some 2,none,.mov (.c (.bool false))⟩])
(.ret)) (.skip)))
(.seq (.seq (.reg [⟨some 24,none,.faddr 6 (.t 1)⟩,⟨some 25,none,.load false 1 (.t 24)⟩,⟨some 26,none,.len false (.t 25)⟩,⟨some 27,none,.mov (.c (j 0))⟩])
(.block 0 (.loop (.seq (.reg [⟨some 28,none,.bin .lss (.t 27) (.t 26)⟩])
(.seq (.cond (.t 28) (.skip) (.exit 0))
(.seq (.block 1 (.seq (.reg [⟨some 29,none,.mov (.t 27)⟩,⟨some 30,none,.iaddr 10 (.t 25) (.t 27)⟩,⟨some 31,none,.load true 10 (.t 30)⟩,⟨some 5,none,.hole 10⟩,⟨some 4,none,.mov (.t 29)⟩,⟨some 5,none,.fill 10 ⟨.t 31, none⟩⟩])
(.seq (.reg [⟨some 32,none,.load true 10 (.t 5)⟩,⟨some 33,none,.call (.c (.func 130 [] [])) [.t 32]⟩,⟨some 6,none,.mov (.t 33)⟩])
(.seq (.block 2 (.seq (.reg [⟨some 35,none,.faddr 0 (.t 1)⟩,⟨some 36,none,.load false 1 (.t 35)⟩,⟨some 37,none,.bin .eql (.t 36) (.c (j 13))⟩,⟨some 34,none,.mov (.t 37)⟩])
(.cond (.t 34) (.reg [⟨some 38,none,.faddr 0 (.t 5)⟩,⟨some 39,none,.load false 1 (.t 38)⟩,⟨some 40,none,.bin .eql (.t 39) (.c (j 14))⟩,⟨some 6,none,.mov (.t 40)⟩]) (.seq (.reg [⟨some 42,none,.faddr 0 (.t 1)⟩,⟨some 43,none,.load false 1 (.t 42)⟩,⟨some 44,none,.bin .eql (.t 43) (.c (j 10))⟩,⟨some 41,none,.mov (.t 44)⟩])
(.cond (.t 41) (.reg [⟨some 45,none,.faddr 0 (.t 5)⟩,⟨some 46,none,.load false 1 (.t 45)⟩,⟨some 47,none,.bin .eql (.t 46) (.c (j 11))⟩,⟨some 48,none,.mov (.t 47)⟩,⟨some 49,some (48,false),.faddr 0 (.t 5)⟩,⟨some 50,some (48,false),.load false 1 (.t 49)⟩,⟨some 51,some (48,false),.bin .eql (.t 50) (.c (j 9))⟩,⟨some 52,none,.pick (.t 48) (.c (.bool true)) (.t 51)⟩,⟨some 6,none,.mov (.t 52)⟩]) (.seq (.reg [⟨some 54,none,.faddr 0 (.t 5)⟩,⟨some 55,none,.load false 1 (.t 54)⟩,⟨some 56,none,.bin .eql (.t 55) (.c (j 0))⟩,⟨some 53,none,.mov (.t 56)⟩])
(.cond (.t 53) (.reg [⟨some 57,none,.faddr 2 (.t 3)⟩,⟨some 58,none,.load false 1 (.t 57)⟩,⟨some 59,none,.mov (.t 4)⟩,⟨some 60,none,.bin .shr (.t 58) (.t 59)⟩,⟨some 61,none,.bin .and (.t 60) (.c (j 1))⟩,⟨some 62,none,.bin .eql (.t 61) (.c (j 1))⟩,⟨some 63,none,.mov (.t 62)⟩,⟨some 64,some (63,true),.load true 10 (.t 5)⟩,⟨some 65,some (63,true),.call (.c (.func 131 [] [])) [.t 64]⟩,⟨some 66,none,.pick (.t 63) (.t 65) (.c (.bool false))⟩,⟨some 6,none,.mov (.t 66)⟩]) (.skip))))))))
(.seq (.reg [⟨some 67,none,.mov (.t 6)⟩,⟨some 68,none,.un .not (.t 67)⟩])
(.cond (.t 68) (.seq (.reg [⟨some 2,none,.mov (.c (.bool false))⟩])
(.ret)) (.skip)))))))
(.reg [⟨some 69,none,.bin .add (.t 27) (.c (j 1))⟩,⟨some 27,none,.mov (.t 69)⟩])))))))
(.seq (.reg [⟨some 2,none,.mov (.c (.bool true))⟩])
(.ret))))), [.tmp 2], none⟩
theorem amok89 : FnOk Tryz.prog 89 am89 := FnOk.mk' quiets Tryz.func89 (pols := [(1, 3, .hole),(1, 4, .hole),(6, 3, .hole),(6, 5, .hole)]) (keep := none) (by kernel_rfl) rfl
def am90 : AFunc := ⟨1, .seq (.reg [⟨some 1,none,.boxB 10 (.t 0) []⟩,⟨some 2,none,.mov (.c (.bool false))⟩])
(.seq (.dreg [(⟨some 6,none,.faddr 1 (.t 1)⟩,0,0),(⟨some 7,none,.load false 1 (.t 6)⟩,1,0),(⟨some 8,none,.bin .eql (.t 7) (.c (.str []))⟩,0,0),(⟨some 9,none,.faddr 2 (.t 1)⟩,0,0),(⟨some 10,none,.load false 1 (.t 9)⟩,4,0),(⟨some 11,none,.bin .eql (.t 10) (.c (.str []))⟩,0,0),(⟨some 3,none,.mov (.t 8)⟩,0,0),(⟨some 4,none,.mov (.t 11)⟩,0,0)])
(.seq (.dreg [(⟨some 12,none,.call (.c (.func 61 [] [])) []⟩,0,0),(⟨some 13,none,.faddr 1 (.t 1)⟩,0,0),(⟨some 14,none,.load false 1 (.t 13)⟩,0,0),(⟨some 15,none,.call (.c (.func 52 [] [])) [.t 12,.t 14]⟩,0,0),(⟨some 5,none,.mov (.t 15)⟩,0,0)])
(.seq (.seq (.reg [⟨some 16,none,.faddr 0 (.t 1)⟩,⟨some 17,none,.load false 1 (.t 16)⟩])
(.block 0 (.seq (.reg [⟨some 19,none,.bin .eql (.t 17) (.c (j 3))⟩,⟨some 18,none,.mov (.t 19)⟩])
(.cond (.t 18) (.reg [⟨some 20,none,.faddr 2 (.t 1)⟩,⟨some 21,none,.load false 1 (.t 20)⟩,⟨some 22,none,.call (.c (.func 132 [] [])) [.t 21]⟩,⟨some 4,none,.mov (.t 22)⟩]) (.seq (.reg [⟨some 24,none,.bin .eql (.t 17) (.c (j 9))⟩,⟨some 23,none,.mov (.t 24)⟩])
(.cond (.t 23) (.reg [⟨some 25,none,.faddr 2 (.t 1)⟩,⟨some 26,none,.load false 1 (.t 25)⟩,⟨some 27,none,.call (.c (.func 133 [] [])) [.t 26]⟩,⟨some 4,none,.mov (.t 27)⟩]) (.seq (.reg [⟨some 29,none,.bin .eql (.t 17) (.c (j 10))⟩,⟨some 28,none,.mov (.t 29)⟩])
(.cond (.t 28) (.reg [⟨some 30,none,.mov (.t 3)⟩,⟨some 31,none,.mov (.t 30)⟩,⟨some 32,some (31,false),.mov (.t 5)⟩,⟨some 33,none,.pick (.t 31) (.c (.bool true)) (.t 32)⟩,⟨some 3,none,.mov (.t 33)⟩]) (.seq (.seq (.reg [⟨some 35,none,.bin .eql (.t 17) (.c (j 16))⟩,⟨some 34,none,.mov (.t 35)⟩])
(.cond (.t 34) (.skip) (.seq (.reg [⟨some 36,none,.bin .eql (.t 17) (.c (j 23))⟩,⟨some 34,none,.mov (.t 36)⟩])
(.cond (.t 34) (.skip) (.reg [⟨some 37,none,.bin .eql (.t 17) (.c (j 24))⟩,⟨some 34,none,.mov (.t 37)⟩])))))
(.cond (.t 34) (.reg [⟨some 38,none,.faddr 1 (.t 1)⟩,⟨some 39,none,.load false 1 (.t 38)⟩,⟨some 40,none,.call (.c (.func 132 [] [])) [.t 39]⟩,⟨some 3,none,.mov (.t 40)⟩]) (.seq (.reg [⟨some 42,none,.bin .eql (.t 17) (.c (j 17))⟩,⟨some 41,none,.mov (.t 42)⟩])
(.cond (.t 41) (.reg [⟨some 43,none,.mov (.t 5)⟩,⟨some 3,none,.mov (.t 43)⟩]) (.seq (.reg [⟨some 45,none,.bin .eql (.t 17) (.c (j 18))⟩,⟨some 44,none,.mov (.t 45)⟩])
(.cond (.t 44) (.reg [⟨some 46,none,.faddr 1 (.t 1)⟩,⟨some 47,none,.load false 1 (.t 46)⟩,⟨some 48,none,.call (.c (.func 134 [] [])) [.t 47]⟩,⟨some 3,none,.mov (.t 48)⟩]) (.seq (.reg [⟨some 50,none,.bin .eql (.t 17) (.c (j 29))⟩,⟨some 49,none,.mov (.t 50)⟩])
(.cond (.t 49) (.dreg [(⟨some 51,none,.faddr 1 (.t 1)⟩,0,0),(⟨some 52,none,.load false 1 (.t 51)⟩,1,0),(⟨some 53,none,.bin .neq (.t 52) (.c (.str []))⟩,0,0),(⟨some 54,none,.mov (.t 53)⟩,0,0),(⟨some 55,some (54,true),.call (.c (.func 71 [] [])) [.c (.str [47,47,32,111,114,32,97,110,100,32,61,32,124,61,32,43,61,32,45,61,32,42,61,32,47,61,32,37,61,32,47,47,61,32,61,61,32,33,61,32,60,61,32,62,61,32,60,32,62,32,43,32,45,32,42,32,47,32,37])]⟩,0,0),(⟨some 56,some (54,true),.faddr 1 (.t 1)⟩,0,0),(⟨some 57,some (54,true),.load false 1 (.t 56)⟩,4,0),(⟨some 58,some (54,true),.call (.c (.func 52 [] [])) [.t 55,.t 57]⟩,0,0),(⟨some 59,none,.pick (.t 54) (.t 58) (.c (.bool false))⟩,0,0),(⟨some 3,none,.mov (.t 59)⟩,0,0)]) (.skip)))))))))))))))))
(.seq (.reg [⟨some 60,none,.mov (.t 3)⟩,⟨some 61,none,.mov (.t 60)⟩,⟨some 62,some (61,true),.mov (.t 4)⟩,⟨some 63,none,.pick (.t 61) (.t 62) (.c (.bool false))⟩,⟨some 2,none,.mov (.t 63)⟩])
(.ret))))), [.tmp 2], none⟩
theorem amok90 : FnOk Tryz.prog 90 am90 := FnOk.mk' quiets Tryz.func90 (pols := []) (keep := none) (by kernel_rfl) rfl
def am91 : AFunc := ⟨1, .seq (.reg [⟨some 1,none,.boxB 10 (.t 0) []⟩,⟨some 2,none,.mov (.c (.bool false))⟩])
(.seq (.seq (.reg [⟨some 3,none,.faddr 0 (.t 1)⟩,⟨some 4,none,.load false 1 (.t 3)⟩,⟨some 5,none,.bin .eql (.t 4) (.c (j 8))⟩])
(.cond (.t 5) (.seq (.reg [⟨some 6,none,.faddr 3 (.t 1)⟩,⟨some 7,none,.faddr 0 (.t 6)⟩,⟨some 8,none,.load false 1 (.t 7)⟩,⟨some 9,none,.un .not (.t 8)⟩,⟨some 10,none,.mov (.t 9)⟩,⟨some 11,some (10,true),.faddr 3 (.t 1)⟩,⟨some 12,some (10,true),.load true 3 (.t 11)⟩,⟨some 13,some (10,true),.call (.c (.func 135 [] [])) [.t 12]⟩,⟨some 14,some (10,true),.bin .eql (.t 13) (.c (j 0))⟩,⟨some 15,none,.pick (.t 10) (.t 14) (.c (.bool false))⟩,⟨some 2,none,.mov (.t 15)⟩])
(.ret)) (.skip)))
(.seq (.reg [⟨some 16,none,.faddr 3 (.t 1)⟩,⟨some 17,none,.load true 3 (.t 16)⟩,⟨some 18,none,.build z8 []⟩,⟨some 19,none,.call (.c (.func 136 [] [])) [.t 17,.t 18]⟩,⟨some 2,none,.mov (.t 19)⟩])
(.ret))), [.tmp 2], none⟩
theorem amok91 : FnOk Tryz.prog 91 am91 := FnOk.mk' quiets Tryz.func91 (pols := []) (keep := none) (by kernel_rfl) rfl
end Go.AM.T
