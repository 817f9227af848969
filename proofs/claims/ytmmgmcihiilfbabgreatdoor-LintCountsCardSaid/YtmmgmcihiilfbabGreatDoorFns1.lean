/- The functions of the abstract machine are the program's. -/
import Derived.Test.YtmmgmcihiilfbabGreatDoorProg
import Derived.Test.YtmmgmcihiilfbabGreatDoorZs
import Derived.Test.YtmmgmcihiilfbabGreatDoorQuiet
import Derived.KernelRfl
set_option linter.unusedVariables false
set_option maxRecDepth 100000
namespace Go.AM.T
open Go.Proofs
def am92 : AFunc := ⟨1, .seq (.reg [⟨some 1,none,.boxB 10 (.t 0) []⟩,⟨some 2,none,.mov (.c (.bool false))⟩])
(.seq (.dreg [(⟨some 5,none,.faddr 7 (.t 1)⟩,0,0),(⟨some 6,none,.load false 1 (.t 5)⟩,1,0),(⟨some 7,none,.len false (.t 6)⟩,0,0),(⟨some 8,none,.bin .eql (.t 7) (.c (j 0))⟩,0,0),(⟨some 9,none,.faddr 8 (.t 1)⟩,0,0),(⟨some 10,none,.load false 1 (.t 9)⟩,5,0),(⟨some 11,none,.len false (.t 10)⟩,0,0),(⟨some 12,none,.bin .eql (.t 11) (.c (j 0))⟩,0,0),(⟨some 3,none,.mov (.t 8)⟩,0,0),(⟨some 4,none,.mov (.t 12)⟩,0,0)])
(.seq (.seq (.reg [⟨some 13,none,.faddr 0 (.t 1)⟩,⟨some 14,none,.load false 1 (.t 13)⟩])
(.block 0 (.seq (.seq (.reg [⟨some 16,none,.bin .eql (.t 14) (.c (j 21))⟩,⟨some 15,none,.mov (.t 16)⟩])
(.cond (.t 15) (.skip) (.reg [⟨some 17,none,.bin .eql (.t 14) (.c (j 22))⟩,⟨some 15,none,.mov (.t 17)⟩])))
(.cond (.t 15) (.reg [⟨some 18,none,.faddr 7 (.t 1)⟩,⟨some 19,none,.load false 1 (.t 18)⟩,⟨some 20,none,.len false (.t 19)⟩,⟨some 21,none,.bin .eql (.t 20) (.c (j 1))⟩,⟨some 3,none,.mov (.t 21)⟩]) (.seq (.reg [⟨some 23,none,.bin .eql (.t 14) (.c (j 26))⟩,⟨some 22,none,.mov (.t 23)⟩])
(.cond (.t 22) (.reg [⟨some 24,none,.faddr 7 (.t 1)⟩,⟨some 25,none,.load false 1 (.t 24)⟩,⟨some 26,none,.len false (.t 25)⟩,⟨some 27,none,.bin .gtr (.t 26) (.c (j 0))⟩,⟨some 3,none,.mov (.t 27)⟩]) (.seq (.reg [⟨some 29,none,.bin .eql (.t 14) (.c (j 25))⟩,⟨some 28,none,.mov (.t 29)⟩])
(.cond (.t 28) (.reg [⟨some 30,none,.faddr 8 (.t 1)⟩,⟨some 31,none,.load false 1 (.t 30)⟩,⟨some 32,none,.len false (.t 31)⟩,⟨some 33,none,.bin .eql (.t 32) (.c (j 1))⟩,⟨some 34,none,.mov (.t 33)⟩,⟨some 35,some (34,true),.faddr 8 (.t 1)⟩,⟨some 36,some (34,true),.load false 1 (.t 35)⟩,⟨some 37,some (34,true),.iaddr 12 (.t 36) (.c (j 0))⟩,⟨some 38,some (34,true),.load true 12 (.t 37)⟩,⟨some 39,some (34,true),.call (.c (.func 137 [] [])) [.t 38]⟩,⟨some 40,none,.pick (.t 34) (.t 39) (.c (.bool false))⟩,⟨some 4,none,.mov (.t 40)⟩]) (.skip)))))))))
(.seq (.reg [⟨some 41,none,.mov (.t 3)⟩,⟨some 42,none,.mov (.t 41)⟩,⟨some 43,some (42,true),.mov (.t 4)⟩,⟨some 44,none,.pick (.t 42) (.t 43) (.c (.bool false))⟩,⟨some 45,none,.mov (.t 44)⟩,⟨some 46,some (45,true),.faddr 7 (.t 1)⟩,⟨some 47,some (45,true),.load false 1 (.t 46)⟩,⟨some 48,some (45,true),.call (.c (.func 48 [] [])) [.t 47,.c (.func 138 [] [])]⟩,⟨some 49,some (45,true),.un .not (.t 48)⟩,⟨some 50,none,.pick (.t 45) (.t 49) (.c (.bool false))⟩,⟨some 2,none,.mov (.t 50)⟩])
(.ret)))), [.tmp 2], none⟩
theorem amok92 : FnOk Tryz.prog 92 am92 := FnOk.mk' quiets Tryz.func92 (pols := []) (keep := none) (by kernel_rfl) rfl
def am94 : AFunc := ⟨2, .seq (.reg [⟨some 2,none,.boxB 10 (.t 0) []⟩,⟨some 3,none,.mov (.c (.bool false))⟩])
(.seq (.seq (.reg [⟨some 6,none,.faddr 0 (.t 2)⟩,⟨some 7,none,.load false 1 (.t 6)⟩,⟨some 8,none,.bin .eql (.t 7) (.c (j 0))⟩])
(.cond (.t 8) (.seq (.reg [⟨some 3,none,.mov (.c (.bool false))⟩])
(.ret)) (.skip)))
(.seq (.reg [⟨some 10,none,.load true 10 (.t 2)⟩,⟨some 11,none,.call (.c (.func 95 [] [])) [.t 10]⟩,⟨some 9,none,.mov (.t 11)⟩,⟨some 12,none,.extract (.t 9) 0⟩,⟨some 13,none,.extract (.t 9) 1⟩,⟨some 4,none,.mov (.t 12)⟩,⟨some 5,none,.mov (.t 13)⟩])
(.seq (.reg [⟨some 14,none,.mov (.t 4)⟩,⟨some 15,none,.load false 1 (.t 1)⟩,⟨some 16,none,.call (.c (.func 52 [] [])) [.t 14,.t 15]⟩,⟨some 3,none,.mov (.t 16)⟩])
(.ret)))), [.tmp 3], none⟩
theorem amok94 : FnOk Tryz.prog 94 am94 := FnOk.mk' quiets Tryz.func94 (pols := []) (keep := none) (by kernel_rfl) rfl
def am95 : AFunc := ⟨1, .seq (.reg [⟨some 1,none,.boxB 10 (.t 0) []⟩,⟨some 2,none,.resv 1⟩,⟨some 3,none,.mov (.c (j 0))⟩])
(.seq (.seq (.reg [⟨some 7,none,.load true 10 (.t 1)⟩,⟨some 8,none,.call (.c (.func 12 [] [])) [.t 7]⟩,⟨some 4,none,.mov (.t 8)⟩])
(.seq (.reg [⟨some 9,none,.mov (.t 4)⟩,⟨some 10,none,.bin .neq (.t 9) (.c (j 0))⟩])
(.cond (.t 10) (.seq (.reg [⟨some 11,none,.mov (.t 4)⟩,⟨some 2,none,.resv 1⟩,⟨some 3,none,.mov (.t 11)⟩])
(.ret)) (.skip))))
(.seq (.reg [⟨some 5,none,.allocB [.nilsl] [(0,1)]⟩])
(.seq (.seq (.reg [⟨some 12,none,.load true 10 (.t 1)⟩,⟨some 13,none,.call (.c (.func 140 [] [])) [.t 12,.c (.nilp)]⟩])
(.block 0 (.rangeF (.t 13) [14,15] (.reg [⟨some 6,none,.mov (.t 14)⟩]) (.block 1 (.seq (.reg [⟨some 16,none,.load false 1 (.t 5)⟩,⟨some 17,none,.mov (.t 6)⟩,⟨some 18,none,.call (.c (.func 52 [] [])) [.t 16,.t 17]⟩,⟨some 19,none,.un .not (.t 18)⟩])
(.cond (.t 19) (.reg [⟨some 20,none,.load false 1 (.t 5)⟩,⟨some 21,none,.mov (.t 6)⟩,⟨some 22,none,.bslF [.str []] 1 [(0,1,.t 21)]⟩,⟨some 23,none,.append 1 16 (.t 20) (.t 22)⟩,⟨none,none,.store 1 (.t 5) (.t 23)⟩]) (.skip)))))))
(.seq (.reg [⟨some 24,none,.load false 1 (.t 5)⟩,⟨some 2,none,.mov (.t 24)⟩,⟨some 3,none,.mov (.c (j 0))⟩])
(.ret))))), [.tmp 2,.tmp 3], (some 0)⟩
theorem amok95 : FnOk Tryz.prog 95 am95 := FnOk.mk' quiets Tryz.func95 (pols := [(0, 1, .res [(0,1)]),(3, 1, .res [(0,1)]),(4, 0, .res [(0,1)]),(8, 2, .frz)]) (keep := some 0) (by kernel_rfl) rfl
def am96 : AFunc := ⟨2, .seq (.reg [⟨some 4,none,.mov (.c (j 0))⟩])
(.seq (.seq (.reg [⟨some 6,none,.mov (.t 0)⟩,⟨some 7,none,.len false (.t 6)⟩,⟨some 8,none,.mov (.c (j 0))⟩])
(.block 0 (.loop (.seq (.reg [⟨some 9,none,.bin .lss (.t 8) (.t 7)⟩])
(.seq (.cond (.t 9) (.skip) (.exit 0))
(.seq (.block 1 (.seq (.reg [⟨some 10,none,.mov (.t 8)⟩,⟨some 5,none,.mov (.t 10)⟩])
(.seq (.reg [⟨some 11,none,.mov (.t 1)⟩,⟨some 12,none,.mov (.t 0)⟩,⟨some 13,none,.mov (.t 5)⟩,⟨some 14,none,.iaddr 4 (.t 12) (.t 13)⟩,⟨some 15,none,.load true 4 (.t 14)⟩,⟨some 16,none,.call (.t 11) [.t 15]⟩])
(.cond (.t 16) (.seq (.reg [⟨some 17,none,.mov (.t 5)⟩,⟨some 4,none,.mov (.t 17)⟩])
(.ret)) (.skip)))))
(.reg [⟨some 18,none,.bin .add (.t 8) (.c (j 1))⟩,⟨some 8,none,.mov (.t 18)⟩])))))))
(.seq (.reg [⟨some 4,none,.mov (.c (.int .i64 (.negSucc 0)))⟩])
(.ret))), [.tmp 4], none⟩
theorem amok96 : FnOk Tryz.prog 96 am96 := FnOk.mk' quiets Tryz.func96 (pols := []) (keep := none) (by kernel_rfl) rfl
def am98 : AFunc := ⟨2, .seq (.reg [⟨some 4,none,.mov (.c (j 0))⟩])
(.seq (.seq (.reg [⟨some 6,none,.mov (.t 0)⟩,⟨some 7,none,.len false (.t 6)⟩,⟨some 8,none,.mov (.c (j 0))⟩])
(.block 0 (.loop (.seq (.reg [⟨some 9,none,.bin .lss (.t 8) (.t 7)⟩])
(.seq (.cond (.t 9) (.skip) (.exit 0))
(.seq (.block 1 (.seq (.reg [⟨some 10,none,.mov (.t 8)⟩,⟨some 5,none,.mov (.t 10)⟩])
(.seq (.reg [⟨some 11,none,.mov (.t 1)⟩,⟨some 12,none,.mov (.t 0)⟩,⟨some 13,none,.mov (.t 5)⟩,⟨some 14,none,.iaddr 1 (.t 12) (.t 13)⟩,⟨some 15,none,.load false 1 (.t 14)⟩,⟨some 16,none,.bin .eql (.t 11) (.t 15)⟩])
(.cond (.t 16) (.seq (.reg [⟨some 17,none,.mov (.t 5)⟩,⟨some 4,none,.mov (.t 17)⟩])
(.ret)) (.skip)))))
(.reg [⟨some 18,none,.bin .add (.t 8) (.c (j 1))⟩,⟨some 8,none,.mov (.t 18)⟩])))))))
(.seq (.reg [⟨some 4,none,.mov (.c (.int .i64 (.negSucc 0)))⟩])
(.ret))), [.tmp 4], none⟩
theorem amok98 : FnOk Tryz.prog 98 am98 := FnOk.mk' quiets Tryz.func98 (pols := []) (keep := none) (by kernel_rfl) rfl
def am99 : AFunc := ⟨2, .seq (.reg [⟨some 4,none,.mov (.c (.str []))⟩])
(.seq (.seq (.reg [⟨some 7,none,.mov (.t 0)⟩,⟨some 8,none,.bin .eql (.t 7) (.c (.str []))⟩,⟨some 9,none,.mov (.t 8)⟩,⟨some 10,some (9,false),.mov (.t 1)⟩,⟨some 11,some (9,false),.bin .eql (.t 10) (.c (.str []))⟩,⟨some 12,none,.pick (.t 9) (.c (.bool true)) (.t 11)⟩])
(.cond (.t 12) (.seq (.reg [⟨some 13,none,.mov (.t 0)⟩,⟨some 4,none,.mov (.t 13)⟩])
(.ret)) (.skip)))
(.seq (.seq (.reg [⟨some 14,none,.mov (.t 1)⟩,⟨some 15,none,.len true (.t 14)⟩,⟨some 16,none,.bin .eql (.t 15) (.c (j 1))⟩,⟨some 17,none,.mov (.t 16)⟩,⟨some 18,some (17,true),.mov (.t 1)⟩,⟨some 19,some (17,true),.indexS (.t 18) (.c (j 0))⟩,⟨some 20,some (17,true),.bin .lss (.t 19) (.c (.int .u8 (.ofNat 128)))⟩,⟨some 21,none,.pick (.t 17) (.t 20) (.c (.bool false))⟩])
(.cond (.t 21) (.seq (.reg [⟨some 22,none,.mov (.t 0)⟩,⟨some 23,none,.mov (.t 1)⟩,⟨some 24,none,.indexS (.t 23) (.c (j 0))⟩,⟨some 25,none,.call (.c (.func 142 [] [])) [.t 22,.t 24]⟩,⟨some 4,none,.mov (.t 25)⟩])
(.ret)) (.skip)))
(.seq (.seq (.reg [⟨some 27,none,.mov (.t 1)⟩,⟨some 28,none,.call (.c (.func 143 [] [])) [.t 27]⟩,⟨some 26,none,.mov (.t 28)⟩,⟨some 29,none,.extract (.t 26) 0⟩,⟨some 30,none,.extract (.t 26) 1⟩,⟨some 5,none,.hole 256⟩,⟨some 5,none,.fill 256 ⟨.t 29, (some [])⟩⟩,⟨some 6,none,.mov (.t 30)⟩])
(.seq (.reg [⟨some 31,none,.mov (.t 6)⟩])
(.cond (.t 31) (.seq (.reg [⟨some 32,none,.mov (.t 0)⟩,⟨some 33,none,.call (.c (.func 144 [] [])) [.t 32,.t 5]⟩,⟨some 4,none,.mov (.t 33)⟩])
(.ret)) (.skip))))
(.seq (.reg [⟨some 34,none,.mov (.t 0)⟩,⟨some 35,none,.mov (.t 1)⟩,⟨some 36,none,.call (.c (.func 145 [] [])) [.t 34,.t 35]⟩,⟨some 4,none,.mov (.t 36)⟩])
(.ret))))), [.tmp 4], none⟩
theorem amok99 : FnOk Tryz.prog 99 am99 := FnOk.mk' quiets Tryz.func99 (pols := [(5, 6, .res []),(5, 5, .hole)]) (keep := none) (by kernel_rfl) rfl
def am103 : AFunc := ⟨1, .seq (.reg [⟨some 2,none,.allocB z10 []⟩,⟨some 3,none,.mov (.c (.bool false))⟩])
(.seq (.reg [⟨some 5,none,.mov (.t 0)⟩,⟨some 6,none,.build z11 [(0,1,.t 5),(1,1,.c (.bool true))]⟩,⟨some 7,none,.boxB 2 (.t 6) []⟩,⟨some 4,none,.mov (.t 7)⟩])
(.seq (.reg [⟨some 8,none,.mov (.t 4)⟩,⟨some 9,none,.call (.c (.func 147 [] [])) [.t 8,.c (.str [45])]⟩,⟨some 10,none,.faddr 0 (.t 2)⟩,⟨none,none,.store 1 (.t 10) (.t 9)⟩])
(.seq (.reg [⟨some 11,none,.mov (.t 4)⟩,⟨some 12,none,.call (.c (.func 148 [] [])) [.t 11]⟩,⟨some 13,none,.faddr 2 (.t 2)⟩,⟨none,none,.store 1 (.t 13) (.t 12)⟩])
(.seq (.seq (.reg [⟨some 14,none,.mov (.t 4)⟩,⟨some 15,none,.call (.c (.func 147 [] [])) [.t 14,.c (.str [46])]⟩])
(.cond (.t 15) (.reg [⟨some 16,none,.mov (.t 4)⟩,⟨some 17,none,.call (.c (.func 148 [] [])) [.t 16]⟩,⟨some 18,none,.faddr 3 (.t 2)⟩,⟨none,none,.store 1 (.t 18) (.t 17)⟩]) (.skip)))
(.seq (.seq (.reg [⟨some 19,none,.mov (.t 4)⟩,⟨some 20,none,.call (.c (.func 147 [] [])) [.t 19,.c (.str [101,69])]⟩])
(.cond (.t 20) (.seq (.reg [⟨some 21,none,.mov (.t 4)⟩,⟨some 22,none,.nilchk (.t 21)⟩,⟨some 23,none,.faddr 0 (.t 22)⟩,⟨some 24,none,.load false 1 (.t 23)⟩,⟨some 25,none,.bin .neq (.t 24) (.c (.str []))⟩,⟨some 26,none,.mov (.t 25)⟩,⟨some 27,some (26,true),.mov (.t 4)⟩,⟨some 28,some (26,true),.nilchk (.t 27)⟩,⟨some 29,some (26,true),.faddr 0 (.t 28)⟩,⟨some 30,some (26,true),.load false 1 (.t 29)⟩,⟨some 31,some (26,true),.indexS (.t 30) (.c (j 0))⟩,⟨some 32,some (26,true),.bin .eql (.t 31) (.c (.int .u8 (.ofNat 45)))⟩,⟨some 33,none,.pick (.t 26) (.t 32) (.c (.bool false))⟩,⟨some 34,none,.faddr 1 (.t 2)⟩,⟨none,none,.store 1 (.t 34) (.t 33)⟩])
(.seq (.reg [⟨some 35,none,.mov (.t 4)⟩,⟨some 36,none,.call (.c (.func 147 [] [])) [.t 35,.c (.str [43,45])]⟩])
(.reg [⟨some 37,none,.mov (.t 4)⟩,⟨some 38,none,.call (.c (.func 148 [] [])) [.t 37]⟩,⟨some 39,none,.faddr 4 (.t 2)⟩,⟨none,none,.store 1 (.t 39) (.t 38)⟩]))) (.skip)))
(.seq (.dreg [(⟨some 40,none,.load true 5 (.t 2)⟩,0,0),(⟨some 41,none,.mov (.t 4)⟩,0,0),(⟨some 42,none,.nilchk (.t 41)⟩,0,0),(⟨some 43,none,.faddr 1 (.t 42)⟩,0,0),(⟨some 44,none,.load false 1 (.t 43)⟩,4,0),(⟨some 45,none,.mov (.t 44)⟩,0,0),(⟨some 46,some (45,true),.mov (.t 4)⟩,0,0),(⟨some 47,some (45,true),.nilchk (.t 46)⟩,0,0),(⟨some 48,some (45,true),.faddr 0 (.t 47)⟩,0,0),(⟨some 49,some (45,true),.load false 1 (.t 48)⟩,9,0),(⟨some 50,some (45,true),.bin .eql (.t 49) (.c (.str []))⟩,0,0),(⟨some 51,none,.pick (.t 45) (.t 50) (.c (.bool false))⟩,0,0),(⟨some 52,none,.mov (.t 51)⟩,0,0),(⟨some 53,some (52,true),.faddr 2 (.t 2)⟩,0,0),(⟨some 54,some (52,true),.load false 1 (.t 53)⟩,14,0),(⟨some 55,some (52,true),.len true (.t 54)⟩,0,0),(⟨some 56,some (52,true),.bin .eql (.t 55) (.c (j 1))⟩,0,0),(⟨some 57,some (52,true),.mov (.t 56)⟩,0,0),(⟨some 58,some (57,false),.faddr 2 (.t 2)⟩,0,0),(⟨some 59,some (57,false),.load false 1 (.t 58)⟩,19,0),(⟨some 60,some (57,false),.indexS (.t 59) (.c (j 0))⟩,0,0),(⟨some 61,some (57,false),.bin .neq (.t 60) (.c (.int .u8 (.ofNat 48)))⟩,0,0),(⟨some 62,some (52,true),.pick (.t 57) (.c (.bool true)) (.t 61)⟩,0,0),(⟨some 63,none,.pick (.t 52) (.t 62) (.c (.bool false))⟩,0,0),(⟨none,none,.store 5 (.t 2) (.t 40)⟩,0,0),(⟨some 3,none,.mov (.t 63)⟩,0,0)])
(.ret))))))), [.cell 2 true 5,.tmp 3], none⟩
theorem amok103 : FnOk Tryz.prog 103 am103 := FnOk.mk' quiets Tryz.func103 (pols := []) (keep := none) (by kernel_rfl) rfl
def am104 : AFunc := ⟨2, .seq (.reg [⟨some 4,none,.mov (.c (j 0))⟩,⟨some 5,none,.mov (.c (.bool false))⟩])
(.seq (.reg [⟨some 9,none,.mov (.t 0)⟩,⟨some 10,none,.call (.c (.func 99 [] [])) [.t 9,.c (.str [48])]⟩,⟨some 0,none,.mov (.t 10)⟩])
(.seq (.seq (.reg [⟨some 11,none,.mov (.t 0)⟩,⟨some 12,none,.len true (.t 11)⟩,⟨some 13,none,.bin .gtr (.t 12) (.c (j 6))⟩])
(.cond (.t 13) (.seq (.reg [⟨some 4,none,.mov (.c (j 0))⟩,⟨some 5,none,.mov (.c (.bool false))⟩])
(.ret)) (.skip)))
(.seq (.reg [⟨some 6,none,.mov (.c (j 0))⟩])
(.seq (.seq (.reg [⟨some 14,none,.mov (.t 0)⟩,⟨some 15,none,.convSB (.t 14)⟩,⟨some 16,none,.len false (.t 15)⟩,⟨some 17,none,.mov (.c (j 0))⟩])
(.block 0 (.loop (.seq (.reg [⟨some 18,none,.bin .lss (.t 17) (.t 16)⟩])
(.seq (.cond (.t 18) (.skip) (.exit 0))
(.seq (.block 1 (.seq (.reg [⟨some 19,none,.iaddr 1 (.t 15) (.t 17)⟩,⟨some 20,none,.load false 1 (.t 19)⟩,⟨some 8,none,.mov (.t 20)⟩])
(.reg [⟨some 21,none,.mov (.t 6)⟩,⟨some 22,none,.bin .mul (.c (j 10)) (.t 21)⟩,⟨some 23,none,.mov (.t 8)⟩,⟨some 24,none,.bin .sub (.t 23) (.c (.int .u8 (.ofNat 48)))⟩,⟨some 25,none,.convI .i64 (.t 24)⟩,⟨some 26,none,.bin .add (.t 22) (.t 25)⟩,⟨some 6,none,.mov (.t 26)⟩])))
(.reg [⟨some 27,none,.bin .add (.t 17) (.c (j 1))⟩,⟨some 17,none,.mov (.t 27)⟩])))))))
(.seq (.seq (.reg [⟨some 28,none,.mov (.t 1)⟩])
(.cond (.t 28) (.reg [⟨some 29,none,.mov (.t 6)⟩,⟨some 30,none,.un .neg (.t 29)⟩,⟨some 6,none,.mov (.t 30)⟩]) (.skip)))
(.seq (.reg [⟨some 31,none,.mov (.t 6)⟩,⟨some 4,none,.mov (.t 31)⟩,⟨some 5,none,.mov (.c (.bool true))⟩])
(.ret))))))), [.tmp 4,.tmp 5], none⟩
theorem amok104 : FnOk Tryz.prog 104 am104 := FnOk.mk' quiets Tryz.func104 (pols := []) (keep := none) (by kernel_rfl) rfl
def am105 : AFunc := ⟨2, .seq (.reg [⟨some 4,none,.mov (.c (.nilsl))⟩])
(.seq (.reg [⟨some 5,none,.mov (.t 0)⟩,⟨some 4,none,.mov (.t 5)⟩])
(.ret)), [.tmp 4], none⟩
theorem amok105 : FnOk Tryz.prog 105 am105 := FnOk.mk' quiets Tryz.func105 (pols := []) (keep := none) (by kernel_rfl) rfl
def am106 : AFunc := ⟨1, .seq (.reg [⟨some 2,none,.mov (.c (.nilsl))⟩,⟨some 3,none,.mov (.c (j 0))⟩])
(.seq (.block 0 (.seq (.reg [⟨some 7,none,.mov (.t 0)⟩,⟨some 8,none,.len true (.t 7)⟩,⟨some 9,none,.bin .eql (.t 8) (.c (j 0))⟩,⟨some 6,none,.mov (.t 9)⟩])
(.cond (.t 6) (.seq (.reg [⟨some 2,none,.mov (.c (.nilsl))⟩,⟨some 3,none,.mov (.c (j 8))⟩])
(.ret)) (.seq (.reg [⟨some 11,none,.mov (.t 0)⟩,⟨some 12,none,.len true (.t 11)⟩,⟨some 13,none,.bin .gtr (.t 12) (.c (j 2400))⟩,⟨some 10,none,.mov (.t 13)⟩])
(.cond (.t 10) (.seq (.reg [⟨some 2,none,.mov (.c (.nilsl))⟩,⟨some 3,none,.mov (.c (j 5))⟩])
(.ret)) (.seq (.reg [⟨some 15,none,.mov (.t 0)⟩,⟨some 16,none,.convSB (.t 15)⟩,⟨some 17,none,.call (.c (.func 114 [] [])) [.t 16,.c (.func 149 [] [])]⟩,⟨some 14,none,.mov (.t 17)⟩])
(.cond (.t 14) (.seq (.reg [⟨some 2,none,.mov (.c (.nilsl))⟩,⟨some 3,none,.mov (.c (j 32))⟩])
(.ret)) (.skip))))))))
(.seq (.reg [⟨some 4,none,.mov (.c (.nilsl))⟩])
(.seq (.block 1 (.loop (.seq (.seq (.reg [⟨some 18,none,.mov (.t 0)⟩,⟨some 19,none,.bin .neq (.t 18) (.c (.str []))⟩])
(.cond (.t 19) (.skip) (.exit 1)))
(.block 2 (.seq (.reg [⟨some 20,none,.mov (.t 0)⟩,⟨some 21,none,.len true (.t 20)⟩,⟨some 22,none,.bin .sub (.t 21) (.c (j 1))⟩,⟨some 23,none,.bin .rem (.t 22) (.c (j 9))⟩,⟨some 24,none,.bin .add (.t 23) (.c (j 1))⟩,⟨some 5,none,.mov (.t 24)⟩])
(.seq (.dreg [(⟨some 25,none,.mov (.t 4)⟩,0,0),(⟨some 26,none,.bslF z12 1 [(0,1,.c (.int .u32 (.ofNat 1000000000)))]⟩,0,0),(⟨some 27,none,.call (.c (.func 150 [] [])) [.t 25,.t 26]⟩,0,0),(⟨some 28,none,.mov (.t 0)⟩,0,0),(⟨some 29,none,.mov (.t 5)⟩,0,0),(⟨some 30,none,.sliceS (.t 28) none (some (.t 29))⟩,0,0),(⟨some 31,none,.call (.c (.func 152 [] [])) [.t 30]⟩,0,0),(⟨some 32,none,.bslF z12 1 [(0,1,.t 31)]⟩,0,0),(⟨some 33,none,.call (.c (.func 153 [] [])) [.t 32]⟩,0,0),(⟨some 34,none,.call (.c (.func 151 [] [])) [.t 27,.t 33]⟩,0,0),(⟨some 4,none,.mov (.t 34)⟩,0,0)])
(.reg [⟨some 35,none,.mov (.t 0)⟩,⟨some 36,none,.mov (.t 5)⟩,⟨some 37,none,.sliceS (.t 35) (some (.t 36)) none⟩,⟨some 0,none,.mov (.t 37)⟩])))))))
(.seq (.reg [⟨some 38,none,.mov (.t 4)⟩,⟨some 2,none,.mov (.t 38)⟩,⟨some 3,none,.mov (.c (j 0))⟩])
(.ret))))), [.tmp 2,.tmp 3], none⟩
theorem amok106 : FnOk Tryz.prog 106 am106 := FnOk.mk' quiets Tryz.func106 (pols := [(10, 1, .frz),(10, 7, .frz)]) (keep := none) (by kernel_rfl) rfl
def am107 : AFunc := ⟨1, .seq (.reg [⟨some 1,none,.boxB 3 (.t 0) []⟩,⟨some 2,none,.allocB z8 []⟩,⟨some 3,none,.mov (.c (j 0))⟩])
(.seq (.seq (.reg [⟨some 4,none,.load true 3 (.t 1)⟩,⟨some 5,none,.call (.c (.func 154 [] [])) [.t 4]⟩])
(.cond (.t 5) (.seq (.reg [⟨some 6,none,.build z8 []⟩,⟨none,none,.store 3 (.t 2) (.t 6)⟩,⟨some 3,none,.mov (.c (j 0))⟩])
(.ret)) (.skip)))
(.seq (.reg [⟨some 7,none,.load true 3 (.t 1)⟩,⟨some 8,none,.call (.c (.func 155 [] [])) [.t 7]⟩,⟨none,none,.store 3 (.t 1) (.t 8)⟩])
(.seq (.block 0 (.seq (.reg [⟨some 10,none,.faddr 0 (.t 1)⟩,⟨some 11,none,.faddr 1 (.t 10)⟩,⟨some 12,none,.load false 1 (.t 11)⟩,⟨some 13,none,.call (.c (.func 156 [] [])) [.t 12]⟩,⟨some 14,none,.bin .gtr (.t 13) (.c (j 300))⟩,⟨some 9,none,.mov (.t 14)⟩])
(.cond (.t 9) (.seq (.reg [⟨some 15,none,.build z8 []⟩,⟨none,none,.store 3 (.t 2) (.t 15)⟩,⟨some 3,none,.mov (.c (j 51))⟩])
(.ret)) (.seq (.reg [⟨some 17,none,.faddr 0 (.t 1)⟩,⟨some 18,none,.faddr 2 (.t 17)⟩,⟨some 19,none,.load false 1 (.t 18)⟩,⟨some 20,none,.bin .lss (.t 19) (.c (.int .i64 (.negSucc 999)))⟩,⟨some 21,none,.mov (.t 20)⟩,⟨some 22,some (21,false),.faddr 0 (.t 1)⟩,⟨some 23,some (21,false),.faddr 2 (.t 22)⟩,⟨some 24,some (21,false),.load false 1 (.t 23)⟩,⟨some 25,some (21,false),.bin .gtr (.t 24) (.c (j 1000))⟩,⟨some 26,none,.pick (.t 21) (.c (.bool true)) (.t 25)⟩,⟨some 16,none,.mov (.t 26)⟩])
(.cond (.t 16) (.seq (.reg [⟨some 27,none,.build z8 []⟩,⟨none,none,.store 3 (.t 2) (.t 27)⟩,⟨some 3,none,.mov (.c (j 52))⟩])
(.ret)) (.skip))))))
(.seq (.reg [⟨some 28,none,.faddr 0 (.t 1)⟩,⟨some 29,none,.load true 3 (.t 28)⟩,⟨none,none,.store 3 (.t 2) (.t 29)⟩,⟨some 3,none,.mov (.c (j 0))⟩])
(.ret))))), [.cell 2 true 3,.tmp 3], none⟩
theorem amok107 : FnOk Tryz.prog 107 am107 := FnOk.mk' quiets Tryz.func107 (pols := []) (keep := none) (by kernel_rfl) rfl
def am113 : AFunc := ⟨2, .seq (.reg [⟨some 4,none,.mov (.c (.bool false))⟩])
(.seq (.reg [⟨some 5,none,.mov (.t 0)⟩,⟨some 6,none,.len true (.t 5)⟩,⟨some 7,none,.mov (.t 1)⟩,⟨some 8,none,.len true (.t 7)⟩,⟨some 9,none,.bin .geq (.t 6) (.t 8)⟩,⟨some 10,none,.mov (.t 9)⟩,⟨some 11,some (10,true),.mov (.t 0)⟩,⟨some 12,some (10,true),.mov (.t 1)⟩,⟨some 13,some (10,true),.len true (.t 12)⟩,⟨some 14,some (10,true),.sliceS (.t 11) none (some (.t 13))⟩,⟨some 15,some (10,true),.mov (.t 1)⟩,⟨some 16,some (10,true),.bin .eql (.t 14) (.t 15)⟩,⟨some 17,none,.pick (.t 10) (.t 16) (.c (.bool false))⟩,⟨some 4,none,.mov (.t 17)⟩])
(.ret)), [.tmp 4], none⟩
theorem amok113 : FnOk Tryz.prog 113 am113 := FnOk.mk' quiets Tryz.func113 (pols := []) (keep := none) (by kernel_rfl) rfl
def am114 : AFunc := ⟨2, .seq (.reg [⟨some 4,none,.mov (.c (.bool false))⟩])
(.seq (.reg [⟨some 5,none,.mov (.t 0)⟩,⟨some 6,none,.mov (.t 1)⟩,⟨some 7,none,.call (.c (.func 164 [] [])) [.t 5,.t 6]⟩,⟨some 8,none,.bin .geq (.t 7) (.c (j 0))⟩,⟨some 4,none,.mov (.t 8)⟩])
(.ret)), [.tmp 4], none⟩
theorem amok114 : FnOk Tryz.prog 114 am114 := FnOk.mk' quiets Tryz.func114 (pols := []) (keep := none) (by kernel_rfl) rfl
def am115 : AFunc := ⟨1, .seq (.reg [⟨some 2,none,.mov (.c (.bool false))⟩])
(.seq (.reg [⟨some 3,none,.mov (.t 0)⟩,⟨some 4,none,.call (.c (.func 65 [] [])) [.t 3]⟩,⟨some 5,none,.un .not (.t 4)⟩,⟨some 2,none,.mov (.t 5)⟩])
(.ret)), [.tmp 2], none⟩
theorem amok115 : FnOk Tryz.prog 115 am115 := FnOk.mk' quiets Tryz.func115 (pols := []) (keep := none) (by kernel_rfl) rfl
def am117 : AFunc := ⟨1, .seq (.reg [⟨some 2,none,.mov (.c (j 0))⟩])
(.seq (.seq (.reg [⟨some 3,none,.mov (.t 0)⟩,⟨some 4,none,.nilchk (.t 3)⟩,⟨some 5,none,.faddr 0 (.t 4)⟩,⟨some 6,none,.load false 1 (.t 5)⟩,⟨some 7,none,.len false (.t 6)⟩,⟨some 8,none,.bin .eql (.t 7) (.c (j 0))⟩])
(.cond (.t 8) (.seq (.reg [⟨some 2,none,.mov (.c (j 0))⟩])
(.ret)) (.skip)))
(.seq (.reg [⟨some 9,none,.mov (.t 0)⟩,⟨some 10,none,.nilchk (.t 9)⟩,⟨some 11,none,.faddr 0 (.t 10)⟩,⟨some 12,none,.load false 1 (.t 11)⟩,⟨some 13,none,.iaddr 6 (.t 12) (.c (j 0))⟩,⟨some 14,none,.faddr 0 (.t 13)⟩,⟨some 15,none,.load false 1 (.t 14)⟩,⟨some 2,none,.mov (.t 15)⟩])
(.ret))), [.tmp 2], none⟩
theorem amok117 : FnOk Tryz.prog 117 am117 := FnOk.mk' quiets Tryz.func117 (pols := []) (keep := none) (by kernel_rfl) rfl
def am119 : AFunc := ⟨3, .seq (.reg [⟨some 6,none,.allocB z2 []⟩])
(.seq (.reg [⟨some 7,none,.mov (.t 0)⟩,⟨some 8,none,.mov (.t 2)⟩,⟨some 9,none,.mov (.t 1)⟩,⟨some 10,none,.build z2 [(0,1,.t 7),(6,1,.t 8),(9,1,.t 9)]⟩,⟨none,none,.store 10 (.t 6) (.t 10)⟩])
(.ret)), [.cell 6 true 10], none⟩
theorem amok119 : FnOk Tryz.prog 119 am119 := FnOk.mk' quiets Tryz.func119 (pols := []) (keep := none) (by kernel_rfl) rfl
def am122 : AFunc := ⟨3, .seq (.reg [⟨some 6,none,.mov (.t 0)⟩,⟨some 7,none,.mov (.t 1)⟩,⟨some 8,none,.mov (.t 2)⟩,⟨some 9,none,.call (.c (.func 80 [] [])) [.t 6,.t 7,.t 8]⟩,⟨some 10,none,.un .not (.t 9)⟩])
(.cond (.t 10) (.reg [⟨some 11,none,.mov (.t 0)⟩,⟨some 12,none,.call (.c (.func 40 [] [])) [.t 11]⟩]) (.skip)), [], none⟩
theorem amok122 : FnOk Tryz.prog 122 am122 := FnOk.mk' quiets Tryz.func122 (pols := []) (keep := none) (by kernel_rfl) rfl
def am123 : AFunc := ⟨3, .seq (.reg [⟨some 6,none,.resv 10⟩])
(.seq (.reg [⟨some 8,none,.mov (.t 2)⟩,⟨some 9,none,.call (.t 8) []⟩,⟨some 10,none,.bslR 10 z2 1 [(0,10,.t 9)]⟩,⟨some 7,none,.mov (.t 10)⟩])
(.seq (.block 0 (.loop (.seq (.seq (.reg [⟨some 11,none,.mov (.t 0)⟩,⟨some 12,none,.mov (.t 1)⟩,⟨some 13,none,.call (.c (.func 80 [] [])) [.t 11,.c (j 4),.t 12]⟩])
(.cond (.t 13) (.skip) (.exit 0)))
(.block 1 (.reg [⟨some 14,none,.mov (.t 7)⟩,⟨some 15,none,.mov (.t 2)⟩,⟨some 16,none,.call (.t 15) []⟩,⟨some 17,none,.bslF z2 1 [(0,10,.t 16)]⟩,⟨some 18,none,.append 10 160 (.t 14) (.t 17)⟩,⟨some 7,none,.mov (.t 18)⟩])))))
(.seq (.reg [⟨some 19,none,.mov (.t 7)⟩,⟨some 6,none,.mov (.t 19)⟩])
(.ret)))), [.tmp 6], none⟩
theorem amok123 : FnOk Tryz.prog 123 am123 := FnOk.mk' quiets Tryz.func123 (pols := [(0, 0, .res [(0,10)]),(3, 3, .frz)]) (keep := none) (by kernel_rfl) rfl
def am124 : AFunc := ⟨1, .seq (.reg [⟨some 2,none,.allocB z2 []⟩])
(.seq (.reg [⟨some 7,none,.mov (.t 0)⟩,⟨some 8,none,.mov (.t 0)⟩,⟨some 9,none,.mkf 170 [.t 8] []⟩,⟨some 10,none,.call (.c (.func 123 [] [])) [.t 7,.c (.str [47,47]),.t 9]⟩,⟨some 3,none,.mov (.t 10)⟩])
(.seq (.reg [⟨some 11,none,.mov (.t 3)⟩,⟨some 12,none,.mov (.t 3)⟩,⟨some 13,none,.len false (.t 12)⟩,⟨some 14,none,.bin .sub (.t 13) (.c (j 1))⟩,⟨some 15,none,.iaddr 10 (.t 11) (.t 14)⟩,⟨some 16,none,.load true 10 (.t 15)⟩,⟨some 4,none,.hole 10⟩,⟨some 4,none,.fill 10 ⟨.t 16, (some [])⟩⟩])
(.seq (.seq (.reg [⟨some 17,none,.mov (.t 3)⟩,⟨some 18,none,.mov (.t 3)⟩,⟨some 19,none,.len false (.t 18)⟩,⟨some 20,none,.bin .sub (.t 19) (.c (j 1))⟩,⟨some 21,none,.sliceL 10 (.t 17) none (some (.t 20)) none⟩,⟨some 22,none,.call (.c (.func 171 [] [])) [.t 21]⟩])
(.block 0 (.rangeF (.t 22) [23,24] (.reg [⟨some 6,none,.hole 10⟩,⟨some 6,none,.fill 10 ⟨.t 24, none⟩⟩]) (.block 1 (.reg [⟨some 25,none,.load true 10 (.t 6)⟩,⟨some 26,none,.load true 10 (.t 4)⟩,⟨some 27,none,.call (.c (.func 172 [] [])) [.c (.str [47,47]),.t 25,.t 26]⟩,⟨none,none,.store 10 (.t 4) (.t 27)⟩])))))
(.seq (.reg [⟨some 28,none,.load true 10 (.t 4)⟩,⟨none,none,.store 10 (.t 2) (.t 28)⟩])
(.ret))))), [.cell 2 true 10], none⟩
theorem amok124 : FnOk Tryz.prog 124 am124 := FnOk.mk' quiets Tryz.func124 (pols := [(2, 7, .res []),(2, 6, .hole),(4, 0, .hole),(4, 1, .hole)]) (keep := none) (by kernel_rfl) rfl
def am125 : AFunc := ⟨1, .seq (.reg [⟨some 2,none,.allocB z7 []⟩])
(.seq (.reg [⟨some 4,none,.mov (.t 0)⟩,⟨some 5,none,.nilchk (.t 4)⟩,⟨some 6,none,.faddr 0 (.t 5)⟩,⟨some 7,none,.load false 1 (.t 6)⟩,⟨some 8,none,.iaddr 6 (.t 7) (.c (j 0))⟩,⟨some 9,none,.load true 6 (.t 8)⟩,⟨some 3,none,.hole 6⟩,⟨some 3,none,.fill 6 ⟨.t 9, none⟩⟩])
(.seq (.dreg [(⟨some 10,none,.mov (.t 0)⟩,0,0),(⟨some 11,none,.mov (.t 0)⟩,0,0),(⟨some 12,none,.mov (.t 0)⟩,0,0),(⟨some 13,none,.nilchk (.t 12)⟩,0,0),(⟨some 14,none,.faddr 0 (.t 13)⟩,0,0),(⟨some 15,none,.load false 1 (.t 14)⟩,5,0),(⟨some 16,none,.sliceL 6 (.t 15) (some (.c (j 1))) none none⟩,0,0),(⟨some 17,none,.faddr 0 (.t 3)⟩,0,0),(⟨some 18,none,.load false 1 (.t 17)⟩,8,12),(⟨some 19,none,.nilchk (.t 10)⟩,0,0),(⟨some 20,none,.faddr 0 (.t 19)⟩,0,0),(⟨none,none,.store 1 (.t 20) (.t 16)⟩,0,0),(⟨some 21,none,.nilchk (.t 11)⟩,0,0),(⟨some 22,none,.faddr 3 (.t 21)⟩,0,0),(⟨none,none,.store 1 (.t 22) (.t 18)⟩,0,0)])
(.seq (.reg [⟨some 23,none,.load true 6 (.t 3)⟩,⟨none,none,.store 6 (.t 2) (.t 23)⟩])
(.ret)))), [.cell 2 true 6], none⟩
theorem amok125 : FnOk Tryz.prog 125 am125 := FnOk.mk' quiets Tryz.func125 (pols := [(1, 6, .hole),(1, 7, .hole)]) (keep := none) (by kernel_rfl) rfl
def am126 : AFunc := ⟨2, .seq (.reg [⟨some 4,none,.mov (.c (j 0))⟩])
(.seq (.seq (.reg [⟨some 6,none,.mov (.t 0)⟩,⟨some 7,none,.len false (.t 6)⟩,⟨some 8,none,.mov (.c (j 0))⟩])
(.block 0 (.loop (.seq (.reg [⟨some 9,none,.bin .lss (.t 8) (.t 7)⟩])
(.seq (.cond (.t 9) (.skip) (.exit 0))
(.seq (.block 1 (.seq (.reg [⟨some 10,none,.mov (.t 8)⟩,⟨some 5,none,.mov (.t 10)⟩])
(.seq (.reg [⟨some 11,none,.mov (.t 1)⟩,⟨some 12,none,.mov (.t 0)⟩,⟨some 13,none,.mov (.t 5)⟩,⟨some 14,none,.iaddr 10 (.t 12) (.t 13)⟩,⟨some 15,none,.load true 10 (.t 14)⟩,⟨some 16,none,.call (.t 11) [.t 15]⟩])
(.cond (.t 16) (.seq (.reg [⟨some 17,none,.mov (.t 5)⟩,⟨some 4,none,.mov (.t 17)⟩])
(.ret)) (.skip)))))
(.reg [⟨some 18,none,.bin .add (.t 8) (.c (j 1))⟩,⟨some 8,none,.mov (.t 18)⟩])))))))
(.seq (.reg [⟨some 4,none,.mov (.c (.int .i64 (.negSucc 0)))⟩])
(.ret))), [.tmp 4], none⟩
theorem amok126 : FnOk Tryz.prog 126 am126 := FnOk.mk' quiets Tryz.func126 (pols := []) (keep := none) (by kernel_rfl) rfl
def am129 : AFunc := ⟨1, .seq (.reg [⟨some 2,none,.allocB [j 0,j 0,j 0] []⟩])
(.seq (.seq (.reg [⟨some 3,none,.mov (.t 0)⟩])
(.block 0 (.seq (.seq (.reg [⟨some 5,none,.bin .eql (.t 3) (.c (j 3))⟩,⟨some 4,none,.mov (.t 5)⟩])
(.cond (.t 4) (.skip) (.seq (.reg [⟨some 6,none,.bin .eql (.t 3) (.c (j 6))⟩,⟨some 4,none,.mov (.t 6)⟩])
(.cond (.t 4) (.skip) (.seq (.reg [⟨some 7,none,.bin .eql (.t 3) (.c (j 7))⟩,⟨some 4,none,.mov (.t 7)⟩])
(.cond (.t 4) (.skip) (.seq (.reg [⟨some 8,none,.bin .eql (.t 3) (.c (j 11))⟩,⟨some 4,none,.mov (.t 8)⟩])
(.cond (.t 4) (.skip) (.seq (.reg [⟨some 9,none,.bin .eql (.t 3) (.c (j 15))⟩,⟨some 4,none,.mov (.t 9)⟩])
(.cond (.t 4) (.skip) (.seq (.reg [⟨some 10,none,.bin .eql (.t 3) (.c (j 23))⟩,⟨some 4,none,.mov (.t 10)⟩])
(.cond (.t 4) (.skip) (.reg [⟨some 11,none,.bin .eql (.t 3) (.c (j 25))⟩,⟨some 4,none,.mov (.t 11)⟩])))))))))))))
(.cond (.t 4) (.seq (.reg [⟨some 12,none,.build [j 0,j 0,j 0] [(0,1,.c (j 1)),(1,1,.c (j 1)),(2,1,.c (j 0))]⟩,⟨none,none,.store 3 (.t 2) (.t 12)⟩])
(.ret)) (.seq (.seq (.reg [⟨some 14,none,.bin .eql (.t 3) (.c (j 4))⟩,⟨some 13,none,.mov (.t 14)⟩])
(.cond (.t 13) (.skip) (.seq (.reg [⟨some 15,none,.bin .eql (.t 3) (.c (j 14))⟩,⟨some 13,none,.mov (.t 15)⟩])
(.cond (.t 13) (.skip) (.seq (.reg [⟨some 16,none,.bin .eql (.t 3) (.c (j 26))⟩,⟨some 13,none,.mov (.t 16)⟩])
(.cond (.t 13) (.skip) (.reg [⟨some 17,none,.bin .eql (.t 3) (.c (j 29))⟩,⟨some 13,none,.mov (.t 17)⟩])))))))
(.cond (.t 13) (.seq (.reg [⟨some 18,none,.build [j 0,j 0,j 0] [(0,1,.c (j 2)),(1,1,.c (j 2)),(2,1,.c (j 0))]⟩,⟨none,none,.store 3 (.t 2) (.t 18)⟩])
(.ret)) (.seq (.reg [⟨some 20,none,.bin .eql (.t 3) (.c (j 5))⟩,⟨some 19,none,.mov (.t 20)⟩])
(.cond (.t 19) (.seq (.reg [⟨some 21,none,.build [j 0,j 0,j 0] [(0,1,.c (j 3)),(1,1,.c (j 3)),(2,1,.c (j 6))]⟩,⟨none,none,.store 3 (.t 2) (.t 21)⟩])
(.ret)) (.seq (.reg [⟨some 23,none,.bin .eql (.t 3) (.c (j 12))⟩,⟨some 22,none,.mov (.t 23)⟩])
(.cond (.t 22) (.seq (.reg [⟨some 24,none,.build [j 0,j 0,j 0] [(0,1,.c (j 1)),(1,1,.c (j 1)),(2,1,.c (j 1))]⟩,⟨none,none,.store 3 (.t 2) (.t 24)⟩])
(.ret)) (.seq (.seq (.reg [⟨some 26,none,.bin .eql (.t 3) (.c (j 10))⟩,⟨some 25,none,.mov (.t 26)⟩])
(.cond (.t 25) (.skip) (.reg [⟨some 27,none,.bin .eql (.t 3) (.c (j 13))⟩,⟨some 25,none,.mov (.t 27)⟩])))
(.cond (.t 25) (.seq (.reg [⟨some 28,none,.build [j 0,j 0,j 0] [(0,1,.c (j 0)),(1,1,.c (j 4096)),(2,1,.c (j 0))]⟩,⟨none,none,.store 3 (.t 2) (.t 28)⟩])
(.ret)) (.seq (.reg [⟨some 30,none,.bin .eql (.t 3) (.c (j 18))⟩,⟨some 29,none,.mov (.t 30)⟩])
(.cond (.t 29) (.seq (.reg [⟨some 31,none,.build [j 0,j 0,j 0] [(0,1,.c (j 0)),(1,1,.c (j 8)),(2,1,.c (j 0))]⟩,⟨none,none,.store 3 (.t 2) (.t 31)⟩])
(.ret)) (.seq (.reg [⟨some 33,none,.bin .eql (.t 3) (.c (j 19))⟩,⟨some 32,none,.mov (.t 33)⟩])
(.cond (.t 32) (.seq (.reg [⟨some 34,none,.build [j 0,j 0,j 0] [(0,1,.c (j 3)),(1,1,.c (j 3)),(2,1,.c (j 4))]⟩,⟨none,none,.store 3 (.t 2) (.t 34)⟩])
(.ret)) (.seq (.reg [⟨some 36,none,.bin .eql (.t 3) (.c (j 20))⟩,⟨some 35,none,.mov (.t 36)⟩])
(.cond (.t 35) (.seq (.reg [⟨some 37,none,.build [j 0,j 0,j 0] [(0,1,.c (j 2)),(1,1,.c (j 2)),(2,1,.c (j 2))]⟩,⟨none,none,.store 3 (.t 2) (.t 37)⟩])
(.ret)) (.seq (.reg [⟨some 39,none,.bin .eql (.t 3) (.c (j 21))⟩,⟨some 38,none,.mov (.t 39)⟩])
(.cond (.t 38) (.seq (.reg [⟨some 40,none,.build [j 0,j 0,j 0] [(0,1,.c (j 3)),(1,1,.c (j 3)),(2,1,.c (j 0))]⟩,⟨none,none,.store 3 (.t 2) (.t 40)⟩])
(.ret)) (.seq (.reg [⟨some 42,none,.bin .eql (.t 3) (.c (j 22))⟩,⟨some 41,none,.mov (.t 42)⟩])
(.cond (.t 41) (.seq (.reg [⟨some 43,none,.build [j 0,j 0,j 0] [(0,1,.c (j 4)),(1,1,.c (j 4)),(2,1,.c (j 8))]⟩,⟨none,none,.store 3 (.t 2) (.t 43)⟩])
(.ret)) (.seq (.seq (.reg [⟨some 45,none,.bin .eql (.t 3) (.c (j 27))⟩,⟨some 44,none,.mov (.t 45)⟩])
(.cond (.t 44) (.skip) (.reg [⟨some 46,none,.bin .eql (.t 3) (.c (j 28))⟩,⟨some 44,none,.mov (.t 46)⟩])))
(.cond (.t 44) (.seq (.reg [⟨some 47,none,.build [j 0,j 0,j 0] [(0,1,.c (j 2)),(1,1,.c (j 4096)),(2,1,.c (j 0))]⟩,⟨none,none,.store 3 (.t 2) (.t 47)⟩])
(.ret)) (.skip)))))))))))))))))))))))))
(.seq (.reg [⟨some 48,none,.build [j 0,j 0,j 0] []⟩,⟨none,none,.store 3 (.t 2) (.t 48)⟩])
(.ret))), [.cell 2 true 3], none⟩
theorem amok129 : FnOk Tryz.prog 129 am129 := FnOk.mk' quiets Tryz.func129 (pols := []) (keep := none) (by kernel_rfl) rfl
def am130 : AFunc := ⟨1, .seq (.reg [⟨some 1,none,.boxB 10 (.t 0) []⟩,⟨some 2,none,.mov (.c (.bool false))⟩])
(.seq (.reg [⟨some 3,none,.faddr 0 (.t 1)⟩,⟨some 4,none,.load false 1 (.t 3)⟩,⟨some 5,none,.bin .neq (.t 4) (.c (j 0))⟩,⟨some 6,none,.mov (.t 5)⟩,⟨some 7,some (6,true),.faddr 0 (.t 1)⟩,⟨some 8,some (6,true),.load false 1 (.t 7)⟩,⟨some 9,some (6,true),.bin .neq (.t 8) (.c (j 11))⟩,⟨some 10,none,.pick (.t 6) (.t 9) (.c (.bool false))⟩,⟨some 11,none,.mov (.t 10)⟩,⟨some 12,some (11,true),.faddr 0 (.t 1)⟩,⟨some 13,some (11,true),.load false 1 (.t 12)⟩,⟨some 14,some (11,true),.bin .neq (.t 13) (.c (j 14))⟩,⟨some 15,none,.pick (.t 11) (.t 14) (.c (.bool false))⟩,⟨some 2,none,.mov (.t 15)⟩])
(.ret)), [.tmp 2], none⟩
theorem amok130 : FnOk Tryz.prog 130 am130 := FnOk.mk' quiets Tryz.func130 (pols := []) (keep := none) (by kernel_rfl) rfl
def am132 : AFunc := ⟨1, .seq (.reg [⟨some 2,none,.mov (.c (.bool false))⟩])
(.seq (.reg [⟨some 3,none,.mov (.t 0)⟩,⟨some 4,none,.call (.c (.func 73 [] [])) [.t 3]⟩,⟨some 5,none,.mov (.t 4)⟩,⟨some 6,some (5,true),.mov (.t 0)⟩,⟨some 7,some (5,true),.len true (.t 6)⟩,⟨some 8,some (5,true),.bin .leq (.t 7) (.c (j 64))⟩,⟨some 9,none,.pick (.t 5) (.t 8) (.c (.bool false))⟩,⟨some 2,none,.mov (.t 9)⟩])
(.ret)), [.tmp 2], none⟩
theorem amok132 : FnOk Tryz.prog 132 am132 := FnOk.mk' quiets Tryz.func132 (pols := []) (keep := none) (by kernel_rfl) rfl
def am135 : AFunc := ⟨1, .seq (.reg [⟨some 1,none,.boxF 3 (.t 0)⟩,⟨some 2,none,.mov (.c (j 0))⟩])
(.seq (.seq (.reg [⟨some 5,none,.faddr 1 (.t 1)⟩,⟨some 6,none,.load false 1 (.t 5)⟩,⟨some 7,none,.call (.c (.func 175 [] [])) [.t 6]⟩,⟨some 8,none,.bin .neq (.t 7) (.c (j 0))⟩,⟨some 9,none,.mov (.t 8)⟩,⟨some 10,some (9,false),.faddr 1 (.t 1)⟩,⟨some 11,some (9,false),.load false 1 (.t 10)⟩,⟨some 12,some (9,false),.len false (.t 11)⟩,⟨some 13,some (9,false),.bin .gtr (.t 12) (.c (j 40))⟩,⟨some 14,none,.pick (.t 9) (.c (.bool true)) (.t 13)⟩])
(.cond (.t 14) (.seq (.reg [⟨some 2,none,.mov (.c (j 9))⟩])
(.ret)) (.skip)))
(.seq (.seq (.reg [⟨some 15,none,.faddr 1 (.t 1)⟩,⟨some 16,none,.load false 1 (.t 15)⟩,⟨some 17,none,.len false (.t 16)⟩,⟨some 18,none,.bin .eql (.t 17) (.c (j 0))⟩])
(.cond (.t 18) (.seq (.seq (.reg [⟨some 19,none,.faddr 0 (.t 1)⟩,⟨some 20,none,.load false 1 (.t 19)⟩,⟨some 21,none,.mov (.t 20)⟩,⟨some 22,some (21,false),.faddr 2 (.t 1)⟩,⟨some 23,some (21,false),.load false 1 (.t 22)⟩,⟨some 24,some (21,false),.bin .neq (.t 23) (.c (j 0))⟩,⟨some 25,none,.pick (.t 21) (.c (.bool true)) (.t 24)⟩])
(.cond (.t 25) (.seq (.reg [⟨some 2,none,.mov (.c (j 9))⟩])
(.ret)) (.skip)))
(.seq (.reg [⟨some 2,none,.mov (.c (j 0))⟩])
(.ret))) (.skip)))
(.seq (.seq (.reg [⟨some 27,none,.faddr 1 (.t 1)⟩,⟨some 28,none,.load false 1 (.t 27)⟩,⟨some 29,none,.call (.c (.func 176 [] [])) [.t 28]⟩,⟨some 26,none,.mov (.t 29)⟩,⟨some 30,none,.extract (.t 26) 0⟩,⟨some 31,none,.extract (.t 26) 1⟩,⟨some 3,none,.mov (.t 30)⟩,⟨some 4,none,.mov (.t 31)⟩])
(.seq (.reg [⟨some 32,none,.mov (.t 4)⟩,⟨some 33,none,.mov (.t 32)⟩,⟨some 34,some (33,false),.faddr 1 (.t 1)⟩,⟨some 35,some (33,false),.load false 1 (.t 34)⟩,⟨some 36,some (33,false),.call (.c (.func 156 [] [])) [.t 35]⟩,⟨some 37,some (33,false),.bin .gtr (.t 36) (.c (j 300))⟩,⟨some 38,none,.pick (.t 33) (.c (.bool true)) (.t 37)⟩,⟨some 39,none,.mov (.t 38)⟩,⟨some 40,some (39,false),.faddr 2 (.t 1)⟩,⟨some 41,some (39,false),.load false 1 (.t 40)⟩,⟨some 42,some (39,false),.bin .lss (.t 41) (.c (.int .i64 (.negSucc 999)))⟩,⟨some 43,none,.pick (.t 39) (.c (.bool true)) (.t 42)⟩,⟨some 44,none,.mov (.t 43)⟩,⟨some 45,some (44,false),.faddr 2 (.t 1)⟩,⟨some 46,some (44,false),.load false 1 (.t 45)⟩,⟨some 47,some (44,false),.bin .gtr (.t 46) (.c (j 1000))⟩,⟨some 48,none,.pick (.t 44) (.c (.bool true)) (.t 47)⟩])
(.cond (.t 48) (.seq (.reg [⟨some 2,none,.mov (.c (j 9))⟩])
(.ret)) (.skip))))
(.seq (.reg [⟨some 2,none,.mov (.c (j 0))⟩])
(.ret))))), [.tmp 2], none⟩
theorem amok135 : FnOk Tryz.prog 135 am135 := FnOk.mk' quiets Tryz.func135 (pols := [(0, 0, .frz)]) (keep := none) (by kernel_rfl) rfl
def am136 : AFunc := ⟨2, .seq (.reg [⟨some 2,none,.boxF 3 (.t 0)⟩,⟨some 3,none,.boxF 3 (.t 1)⟩,⟨some 4,none,.mov (.c (.bool false))⟩])
(.seq (.reg [⟨some 5,none,.faddr 0 (.t 2)⟩,⟨some 6,none,.load false 1 (.t 5)⟩,⟨some 7,none,.faddr 0 (.t 3)⟩,⟨some 8,none,.load false 1 (.t 7)⟩,⟨some 9,none,.eqB false (.t 6) (.t 8)⟩,⟨some 10,none,.mov (.t 9)⟩,⟨some 11,some (10,true),.faddr 2 (.t 2)⟩,⟨some 12,some (10,true),.load false 1 (.t 11)⟩,⟨some 13,some (10,true),.faddr 2 (.t 3)⟩,⟨some 14,some (10,true),.load false 1 (.t 13)⟩,⟨some 15,some (10,true),.bin .eql (.t 12) (.t 14)⟩,⟨some 16,none,.pick (.t 10) (.t 15) (.c (.bool false))⟩,⟨some 17,none,.mov (.t 16)⟩,⟨some 18,some (17,true),.faddr 1 (.t 2)⟩,⟨some 19,some (17,true),.load false 1 (.t 18)⟩,⟨some 20,some (17,true),.faddr 1 (.t 3)⟩,⟨some 21,some (17,true),.load false 1 (.t 20)⟩,⟨some 22,some (17,true),.call (.c (.func 74 [] [])) [.t 19,.t 21]⟩,⟨some 23,none,.pick (.t 17) (.t 22) (.c (.bool false))⟩,⟨some 4,none,.mov (.t 23)⟩])
(.ret)), [.tmp 4], none⟩
theorem amok136 : FnOk Tryz.prog 136 am136 := FnOk.mk' quiets Tryz.func136 (pols := [(0, 0, .frz),(0, 1, .frz)]) (keep := none) (by kernel_rfl) rfl
def am138 : AFunc := ⟨1, .seq (.reg [⟨some 1,none,.boxF 4 (.t 0)⟩,⟨some 2,none,.mov (.c (.bool false))⟩])
(.seq (.reg [⟨some 3,none,.load true 4 (.t 1)⟩,⟨some 4,none,.call (.c (.func 139 [] [])) [.t 3]⟩,⟨some 5,none,.un .not (.t 4)⟩,⟨some 2,none,.mov (.t 5)⟩])
(.ret)), [.tmp 2], none⟩
theorem amok138 : FnOk Tryz.prog 138 am138 := FnOk.mk' quiets Tryz.func138 (pols := [(0, 0, .frz)]) (keep := none) (by kernel_rfl) rfl
def am139 : AFunc := ⟨1, .seq (.reg [⟨some 1,none,.boxF 4 (.t 0)⟩,⟨some 2,none,.mov (.c (.bool false))⟩])
(.seq (.reg [⟨some 3,none,.mov (.c (.bool false))⟩])
(.seq (.seq (.reg [⟨some 4,none,.faddr 0 (.t 1)⟩,⟨some 5,none,.load false 1 (.t 4)⟩])
(.block 0 (.seq (.reg [⟨some 7,none,.bin .eql (.t 5) (.c (j 1))⟩,⟨some 6,none,.mov (.t 7)⟩])
(.cond (.t 6) (.reg [⟨some 8,none,.faddr 1 (.t 1)⟩,⟨some 9,none,.load false 1 (.t 8)⟩,⟨some 10,none,.call (.c (.func 132 [] [])) [.t 9]⟩,⟨some 11,none,.mov (.t 10)⟩,⟨some 12,some (11,true),.faddr 2 (.t 1)⟩,⟨some 13,some (11,true),.load false 1 (.t 12)⟩,⟨some 14,some (11,true),.len false (.t 13)⟩,⟨some 15,some (11,true),.faddr 3 (.t 1)⟩,⟨some 16,some (11,true),.load false 1 (.t 15)⟩,⟨some 17,some (11,true),.len false (.t 16)⟩,⟨some 18,some (11,true),.bin .add (.t 14) (.t 17)⟩,⟨some 19,some (11,true),.bin .eql (.t 18) (.c (j 0))⟩,⟨some 20,none,.pick (.t 11) (.t 19) (.c (.bool false))⟩,⟨some 3,none,.mov (.t 20)⟩]) (.seq (.reg [⟨some 22,none,.bin .eql (.t 5) (.c (j 2))⟩,⟨some 21,none,.mov (.t 22)⟩])
(.cond (.t 21) (.reg [⟨some 23,none,.faddr 1 (.t 1)⟩,⟨some 24,none,.load false 1 (.t 23)⟩,⟨some 25,none,.bin .eql (.t 24) (.c (.str []))⟩,⟨some 26,none,.mov (.t 25)⟩,⟨some 27,some (26,true),.faddr 2 (.t 1)⟩,⟨some 28,some (26,true),.load false 1 (.t 27)⟩,⟨some 29,some (26,true),.len false (.t 28)⟩,⟨some 30,some (26,true),.bin .eql (.t 29) (.c (j 0))⟩,⟨some 31,none,.pick (.t 26) (.t 30) (.c (.bool false))⟩,⟨some 32,none,.mov (.t 31)⟩,⟨some 33,some (32,true),.faddr 3 (.t 1)⟩,⟨some 34,some (32,true),.load false 1 (.t 33)⟩,⟨some 35,some (32,true),.len false (.t 34)⟩,⟨some 36,some (32,true),.bin .gtr (.t 35) (.c (j 0))⟩,⟨some 37,none,.pick (.t 32) (.t 36) (.c (.bool false))⟩,⟨some 3,none,.mov (.t 37)⟩]) (.seq (.reg [⟨some 39,none,.bin .eql (.t 5) (.c (j 3))⟩,⟨some 38,none,.mov (.t 39)⟩])
(.cond (.t 38) (.reg [⟨some 40,none,.faddr 1 (.t 1)⟩,⟨some 41,none,.load false 1 (.t 40)⟩,⟨some 42,none,.bin .eql (.t 41) (.c (.str []))⟩,⟨some 43,none,.mov (.t 42)⟩,⟨some 44,some (43,true),.faddr 2 (.t 1)⟩,⟨some 45,some (43,true),.load false 1 (.t 44)⟩,⟨some 46,some (43,true),.len false (.t 45)⟩,⟨some 47,some (43,true),.faddr 3 (.t 1)⟩,⟨some 48,some (43,true),.load false 1 (.t 47)⟩,⟨some 49,some (43,true),.len false (.t 48)⟩,⟨some 50,some (43,true),.bin .eql (.t 46) (.t 49)⟩,⟨some 51,none,.pick (.t 43) (.t 50) (.c (.bool false))⟩,⟨some 52,none,.mov (.t 51)⟩,⟨some 53,some (52,true),.faddr 3 (.t 1)⟩,⟨some 54,some (52,true),.load false 1 (.t 53)⟩,⟨some 55,some (52,true),.len false (.t 54)⟩,⟨some 56,some (52,true),.bin .gtr (.t 55) (.c (j 0))⟩,⟨some 57,none,.pick (.t 52) (.t 56) (.c (.bool false))⟩,⟨some 3,none,.mov (.t 57)⟩]) (.skip)))))))))
(.seq (.reg [⟨some 58,none,.mov (.t 3)⟩,⟨some 59,none,.mov (.t 58)⟩,⟨some 60,some (59,true),.faddr 3 (.t 1)⟩,⟨some 61,some (59,true),.load false 1 (.t 60)⟩,⟨some 62,some (59,true),.call (.c (.func 48 [] [])) [.t 61,.c (.func 179 [] [])]⟩,⟨some 63,some (59,true),.un .not (.t 62)⟩,⟨some 64,none,.pick (.t 59) (.t 63) (.c (.bool false))⟩,⟨some 65,none,.mov (.t 64)⟩,⟨some 66,some (65,true),.faddr 2 (.t 1)⟩,⟨some 67,some (65,true),.load false 1 (.t 66)⟩,⟨some 68,some (65,true),.call (.c (.func 86 [] [])) [.t 67,.c (.func 180 [] [])]⟩,⟨some 69,some (65,true),.un .not (.t 68)⟩,⟨some 70,none,.pick (.t 65) (.t 69) (.c (.bool false))⟩,⟨some 2,none,.mov (.t 70)⟩])
(.ret)))), [.tmp 2], none⟩
theorem amok139 : FnOk Tryz.prog 139 am139 := FnOk.mk' quiets Tryz.func139 (pols := [(0, 0, .frz)]) (keep := none) (by kernel_rfl) rfl
def am140 : AFunc := ⟨2, .seq (.reg [⟨some 2,none,.boxB 10 (.t 0) []⟩,⟨some 3,none,.boxB 1 (.t 1) []⟩,⟨some 4,none,.mov (.c (.nilf))⟩])
(.seq (.reg [⟨some 5,none,.mkf 181 [] [.t 3,.t 2]⟩,⟨some 4,none,.mov (.t 5)⟩])
(.ret)), [.tmp 4], none⟩
theorem amok140 : FnOk Tryz.prog 140 am140 := FnOk.mk' quiets Tryz.func140 (pols := []) (keep := none) (by kernel_rfl) rfl
def am146 : AFunc := ⟨1, .seq (.reg [⟨some 4,none,.mov (.t 0)⟩,⟨some 5,none,.len false (.t 4)⟩,⟨some 6,none,.bin .sub (.t 5) (.c (j 1))⟩,⟨some 2,none,.mov (.c (j 0))⟩,⟨some 3,none,.mov (.t 6)⟩])
(.block 0 (.loop (.seq (.seq (.reg [⟨some 7,none,.mov (.t 2)⟩,⟨some 8,none,.mov (.t 3)⟩,⟨some 9,none,.bin .lss (.t 7) (.t 8)⟩])
(.cond (.t 9) (.skip) (.exit 0)))
(.seq (.block 1 (.dreg [(⟨some 14,none,.mov (.t 0)⟩,0,0),(⟨some 15,none,.mov (.t 2)⟩,0,0),(⟨some 16,none,.mov (.t 0)⟩,0,0),(⟨some 17,none,.mov (.t 3)⟩,0,0),(⟨some 18,none,.mov (.t 0)⟩,0,0),(⟨some 19,none,.mov (.t 3)⟩,0,0),(⟨some 20,none,.iaddr 1 (.t 18) (.t 19)⟩,0,0),(⟨some 21,none,.load false 1 (.t 20)⟩,7,0),(⟨some 22,none,.mov (.t 0)⟩,0,0),(⟨some 23,none,.mov (.t 2)⟩,0,0),(⟨some 24,none,.iaddr 1 (.t 22) (.t 23)⟩,0,0),(⟨some 25,none,.load false 1 (.t 24)⟩,11,0),(⟨some 26,none,.iaddr 1 (.t 14) (.t 15)⟩,0,0),(⟨none,none,.store 1 (.t 26) (.t 21)⟩,0,0),(⟨some 27,none,.iaddr 1 (.t 16) (.t 17)⟩,0,0),(⟨none,none,.store 1 (.t 27) (.t 25)⟩,0,0)]))
(.reg [⟨some 10,none,.mov (.t 2)⟩,⟨some 11,none,.bin .add (.t 10) (.c (j 1))⟩,⟨some 12,none,.mov (.t 3)⟩,⟨some 13,none,.bin .sub (.t 12) (.c (j 1))⟩,⟨some 2,none,.mov (.t 11)⟩,⟨some 3,none,.mov (.t 13)⟩]))))), [], none⟩
theorem amok146 : FnOk Tryz.prog 146 am146 := FnOk.mk' quiets Tryz.func146 (pols := []) (keep := none) (by kernel_rfl) rfl
def am147 : AFunc := ⟨2, .seq (.reg [⟨some 4,none,.mov (.c (.bool false))⟩])
(.seq (.seq (.reg [⟨some 5,none,.mov (.t 0)⟩,⟨some 6,none,.nilchk (.t 5)⟩,⟨some 7,none,.faddr 0 (.t 6)⟩,⟨some 8,none,.load false 1 (.t 7)⟩,⟨some 9,none,.bin .neq (.t 8) (.c (.str []))⟩,⟨some 10,none,.mov (.t 9)⟩,⟨some 11,some (10,true),.mov (.t 1)⟩,⟨some 12,some (10,true),.mov (.t 0)⟩,⟨some 13,some (10,true),.nilchk (.t 12)⟩,⟨some 14,some (10,true),.faddr 0 (.t 13)⟩,⟨some 15,some (10,true),.load false 1 (.t 14)⟩,⟨some 16,some (10,true),.indexS (.t 15) (.c (j 0))⟩,⟨some 17,some (10,true),.call (.c (.func 28 [] [])) [.t 11,.t 16]⟩,⟨some 18,some (10,true),.bin .geq (.t 17) (.c (j 0))⟩,⟨some 19,none,.pick (.t 10) (.t 18) (.c (.bool false))⟩])
(.cond (.t 19) (.seq (.reg [⟨some 20,none,.mov (.t 0)⟩,⟨some 21,none,.mov (.t 0)⟩,⟨some 22,none,.nilchk (.t 21)⟩,⟨some 23,none,.faddr 0 (.t 22)⟩,⟨some 24,none,.load false 1 (.t 23)⟩,⟨some 25,none,.sliceS (.t 24) (some (.c (j 1))) none⟩,⟨some 26,none,.nilchk (.t 20)⟩,⟨some 27,none,.faddr 0 (.t 26)⟩,⟨none,none,.store 1 (.t 27) (.t 25)⟩])
(.seq (.reg [⟨some 4,none,.mov (.c (.bool true))⟩])
(.ret))) (.skip)))
(.seq (.reg [⟨some 4,none,.mov (.c (.bool false))⟩])
(.ret))), [.tmp 4], none⟩
theorem amok147 : FnOk Tryz.prog 147 am147 := FnOk.mk' quiets Tryz.func147 (pols := []) (keep := none) (by kernel_rfl) rfl
def am148 : AFunc := ⟨1, .seq (.reg [⟨some 2,none,.mov (.c (.str []))⟩])
(.seq (.reg [⟨some 3,none,.mov (.c (j 0))⟩])
(.seq (.block 0 (.loop (.seq (.seq (.reg [⟨some 5,none,.mov (.t 3)⟩,⟨some 6,none,.mov (.t 0)⟩,⟨some 7,none,.nilchk (.t 6)⟩,⟨some 8,none,.faddr 0 (.t 7)⟩,⟨some 9,none,.load false 1 (.t 8)⟩,⟨some 10,none,.len true (.t 9)⟩,⟨some 11,none,.bin .lss (.t 5) (.t 10)⟩,⟨some 12,none,.mov (.t 11)⟩,⟨some 13,some (12,true),.mov (.t 0)⟩,⟨some 14,some (12,true),.nilchk (.t 13)⟩,⟨some 15,some (12,true),.faddr 0 (.t 14)⟩,⟨some 16,some (12,true),.load false 1 (.t 15)⟩,⟨some 17,some (12,true),.mov (.t 3)⟩,⟨some 18,some (12,true),.indexS (.t 16) (.t 17)⟩,⟨some 19,some (12,true),.bin .geq (.t 18) (.c (.int .u8 (.ofNat 48)))⟩,⟨some 20,none,.pick (.t 12) (.t 19) (.c (.bool false))⟩,⟨some 21,none,.mov (.t 20)⟩,⟨some 22,some (21,true),.mov (.t 0)⟩,⟨some 23,some (21,true),.nilchk (.t 22)⟩,⟨some 24,some (21,true),.faddr 0 (.t 23)⟩,⟨some 25,some (21,true),.load false 1 (.t 24)⟩,⟨some 26,some (21,true),.mov (.t 3)⟩,⟨some 27,some (21,true),.indexS (.t 25) (.t 26)⟩,⟨some 28,some (21,true),.bin .leq (.t 27) (.c (.int .u8 (.ofNat 57)))⟩,⟨some 29,none,.pick (.t 21) (.t 28) (.c (.bool false))⟩])
(.cond (.t 29) (.skip) (.exit 0)))
(.block 1 (.reg [⟨some 30,none,.mov (.t 3)⟩,⟨some 31,none,.bin .add (.t 30) (.c (j 1))⟩,⟨some 3,none,.mov (.t 31)⟩])))))
(.seq (.reg [⟨some 32,none,.mov (.t 0)⟩,⟨some 33,none,.nilchk (.t 32)⟩,⟨some 34,none,.faddr 0 (.t 33)⟩,⟨some 35,none,.load false 1 (.t 34)⟩,⟨some 36,none,.mov (.t 3)⟩,⟨some 37,none,.sliceS (.t 35) none (some (.t 36))⟩,⟨some 4,none,.mov (.t 37)⟩])
(.seq (.reg [⟨some 38,none,.mov (.t 0)⟩,⟨some 39,none,.mov (.t 0)⟩,⟨some 40,none,.nilchk (.t 39)⟩,⟨some 41,none,.faddr 0 (.t 40)⟩,⟨some 42,none,.load false 1 (.t 41)⟩,⟨some 43,none,.mov (.t 3)⟩,⟨some 44,none,.sliceS (.t 42) (some (.t 43)) none⟩,⟨some 45,none,.nilchk (.t 38)⟩,⟨some 46,none,.faddr 0 (.t 45)⟩,⟨none,none,.store 1 (.t 46) (.t 44)⟩])
(.seq (.reg [⟨some 47,none,.mov (.t 0)⟩,⟨some 48,none,.mov (.t 0)⟩,⟨some 49,none,.nilchk (.t 48)⟩,⟨some 50,none,.faddr 1 (.t 49)⟩,⟨some 51,none,.load false 1 (.t 50)⟩,⟨some 52,none,.mov (.t 51)⟩,⟨some 53,some (52,true),.mov (.t 3)⟩,⟨some 54,some (52,true),.bin .gtr (.t 53) (.c (j 0))⟩,⟨some 55,none,.pick (.t 52) (.t 54) (.c (.bool false))⟩,⟨some 56,none,.nilchk (.t 47)⟩,⟨some 57,none,.faddr 1 (.t 56)⟩,⟨none,none,.store 1 (.t 57) (.t 55)⟩])
(.seq (.reg [⟨some 58,none,.mov (.t 4)⟩,⟨some 2,none,.mov (.t 58)⟩])
(.ret))))))), [.tmp 2], none⟩
theorem amok148 : FnOk Tryz.prog 148 am148 := FnOk.mk' quiets Tryz.func148 (pols := []) (keep := none) (by kernel_rfl) rfl
def am149 : AFunc := ⟨1, .seq (.reg [⟨some 2,none,.mov (.c (.bool false))⟩])
(.seq (.reg [⟨some 3,none,.mov (.t 0)⟩,⟨some 4,none,.bin .lss (.t 3) (.c (.int .u8 (.ofNat 48)))⟩,⟨some 5,none,.mov (.t 4)⟩,⟨some 6,some (5,false),.mov (.t 0)⟩,⟨some 7,some (5,false),.bin .gtr (.t 6) (.c (.int .u8 (.ofNat 57)))⟩,⟨some 8,none,.pick (.t 5) (.c (.bool true)) (.t 7)⟩,⟨some 2,none,.mov (.t 8)⟩])
(.ret)), [.tmp 2], none⟩
theorem amok149 : FnOk Tryz.prog 149 am149 := FnOk.mk' quiets Tryz.func149 (pols := []) (keep := none) (by kernel_rfl) rfl
def am150 : AFunc := ⟨2, .seq (.reg [⟨some 4,none,.mov (.c (.nilsl))⟩])
(.seq (.reg [⟨some 12,none,.mov (.t 0)⟩,⟨some 13,none,.len false (.t 12)⟩,⟨some 14,none,.mov (.t 1)⟩,⟨some 15,none,.len false (.t 14)⟩,⟨some 16,none,.bin .add (.t 13) (.t 15)⟩,⟨some 17,none,.msl 1 4 z12 (.t 16) (.t 16)⟩,⟨some 5,none,.mov (.t 17)⟩])
(.seq (.seq (.reg [⟨some 18,none,.mov (.t 0)⟩,⟨some 19,none,.len false (.t 18)⟩,⟨some 20,none,.mov (.c (j 0))⟩])
(.block 0 (.loop (.seq (.reg [⟨some 21,none,.bin .lss (.t 20) (.t 19)⟩])
(.seq (.cond (.t 21) (.skip) (.exit 0))
(.seq (.block 1 (.seq (.reg [⟨some 22,none,.mov (.t 20)⟩,⟨some 23,none,.iaddr 1 (.t 18) (.t 20)⟩,⟨some 24,none,.load false 1 (.t 23)⟩,⟨some 6,none,.mov (.t 22)⟩,⟨some 7,none,.mov (.t 24)⟩])
(.seq (.reg [⟨some 8,none,.mov (.c (.int .u64 (.ofNat 0)))⟩])
(.seq (.seq (.reg [⟨some 25,none,.mov (.t 1)⟩,⟨some 26,none,.len false (.t 25)⟩,⟨some 27,none,.mov (.c (j 0))⟩])
(.block 2 (.loop (.seq (.reg [⟨some 28,none,.bin .lss (.t 27) (.t 26)⟩])
(.seq (.cond (.t 28) (.skip) (.exit 2))
(.seq (.block 3 (.seq (.reg [⟨some 29,none,.mov (.t 27)⟩,⟨some 30,none,.iaddr 1 (.t 25) (.t 27)⟩,⟨some 31,none,.load false 1 (.t 30)⟩,⟨some 9,none,.mov (.t 29)⟩,⟨some 10,none,.mov (.t 31)⟩])
(.seq (.reg [⟨some 32,none,.mov (.t 7)⟩,⟨some 33,none,.convI .u64 (.t 32)⟩,⟨some 34,none,.mov (.t 10)⟩,⟨some 35,none,.convI .u64 (.t 34)⟩,⟨some 36,none,.bin .mul (.t 33) (.t 35)⟩,⟨some 37,none,.mov (.t 5)⟩,⟨some 38,none,.mov (.t 6)⟩,⟨some 39,none,.mov (.t 9)⟩,⟨some 40,none,.bin .add (.t 38) (.t 39)⟩,⟨some 41,none,.iaddr 1 (.t 37) (.t 40)⟩,⟨some 42,none,.load false 1 (.t 41)⟩,⟨some 43,none,.convI .u64 (.t 42)⟩,⟨some 44,none,.bin .add (.t 36) (.t 43)⟩,⟨some 45,none,.mov (.t 8)⟩,⟨some 46,none,.bin .add (.t 44) (.t 45)⟩,⟨some 11,none,.mov (.t 46)⟩])
(.reg [⟨some 47,none,.mov (.t 5)⟩,⟨some 48,none,.mov (.t 6)⟩,⟨some 49,none,.mov (.t 9)⟩,⟨some 50,none,.bin .add (.t 48) (.t 49)⟩,⟨some 51,none,.mov (.t 11)⟩,⟨some 52,none,.convI .u32 (.t 51)⟩,⟨some 53,none,.mov (.t 11)⟩,⟨some 54,none,.bin .shr (.t 53) (.c (.int .u64 (.ofNat 32)))⟩,⟨some 55,none,.iaddr 1 (.t 47) (.t 50)⟩,⟨none,none,.store 1 (.t 55) (.t 52)⟩,⟨some 8,none,.mov (.t 54)⟩]))))
(.reg [⟨some 56,none,.bin .add (.t 27) (.c (j 1))⟩,⟨some 27,none,.mov (.t 56)⟩])))))))
(.reg [⟨some 57,none,.mov (.t 5)⟩,⟨some 58,none,.mov (.t 6)⟩,⟨some 59,none,.mov (.t 1)⟩,⟨some 60,none,.len false (.t 59)⟩,⟨some 61,none,.bin .add (.t 58) (.t 60)⟩,⟨some 62,none,.mov (.t 8)⟩,⟨some 63,none,.convI .u32 (.t 62)⟩,⟨some 64,none,.iaddr 1 (.t 57) (.t 61)⟩,⟨none,none,.store 1 (.t 64) (.t 63)⟩])))))
(.reg [⟨some 65,none,.bin .add (.t 20) (.c (j 1))⟩,⟨some 20,none,.mov (.t 65)⟩])))))))
(.seq (.reg [⟨some 66,none,.mov (.t 5)⟩,⟨some 67,none,.call (.c (.func 153 [] [])) [.t 66]⟩,⟨some 4,none,.mov (.t 67)⟩])
(.ret)))), [.tmp 4], none⟩
theorem amok150 : FnOk Tryz.prog 150 am150 := FnOk.mk' quiets Tryz.func150 (pols := []) (keep := none) (by kernel_rfl) rfl
def am151 : AFunc := ⟨2, .seq (.reg [⟨some 4,none,.mov (.c (.nilsl))⟩])
(.seq (.seq (.reg [⟨some 12,none,.mov (.t 0)⟩,⟨some 13,none,.len false (.t 12)⟩,⟨some 14,none,.mov (.t 1)⟩,⟨some 15,none,.len false (.t 14)⟩,⟨some 16,none,.bin .lss (.t 13) (.t 15)⟩])
(.cond (.t 16) (.reg [⟨some 17,none,.mov (.t 1)⟩,⟨some 18,none,.mov (.t 0)⟩,⟨some 0,none,.mov (.t 17)⟩,⟨some 1,none,.mov (.t 18)⟩]) (.skip)))
(.seq (.reg [⟨some 19,none,.mov (.t 0)⟩,⟨some 20,none,.len false (.t 19)⟩,⟨some 21,none,.bin .add (.t 20) (.c (j 1))⟩,⟨some 22,none,.msl 1 4 z12 (.c (j 0)) (.t 21)⟩,⟨some 5,none,.mov (.t 22)⟩])
(.seq (.reg [⟨some 6,none,.mov (.c (.int .u32 (.ofNat 0)))⟩])
(.seq (.seq (.reg [⟨some 23,none,.mov (.t 0)⟩,⟨some 24,none,.len false (.t 23)⟩,⟨some 25,none,.mov (.c (j 0))⟩])
(.block 0 (.loop (.seq (.reg [⟨some 26,none,.bin .lss (.t 25) (.t 24)⟩])
(.seq (.cond (.t 26) (.skip) (.exit 0))
(.seq (.block 1 (.seq (.reg [⟨some 27,none,.mov (.t 25)⟩,⟨some 28,none,.iaddr 1 (.t 23) (.t 25)⟩,⟨some 29,none,.load false 1 (.t 28)⟩,⟨some 7,none,.mov (.t 27)⟩,⟨some 8,none,.mov (.t 29)⟩])
(.seq (.reg [⟨some 9,none,.mov (.c (.int .u32 (.ofNat 0)))⟩])
(.seq (.seq (.reg [⟨some 30,none,.mov (.t 7)⟩,⟨some 31,none,.mov (.t 1)⟩,⟨some 32,none,.len false (.t 31)⟩,⟨some 33,none,.bin .lss (.t 30) (.t 32)⟩])
(.cond (.t 33) (.reg [⟨some 34,none,.mov (.t 1)⟩,⟨some 35,none,.mov (.t 7)⟩,⟨some 36,none,.iaddr 1 (.t 34) (.t 35)⟩,⟨some 37,none,.load false 1 (.t 36)⟩,⟨some 9,none,.mov (.t 37)⟩]) (.skip)))
(.seq (.reg [⟨some 39,none,.mov (.t 8)⟩,⟨some 40,none,.mov (.t 9)⟩,⟨some 41,none,.mov (.t 6)⟩,⟨some 42,none,.call (.c (.func 185 [] [])) [.t 39,.t 40,.t 41]⟩,⟨some 38,none,.mov (.t 42)⟩,⟨some 43,none,.extract (.t 38) 0⟩,⟨some 44,none,.extract (.t 38) 1⟩,⟨some 10,none,.mov (.t 43)⟩,⟨some 11,none,.mov (.t 44)⟩])
(.reg [⟨some 45,none,.mov (.t 5)⟩,⟨some 46,none,.mov (.t 10)⟩,⟨some 47,none,.bslF z12 1 [(0,1,.t 46)]⟩,⟨some 48,none,.append 1 4 (.t 45) (.t 47)⟩,⟨some 49,none,.mov (.t 11)⟩,⟨some 5,none,.mov (.t 48)⟩,⟨some 6,none,.mov (.t 49)⟩]))))))
(.reg [⟨some 50,none,.bin .add (.t 25) (.c (j 1))⟩,⟨some 25,none,.mov (.t 50)⟩])))))))
(.seq (.reg [⟨some 51,none,.mov (.t 5)⟩,⟨some 52,none,.mov (.t 6)⟩,⟨some 53,none,.bslF z12 1 [(0,1,.t 52)]⟩,⟨some 54,none,.append 1 4 (.t 51) (.t 53)⟩,⟨some 55,none,.call (.c (.func 153 [] [])) [.t 54]⟩,⟨some 4,none,.mov (.t 55)⟩])
(.ret)))))), [.tmp 4], none⟩
theorem amok151 : FnOk Tryz.prog 151 am151 := FnOk.mk' quiets Tryz.func151 (pols := [(12, 2, .frz),(14, 2, .frz)]) (keep := none) (by kernel_rfl) rfl
def am152 : AFunc := ⟨1, .seq (.reg [⟨some 2,none,.mov (.c (.int .u32 (.ofNat 0)))⟩])
(.seq (.reg [⟨some 3,none,.mov (.c (.int .u32 (.ofNat 0)))⟩])
(.seq (.seq (.reg [⟨some 6,none,.mov (.t 0)⟩,⟨some 7,none,.convSB (.t 6)⟩,⟨some 8,none,.len false (.t 7)⟩,⟨some 9,none,.mov (.c (j 0))⟩])
(.block 0 (.loop (.seq (.reg [⟨some 10,none,.bin .lss (.t 9) (.t 8)⟩])
(.seq (.cond (.t 10) (.skip) (.exit 0))
(.seq (.block 1 (.seq (.reg [⟨some 11,none,.iaddr 1 (.t 7) (.t 9)⟩,⟨some 12,none,.load false 1 (.t 11)⟩,⟨some 5,none,.mov (.t 12)⟩])
(.reg [⟨some 13,none,.mov (.t 3)⟩,⟨some 14,none,.bin .mul (.t 13) (.c (.int .u32 (.ofNat 10)))⟩,⟨some 15,none,.mov (.t 5)⟩,⟨some 16,none,.bin .sub (.t 15) (.c (.int .u8 (.ofNat 48)))⟩,⟨some 17,none,.convI .u32 (.t 16)⟩,⟨some 18,none,.bin .add (.t 14) (.t 17)⟩,⟨some 3,none,.mov (.t 18)⟩])))
(.reg [⟨some 19,none,.bin .add (.t 9) (.c (j 1))⟩,⟨some 9,none,.mov (.t 19)⟩])))))))
(.seq (.reg [⟨some 20,none,.mov (.t 3)⟩,⟨some 2,none,.mov (.t 20)⟩])
(.ret)))), [.tmp 2], none⟩
theorem amok152 : FnOk Tryz.prog 152 am152 := FnOk.mk' quiets Tryz.func152 (pols := []) (keep := none) (by kernel_rfl) rfl
def am153 : AFunc := ⟨1, .seq (.reg [⟨some 2,none,.mov (.c (.nilsl))⟩])
(.seq (.block 0 (.loop (.seq (.seq (.reg [⟨some 3,none,.mov (.t 0)⟩,⟨some 4,none,.len false (.t 3)⟩,⟨some 5,none,.bin .gtr (.t 4) (.c (j 0))⟩,⟨some 6,none,.mov (.t 5)⟩,⟨some 7,some (6,true),.mov (.t 0)⟩,⟨some 8,some (6,true),.mov (.t 0)⟩,⟨some 9,some (6,true),.len false (.t 8)⟩,⟨some 10,some (6,true),.bin .sub (.t 9) (.c (j 1))⟩,⟨some 11,some (6,true),.iaddr 1 (.t 7) (.t 10)⟩,⟨some 12,some (6,true),.load false 1 (.t 11)⟩,⟨some 13,some (6,true),.bin .eql (.t 12) (.c (.int .u32 (.ofNat 0)))⟩,⟨some 14,none,.pick (.t 6) (.t 13) (.c (.bool false))⟩])
(.cond (.t 14) (.skip) (.exit 0)))
(.block 1 (.reg [⟨some 15,none,.mov (.t 0)⟩,⟨some 16,none,.mov (.t 0)⟩,⟨some 17,none,.len false (.t 16)⟩,⟨some 18,none,.bin .sub (.t 17) (.c (j 1))⟩,⟨some 19,none,.sliceL 1 (.t 15) none (some (.t 18)) none⟩,⟨some 0,none,.mov (.t 19)⟩])))))
(.seq (.seq (.reg [⟨some 20,none,.mov (.t 0)⟩,⟨some 21,none,.len false (.t 20)⟩,⟨some 22,none,.bin .eql (.t 21) (.c (j 0))⟩])
(.cond (.t 22) (.seq (.reg [⟨some 2,none,.mov (.c (.nilsl))⟩])
(.ret)) (.skip)))
(.seq (.reg [⟨some 23,none,.mov (.t 0)⟩,⟨some 2,none,.mov (.t 23)⟩])
(.ret)))), [.tmp 2], none⟩
theorem amok153 : FnOk Tryz.prog 153 am153 := FnOk.mk' quiets Tryz.func153 (pols := []) (keep := none) (by kernel_rfl) rfl
def am154 : AFunc := ⟨1, .seq (.reg [⟨some 1,none,.boxF 3 (.t 0)⟩,⟨some 2,none,.mov (.c (.bool false))⟩])
(.seq (.reg [⟨some 3,none,.faddr 0 (.t 1)⟩,⟨some 4,none,.faddr 1 (.t 3)⟩,⟨some 5,none,.load false 1 (.t 4)⟩,⟨some 6,none,.len false (.t 5)⟩,⟨some 7,none,.bin .eql (.t 6) (.c (j 0))⟩,⟨some 2,none,.mov (.t 7)⟩])
(.ret)), [.tmp 2], none⟩
theorem amok154 : FnOk Tryz.prog 154 am154 := FnOk.mk' quiets Tryz.func154 (pols := [(0, 0, .frz)]) (keep := none) (by kernel_rfl) rfl
def am155 : AFunc := ⟨1, .seq (.reg [⟨some 1,none,.boxB 3 (.t 0) []⟩,⟨some 2,none,.allocB z8 []⟩])
(.seq (.reg [⟨some 5,none,.faddr 0 (.t 1)⟩,⟨some 6,none,.faddr 1 (.t 5)⟩,⟨some 7,none,.load false 1 (.t 6)⟩,⟨some 8,none,.call (.c (.func 187 [] [])) [.t 7]⟩,⟨some 9,none,.extract (.t 8) 0⟩,⟨some 10,none,.extract (.t 8) 1⟩,⟨some 11,none,.call (.c (.func 186 [] [])) [.t 9,.t 10]⟩,⟨some 3,none,.mov (.t 11)⟩])
(.seq (.reg [⟨some 12,none,.mov (.t 3)⟩,⟨some 13,none,.call (.c (.func 188 [] [])) [.t 12,.c (.str [48])]⟩,⟨some 4,none,.mov (.t 13)⟩])
(.seq (.seq (.reg [⟨some 14,none,.mov (.t 4)⟩,⟨some 15,none,.len true (.t 14)⟩,⟨some 16,none,.mov (.t 3)⟩,⟨some 17,none,.len true (.t 16)⟩,⟨some 18,none,.bin .eql (.t 15) (.t 17)⟩])
(.cond (.t 18) (.seq (.reg [⟨some 19,none,.load true 3 (.t 1)⟩,⟨none,none,.store 3 (.t 2) (.t 19)⟩])
(.ret)) (.skip)))
(.seq (.reg [⟨some 20,none,.mov (.t 4)⟩,⟨some 21,none,.call (.c (.func 106 [] [])) [.t 20]⟩,⟨some 22,none,.extract (.t 21) 0⟩,⟨some 23,none,.extract (.t 21) 1⟩,⟨some 24,none,.call (.c (.func 105 [] [])) [.t 22,.t 23]⟩,⟨some 25,none,.faddr 0 (.t 1)⟩,⟨some 26,none,.faddr 1 (.t 25)⟩,⟨none,none,.store 1 (.t 26) (.t 24)⟩])
(.seq (.reg [⟨some 27,none,.faddr 0 (.t 1)⟩,⟨some 28,none,.faddr 2 (.t 27)⟩,⟨some 29,none,.load false 1 (.t 28)⟩,⟨some 30,none,.mov (.t 3)⟩,⟨some 31,none,.len true (.t 30)⟩,⟨some 32,none,.mov (.t 4)⟩,⟨some 33,none,.len true (.t 32)⟩,⟨some 34,none,.bin .sub (.t 31) (.t 33)⟩,⟨some 35,none,.bin .add (.t 29) (.t 34)⟩,⟨some 36,none,.faddr 0 (.t 1)⟩,⟨some 37,none,.faddr 2 (.t 36)⟩,⟨none,none,.store 1 (.t 37) (.t 35)⟩])
(.seq (.reg [⟨some 38,none,.load true 3 (.t 1)⟩,⟨none,none,.store 3 (.t 2) (.t 38)⟩])
(.ret))))))), [.cell 2 true 3], none⟩
theorem amok155 : FnOk Tryz.prog 155 am155 := FnOk.mk' quiets Tryz.func155 (pols := []) (keep := none) (by kernel_rfl) rfl
def am156 : AFunc := ⟨1, .seq (.reg [⟨some 2,none,.mov (.c (j 0))⟩])
(.seq (.reg [⟨some 6,none,.mov (.t 0)⟩,⟨some 7,none,.call (.c (.func 187 [] [])) [.t 6]⟩,⟨some 5,none,.mov (.t 7)⟩,⟨some 8,none,.extract (.t 5) 0⟩,⟨some 9,none,.extract (.t 5) 1⟩,⟨some 3,none,.mov (.t 8)⟩,⟨some 4,none,.mov (.t 9)⟩])
(.seq (.seq (.reg [⟨some 10,none,.mov (.t 0)⟩,⟨some 11,none,.len false (.t 10)⟩,⟨some 12,none,.bin .eql (.t 11) (.c (j 0))⟩])
(.cond (.t 12) (.seq (.reg [⟨some 2,none,.mov (.c (j 0))⟩])
(.ret)) (.skip)))
(.seq (.reg [⟨some 13,none,.mov (.t 3)⟩,⟨some 14,none,.len true (.t 13)⟩,⟨some 2,none,.mov (.t 14)⟩])
(.ret)))), [.tmp 2], none⟩
theorem amok156 : FnOk Tryz.prog 156 am156 := FnOk.mk' quiets Tryz.func156 (pols := []) (keep := none) (by kernel_rfl) rfl
def am164 : AFunc := ⟨2, .seq (.reg [⟨some 4,none,.mov (.c (j 0))⟩])
(.seq (.seq (.reg [⟨some 6,none,.mov (.t 0)⟩,⟨some 7,none,.len false (.t 6)⟩,⟨some 8,none,.mov (.c (j 0))⟩])
(.block 0 (.loop (.seq (.reg [⟨some 9,none,.bin .lss (.t 8) (.t 7)⟩])
(.seq (.cond (.t 9) (.skip) (.exit 0))
(.seq (.block 1 (.seq (.reg [⟨some 10,none,.mov (.t 8)⟩,⟨some 5,none,.mov (.t 10)⟩])
(.seq (.reg [⟨some 11,none,.mov (.t 1)⟩,⟨some 12,none,.mov (.t 0)⟩,⟨some 13,none,.mov (.t 5)⟩,⟨some 14,none,.iaddr 1 (.t 12) (.t 13)⟩,⟨some 15,none,.load false 1 (.t 14)⟩,⟨some 16,none,.call (.t 11) [.t 15]⟩])
(.cond (.t 16) (.seq (.reg [⟨some 17,none,.mov (.t 5)⟩,⟨some 4,none,.mov (.t 17)⟩])
(.ret)) (.skip)))))
(.reg [⟨some 18,none,.bin .add (.t 8) (.c (j 1))⟩,⟨some 8,none,.mov (.t 18)⟩])))))))
(.seq (.reg [⟨some 4,none,.mov (.c (.int .i64 (.negSucc 0)))⟩])
(.ret))), [.tmp 4], none⟩
theorem amok164 : FnOk Tryz.prog 164 am164 := FnOk.mk' quiets Tryz.func164 (pols := []) (keep := none) (by kernel_rfl) rfl
def am170 : AFunc := ⟨1, .seq (.reg [⟨some 2,none,.allocB z2 []⟩])
(.seq (.reg [⟨some 3,none,.mov (.t 0)⟩,⟨some 4,none,.mov (.t 0)⟩,⟨some 5,none,.mkf 198 [.t 4] []⟩,⟨some 6,none,.call (.c (.func 197 [] [])) [.t 3,.c (.str [61,32,124,61,32,43,61,32,45,61,32,42,61,32,47,61,32,37,61,32,47,47,61]),.t 5]⟩,⟨none,none,.store 10 (.t 2) (.t 6)⟩])
(.ret)), [.cell 2 true 10], none⟩
theorem amok170 : FnOk Tryz.prog 170 am170 := FnOk.mk' quiets Tryz.func170 (pols := []) (keep := none) (by kernel_rfl) rfl
def am171 : AFunc := ⟨1, .seq (.reg [⟨some 1,none,.boxF 1 (.t 0)⟩,⟨some 2,none,.mov (.c (.nilf))⟩])
(.seq (.reg [⟨some 3,none,.mkf 199 [] [.t 1]⟩,⟨some 2,none,.mov (.t 3)⟩])
(.ret)), [.tmp 2], none⟩
theorem amok171 : FnOk Tryz.prog 171 am171 := FnOk.mk' quiets Tryz.func171 (pols := [(0, 0, .frz)]) (keep := none) (by kernel_rfl) rfl
def am175 : AFunc := ⟨1, .seq (.reg [⟨some 2,none,.mov (.c (j 0))⟩])
(.seq (.block 0 (.seq (.reg [⟨some 4,none,.mov (.t 0)⟩,⟨some 5,none,.len false (.t 4)⟩,⟨some 6,none,.bin .gtr (.t 5) (.c (j 256))⟩,⟨some 3,none,.mov (.t 6)⟩])
(.cond (.t 3) (.seq (.reg [⟨some 2,none,.mov (.c (j 5))⟩])
(.ret)) (.seq (.reg [⟨some 8,none,.mov (.t 0)⟩,⟨some 9,none,.len false (.t 8)⟩,⟨some 10,none,.bin .gtr (.t 9) (.c (j 0))⟩,⟨some 11,none,.mov (.t 10)⟩,⟨some 12,some (11,true),.mov (.t 0)⟩,⟨some 13,some (11,true),.mov (.t 0)⟩,⟨some 14,some (11,true),.len false (.t 13)⟩,⟨some 15,some (11,true),.bin .sub (.t 14) (.c (j 1))⟩,⟨some 16,some (11,true),.iaddr 1 (.t 12) (.t 15)⟩,⟨some 17,some (11,true),.load false 1 (.t 16)⟩,⟨some 18,some (11,true),.bin .eql (.t 17) (.c (.int .u32 (.ofNat 0)))⟩,⟨some 19,none,.pick (.t 11) (.t 18) (.c (.bool false))⟩,⟨some 7,none,.mov (.t 19)⟩])
(.cond (.t 7) (.seq (.reg [⟨some 2,none,.mov (.c (j 9))⟩])
(.ret)) (.skip))))))
(.seq (.reg [⟨some 2,none,.mov (.c (j 0))⟩])
(.ret))), [.tmp 2], none⟩
theorem amok175 : FnOk Tryz.prog 175 am175 := FnOk.mk' quiets Tryz.func175 (pols := []) (keep := none) (by kernel_rfl) rfl
def am176 : AFunc := ⟨1, .seq (.reg [⟨some 2,none,.mov (.c (.nilsl))⟩,⟨some 3,none,.mov (.c (.bool false))⟩])
(.seq (.reg [⟨some 8,none,.mov (.t 0)⟩,⟨some 9,none,.call (.c (.func 206 [] [])) [.c (.int .u64 (.ofNat 10))]⟩,⟨some 10,none,.call (.c (.func 205 [] [])) [.t 8,.t 9]⟩,⟨some 7,none,.mov (.t 10)⟩,⟨some 11,none,.extract (.t 7) 0⟩,⟨some 12,none,.extract (.t 7) 1⟩,⟨some 13,none,.extract (.t 7) 2⟩,⟨some 4,none,.mov (.t 11)⟩,⟨some 5,none,.mov (.t 12)⟩,⟨some 6,none,.mov (.t 13)⟩])
(.seq (.reg [⟨some 14,none,.mov (.t 4)⟩,⟨some 15,none,.mov (.t 5)⟩,⟨some 16,none,.len false (.t 15)⟩,⟨some 17,none,.bin .eql (.t 16) (.c (j 0))⟩,⟨some 2,none,.mov (.t 14)⟩,⟨some 3,none,.mov (.t 17)⟩])
(.ret))), [.tmp 2,.tmp 3], none⟩
theorem amok176 : FnOk Tryz.prog 176 am176 := FnOk.mk' quiets Tryz.func176 (pols := []) (keep := none) (by kernel_rfl) rfl
def am181 : AFunc := ⟨3, .reg [⟨some 4,none,.mov (.t 0)⟩,⟨some 5,none,.build [.nilf] [(0,1,.t 4)]⟩,⟨some 6,none,.load false 1 (.t 1)⟩,⟨some 7,none,.load true 10 (.t 2)⟩,⟨some 8,none,.call (.c (.func 182 [] [])) [.t 5,.t 6,.t 7]⟩], [], none⟩
theorem amok181 : FnOk Tryz.prog 181 am181 := FnOk.mk' quiets Tryz.func181 (pols := []) (keep := none) (by kernel_rfl) rfl
def am182 : AFunc := ⟨3, .seq (.reg [⟨some 3,none,.boxB 1 (.t 0) []⟩,⟨some 5,none,.boxB 10 (.t 2) []⟩,⟨some 6,none,.mov (.c (.bool false))⟩])
(.seq (.seq (.reg [⟨some 11,none,.load true 10 (.t 5)⟩,⟨some 12,none,.call (.c (.func 208 [] [])) [.t 11]⟩,⟨some 10,none,.mov (.t 12)⟩,⟨some 13,none,.extract (.t 10) 0⟩,⟨some 14,none,.extract (.t 10) 1⟩,⟨some 7,none,.mov (.t 13)⟩,⟨some 8,none,.mov (.t 14)⟩])
(.seq (.reg [⟨some 15,none,.mov (.t 8)⟩,⟨some 16,none,.mov (.t 15)⟩,⟨some 17,some (16,true),.mov (.t 1)⟩,⟨some 18,some (16,true),.mov (.t 7)⟩,⟨some 19,some (16,true),.call (.c (.func 209 [] [])) [.t 17,.t 18]⟩,⟨some 20,some (16,true),.un .not (.t 19)⟩,⟨some 21,none,.pick (.t 16) (.t 20) (.c (.bool false))⟩,⟨some 22,none,.mov (.t 21)⟩,⟨some 23,some (22,true),.faddr 0 (.t 3)⟩,⟨some 24,some (22,true),.load false 1 (.t 23)⟩,⟨some 25,some (22,true),.mov (.t 7)⟩,⟨some 26,some (22,true),.faddr 9 (.t 5)⟩,⟨some 27,some (22,true),.load false 1 (.t 26)⟩,⟨some 28,some (22,true),.call (.t 24) [.t 25,.t 27]⟩,⟨some 29,some (22,true),.un .not (.t 28)⟩,⟨some 30,none,.pick (.t 22) (.t 29) (.c (.bool false))⟩])
(.cond (.t 30) (.seq (.reg [⟨some 6,none,.mov (.c (.bool false))⟩])
(.ret)) (.skip))))
(.seq (.reg [⟨some 31,none,.faddr 7 (.t 5)⟩,⟨some 32,none,.load false 1 (.t 31)⟩,⟨some 33,none,.call (.c (.func 47 [] [])) [.t 32]⟩,⟨some 34,none,.call (.c (.func 210 [] [])) [.t 33]⟩,⟨some 9,none,.mov (.t 34)⟩])
(.seq (.seq (.reg [⟨some 35,none,.faddr 0 (.t 5)⟩,⟨some 36,none,.load false 1 (.t 35)⟩])
(.block 0 (.seq (.seq (.reg [⟨some 38,none,.bin .eql (.t 36) (.c (j 21))⟩,⟨some 37,none,.mov (.t 38)⟩])
(.cond (.t 37) (.skip) (.reg [⟨some 39,none,.bin .eql (.t 36) (.c (j 22))⟩,⟨some 37,none,.mov (.t 39)⟩])))
(.cond (.t 37) (.seq (.dreg [(⟨some 40,none,.load true 1 (.t 3)⟩,0,0),(⟨some 41,none,.mov (.t 1)⟩,0,0),(⟨some 42,none,.faddr 6 (.t 5)⟩,0,0),(⟨some 43,none,.load false 1 (.t 42)⟩,3,0),(⟨some 44,none,.iaddr 10 (.t 43) (.c (j 0))⟩,0,0),(⟨some 45,none,.load true 10 (.t 44)⟩,5,0),(⟨some 46,none,.bslF z2 1 [(0,10,.t 45)]⟩,0,0),(⟨some 47,none,.call (.c (.func 211 [] [])) [.t 40,.t 41,.t 46]⟩,0,0),(⟨some 48,none,.mov (.t 47)⟩,0,0),(⟨some 49,some (48,true),.load true 1 (.t 3)⟩,9,0),(⟨some 50,some (48,true),.mov (.t 1)⟩,0,0),(⟨some 51,some (48,true),.faddr 7 (.t 5)⟩,0,0),(⟨some 52,some (48,true),.load false 1 (.t 51)⟩,12,0),(⟨some 53,some (48,true),.call (.c (.func 212 [] [])) [.t 49,.t 50,.t 52]⟩,0,0),(⟨some 54,none,.pick (.t 48) (.t 53) (.c (.bool false))⟩,0,0),(⟨some 55,none,.mov (.t 54)⟩,0,0),(⟨some 56,some (55,true),.load true 1 (.t 3)⟩,16,0),(⟨some 57,some (55,true),.mov (.t 1)⟩,0,0),(⟨some 58,some (55,true),.faddr 6 (.t 5)⟩,0,0),(⟨some 59,some (55,true),.load false 1 (.t 58)⟩,19,0),(⟨some 60,some (55,true),.iaddr 10 (.t 59) (.c (j 1))⟩,0,0),(⟨some 61,some (55,true),.load true 10 (.t 60)⟩,21,0),(⟨some 62,some (55,true),.bslF z2 1 [(0,10,.t 61)]⟩,0,0),(⟨some 63,some (55,true),.call (.c (.func 211 [] [])) [.t 56,.t 57,.t 62]⟩,0,0),(⟨some 64,none,.pick (.t 55) (.t 63) (.c (.bool false))⟩,0,0),(⟨some 65,none,.mov (.t 64)⟩,0,0),(⟨some 66,some (65,true),.load true 1 (.t 3)⟩,26,30),(⟨some 67,some (65,true),.mov (.t 1)⟩,0,0),(⟨some 68,some (65,true),.mov (.t 9)⟩,0,0),(⟨some 69,some (65,true),.call (.c (.func 213 [] [])) [.t 67,.t 68]⟩,0,0),(⟨some 70,some (65,true),.faddr 6 (.t 5)⟩,0,0),(⟨some 71,some (65,true),.load false 1 (.t 70)⟩,29,0),(⟨some 72,some (65,true),.sliceL 10 (.t 71) (some (.c (j 2))) none none⟩,0,0),(⟨some 73,some (65,true),.call (.c (.func 211 [] [])) [.t 66,.t 69,.t 72]⟩,0,0),(⟨some 74,none,.pick (.t 65) (.t 73) (.c (.bool false))⟩,0,0),(⟨some 6,none,.mov (.t 74)⟩,0,0)])
(.ret)) (.seq (.reg [⟨some 76,none,.bin .eql (.t 36) (.c (j 23))⟩,⟨some 75,none,.mov (.t 76)⟩])
(.cond (.t 75) (.seq (.dreg [(⟨some 77,none,.load true 1 (.t 3)⟩,0,7),(⟨some 78,none,.mov (.t 1)⟩,0,0),(⟨some 79,none,.faddr 1 (.t 5)⟩,0,0),(⟨some 80,none,.load false 1 (.t 79)⟩,3,0),(⟨some 81,none,.bin .add (.c (.str [42])) (.t 80)⟩,0,0),(⟨some 82,none,.bslF [.str []] 1 [(0,1,.t 81)]⟩,0,0),(⟨some 83,none,.call (.c (.func 213 [] [])) [.t 78,.t 82]⟩,0,0),(⟨some 84,none,.faddr 6 (.t 5)⟩,0,0),(⟨some 85,none,.load false 1 (.t 84)⟩,6,0),(⟨some 86,none,.call (.c (.func 211 [] [])) [.t 77,.t 83,.t 85]⟩,0,0),(⟨some 6,none,.mov (.t 86)⟩,0,0)])
(.ret)) (.seq (.reg [⟨some 88,none,.bin .eql (.t 36) (.c (j 25))⟩,⟨some 87,none,.mov (.t 88)⟩])
(.cond (.t 87) (.seq (.dreg [(⟨some 89,none,.load true 1 (.t 3)⟩,0,0),(⟨some 90,none,.mov (.t 1)⟩,0,0),(⟨some 91,none,.faddr 8 (.t 5)⟩,0,0),(⟨some 92,none,.load false 1 (.t 91)⟩,3,0),(⟨some 93,none,.iaddr 12 (.t 92) (.c (j 0))⟩,0,0),(⟨some 94,none,.load true 12 (.t 93)⟩,5,0),(⟨some 95,none,.faddr 6 (.t 5)⟩,0,0),(⟨some 96,none,.load false 1 (.t 95)⟩,7,0),(⟨some 97,none,.iaddr 10 (.t 96) (.c (j 0))⟩,0,0),(⟨some 98,none,.load true 10 (.t 97)⟩,9,0),(⟨some 99,none,.call (.c (.func 214 [] [])) [.t 89,.t 90,.t 94,.t 98]⟩,0,0),(⟨some 6,none,.mov (.t 99)⟩,0,0)])
(.ret)) (.seq (.reg [⟨some 101,none,.bin .eql (.t 36) (.c (j 26))⟩,⟨some 100,none,.mov (.t 101)⟩])
(.cond (.t 100) (.seq (.dreg [(⟨some 102,none,.load true 1 (.t 3)⟩,0,0),(⟨some 103,none,.mov (.t 1)⟩,0,0),(⟨some 104,none,.faddr 6 (.t 5)⟩,0,0),(⟨some 105,none,.load false 1 (.t 104)⟩,3,0),(⟨some 106,none,.iaddr 10 (.t 105) (.c (j 0))⟩,0,0),(⟨some 107,none,.load true 10 (.t 106)⟩,5,0),(⟨some 108,none,.bslF z2 1 [(0,10,.t 107)]⟩,0,0),(⟨some 109,none,.call (.c (.func 211 [] [])) [.t 102,.t 103,.t 108]⟩,0,0),(⟨some 110,none,.mov (.t 109)⟩,0,0),(⟨some 111,some (110,true),.load true 1 (.t 3)⟩,9,0),(⟨some 112,some (110,true),.mov (.t 1)⟩,0,0),(⟨some 113,some (110,true),.faddr 7 (.t 5)⟩,0,0),(⟨some 114,some (110,true),.load false 1 (.t 113)⟩,12,0),(⟨some 115,some (110,true),.call (.c (.func 212 [] [])) [.t 111,.t 112,.t 114]⟩,0,0),(⟨some 116,none,.pick (.t 110) (.t 115) (.c (.bool false))⟩,0,0),(⟨some 117,none,.mov (.t 116)⟩,0,0),(⟨some 118,some (117,true),.load true 1 (.t 3)⟩,16,20),(⟨some 119,some (117,true),.mov (.t 1)⟩,0,0),(⟨some 120,some (117,true),.mov (.t 9)⟩,0,0),(⟨some 121,some (117,true),.call (.c (.func 213 [] [])) [.t 119,.t 120]⟩,0,0),(⟨some 122,some (117,true),.faddr 6 (.t 5)⟩,0,0),(⟨some 123,some (117,true),.load false 1 (.t 122)⟩,19,0),(⟨some 124,some (117,true),.iaddr 10 (.t 123) (.c (j 1))⟩,0,0),(⟨some 125,some (117,true),.load true 10 (.t 124)⟩,19,0),(⟨some 126,some (117,true),.bslF z2 1 [(0,10,.t 125)]⟩,0,0),(⟨some 127,some (117,true),.call (.c (.func 211 [] [])) [.t 118,.t 121,.t 126]⟩,0,0),(⟨some 128,none,.pick (.t 117) (.t 127) (.c (.bool false))⟩,0,0),(⟨some 6,none,.mov (.t 128)⟩,0,0)])
(.ret)) (.skip)))))))))))
(.seq (.reg [⟨some 129,none,.load true 1 (.t 3)⟩,⟨some 130,none,.mov (.t 1)⟩,⟨some 131,none,.faddr 6 (.t 5)⟩,⟨some 132,none,.load false 1 (.t 131)⟩,⟨some 133,none,.call (.c (.func 211 [] [])) [.t 129,.t 130,.t 132]⟩,⟨some 6,none,.mov (.t 133)⟩])
(.ret))))), [.tmp 6], none⟩
theorem amok182 : FnOk Tryz.prog 182 am182 := FnOk.mk' quiets Tryz.func182 (pols := [(8, 6, .frz),(8, 22, .frz),(10, 5, .frz),(14, 6, .frz),(14, 24, .frz)]) (keep := none) (by kernel_rfl) rfl
def am185 : AFunc := ⟨3, .seq (.reg [⟨some 6,none,.mov (.c (.int .u32 (.ofNat 0)))⟩,⟨some 7,none,.mov (.c (.int .u32 (.ofNat 0)))⟩])
(.seq (.reg [⟨some 9,none,.mov (.t 0)⟩,⟨some 10,none,.convI .u64 (.t 9)⟩,⟨some 11,none,.mov (.t 1)⟩,⟨some 12,none,.convI .u64 (.t 11)⟩,⟨some 13,none,.bin .add (.t 10) (.t 12)⟩,⟨some 14,none,.mov (.t 2)⟩,⟨some 15,none,.convI .u64 (.t 14)⟩,⟨some 16,none,.bin .add (.t 13) (.t 15)⟩,⟨some 8,none,.mov (.t 16)⟩])
(.seq (.reg [⟨some 17,none,.mov (.t 8)⟩,⟨some 18,none,.convI .u32 (.t 17)⟩,⟨some 6,none,.mov (.t 18)⟩])
(.seq (.reg [⟨some 19,none,.mov (.t 8)⟩,⟨some 20,none,.bin .shr (.t 19) (.c (.int .u64 (.ofNat 32)))⟩,⟨some 21,none,.convI .u32 (.t 20)⟩,⟨some 7,none,.mov (.t 21)⟩])
(.ret)))), [.tmp 6,.tmp 7], none⟩
theorem amok185 : FnOk Tryz.prog 185 am185 := FnOk.mk' quiets Tryz.func185 (pols := []) (keep := none) (by kernel_rfl) rfl
def am186 : AFunc := ⟨2, .seq (.reg [⟨some 4,none,.mov (.c (.str []))⟩])
(.seq (.reg [⟨some 5,none,.mov (.t 0)⟩,⟨some 4,none,.mov (.t 5)⟩])
(.ret)), [.tmp 4], none⟩
theorem amok186 : FnOk Tryz.prog 186 am186 := FnOk.mk' quiets Tryz.func186 (pols := []) (keep := none) (by kernel_rfl) rfl
def am187 : AFunc := ⟨1, .seq (.reg [⟨some 2,none,.mov (.c (.str []))⟩,⟨some 3,none,.mov (.c (j 0))⟩])
(.seq (.seq (.reg [⟨some 10,none,.mov (.t 0)⟩,⟨some 11,none,.call (.c (.func 175 [] [])) [.t 10]⟩,⟨some 4,none,.mov (.t 11)⟩])
(.seq (.reg [⟨some 12,none,.mov (.t 4)⟩,⟨some 13,none,.bin .neq (.t 12) (.c (j 0))⟩])
(.cond (.t 13) (.seq (.reg [⟨some 14,none,.mov (.t 4)⟩,⟨some 2,none,.mov (.c (.str []))⟩,⟨some 3,none,.mov (.t 14)⟩])
(.ret)) (.skip))))
(.seq (.reg [⟨some 5,none,.resv 1⟩])
(.seq (.seq (.reg [⟨some 15,none,.mov (.t 0)⟩,⟨some 6,none,.mov (.t 15)⟩])
(.block 0 (.loop (.seq (.seq (.reg [⟨some 16,none,.mov (.t 6)⟩,⟨some 17,none,.len false (.t 16)⟩,⟨some 18,none,.bin .gtr (.t 17) (.c (j 0))⟩])
(.cond (.t 18) (.skip) (.exit 0)))
(.block 1 (.seq (.reg [⟨some 20,none,.mov (.t 6)⟩,⟨some 21,none,.call (.c (.func 216 [] [])) [.t 20,.c (.int .u32 (.ofNat 1000000000))]⟩,⟨some 19,none,.mov (.t 21)⟩,⟨some 22,none,.extract (.t 19) 0⟩,⟨some 23,none,.extract (.t 19) 1⟩,⟨some 7,none,.mov (.t 22)⟩,⟨some 8,none,.mov (.t 23)⟩])
(.seq (.seq (.reg [⟨some 9,none,.mov (.c (j 0))⟩])
(.block 2 (.loop (.seq (.seq (.reg [⟨some 24,none,.mov (.t 9)⟩,⟨some 25,none,.bin .lss (.t 24) (.c (j 9))⟩,⟨some 26,none,.mov (.t 25)⟩,⟨some 27,some (26,true),.mov (.t 7)⟩,⟨some 28,some (26,true),.len false (.t 27)⟩,⟨some 29,some (26,true),.bin .gtr (.t 28) (.c (j 0))⟩,⟨some 30,some (26,true),.mov (.t 29)⟩,⟨some 31,some (30,false),.mov (.t 8)⟩,⟨some 32,some (30,false),.bin .gtr (.t 31) (.c (.int .u32 (.ofNat 0)))⟩,⟨some 33,some (26,true),.pick (.t 30) (.c (.bool true)) (.t 32)⟩,⟨some 34,none,.pick (.t 26) (.t 33) (.c (.bool false))⟩])
(.cond (.t 34) (.skip) (.exit 2)))
(.seq (.block 3 (.seq (.reg [⟨some 37,none,.mov (.t 5)⟩,⟨some 38,none,.mov (.t 8)⟩,⟨some 39,none,.bin .rem (.t 38) (.c (.int .u32 (.ofNat 10)))⟩,⟨some 40,none,.bin .add (.c (.int .u32 (.ofNat 48))) (.t 39)⟩,⟨some 41,none,.convI .u8 (.t 40)⟩,⟨some 42,none,.bslF z13 1 [(0,1,.t 41)]⟩,⟨some 43,none,.append 1 1 (.t 37) (.t 42)⟩,⟨some 5,none,.mov (.t 43)⟩])
(.reg [⟨some 44,none,.mov (.t 8)⟩,⟨some 45,none,.bin .quo (.t 44) (.c (.int .u32 (.ofNat 10)))⟩,⟨some 8,none,.mov (.t 45)⟩])))
(.reg [⟨some 35,none,.mov (.t 9)⟩,⟨some 36,none,.bin .add (.t 35) (.c (j 1))⟩,⟨some 9,none,.mov (.t 36)⟩]))))))
(.reg [⟨some 46,none,.mov (.t 7)⟩,⟨some 6,none,.mov (.t 46)⟩]))))))))
(.seq (.seq (.reg [⟨some 47,none,.mov (.t 5)⟩,⟨some 48,none,.len false (.t 47)⟩,⟨some 49,none,.bin .eql (.t 48) (.c (j 0))⟩])
(.cond (.t 49) (.seq (.reg [⟨some 2,none,.mov (.c (.str [48]))⟩,⟨some 3,none,.mov (.c (j 0))⟩])
(.ret)) (.skip)))
(.seq (.reg [⟨some 50,none,.mov (.t 5)⟩,⟨some 51,none,.call (.c (.func 146 [] [])) [.t 50]⟩])
(.seq (.reg [⟨some 52,none,.mov (.t 5)⟩,⟨some 53,none,.convBS (.t 52)⟩,⟨some 2,none,.mov (.t 53)⟩,⟨some 3,none,.mov (.c (j 0))⟩])
(.ret))))))), [.tmp 2,.tmp 3], none⟩
theorem amok187 : FnOk Tryz.prog 187 am187 := FnOk.mk' quiets Tryz.func187 (pols := [(4, 0, .res [(0,1)]),(11, 5, .frz)]) (keep := none) (by kernel_rfl) rfl
def am188 : AFunc := ⟨2, .seq (.reg [⟨some 4,none,.mov (.c (.str []))⟩])
(.seq (.seq (.reg [⟨some 7,none,.mov (.t 0)⟩,⟨some 8,none,.bin .eql (.t 7) (.c (.str []))⟩,⟨some 9,none,.mov (.t 8)⟩,⟨some 10,some (9,false),.mov (.t 1)⟩,⟨some 11,some (9,false),.bin .eql (.t 10) (.c (.str []))⟩,⟨some 12,none,.pick (.t 9) (.c (.bool true)) (.t 11)⟩])
(.cond (.t 12) (.seq (.reg [⟨some 13,none,.mov (.t 0)⟩,⟨some 4,none,.mov (.t 13)⟩])
(.ret)) (.skip)))
(.seq (.seq (.reg [⟨some 14,none,.mov (.t 1)⟩,⟨some 15,none,.len true (.t 14)⟩,⟨some 16,none,.bin .eql (.t 15) (.c (j 1))⟩,⟨some 17,none,.mov (.t 16)⟩,⟨some 18,some (17,true),.mov (.t 1)⟩,⟨some 19,some (17,true),.indexS (.t 18) (.c (j 0))⟩,⟨some 20,some (17,true),.bin .lss (.t 19) (.c (.int .u8 (.ofNat 128)))⟩,⟨some 21,none,.pick (.t 17) (.t 20) (.c (.bool false))⟩])
(.cond (.t 21) (.seq (.reg [⟨some 22,none,.mov (.t 0)⟩,⟨some 23,none,.mov (.t 1)⟩,⟨some 24,none,.indexS (.t 23) (.c (j 0))⟩,⟨some 25,none,.call (.c (.func 217 [] [])) [.t 22,.t 24]⟩,⟨some 4,none,.mov (.t 25)⟩])
(.ret)) (.skip)))
(.seq (.seq (.reg [⟨some 27,none,.mov (.t 1)⟩,⟨some 28,none,.call (.c (.func 143 [] [])) [.t 27]⟩,⟨some 26,none,.mov (.t 28)⟩,⟨some 29,none,.extract (.t 26) 0⟩,⟨some 30,none,.extract (.t 26) 1⟩,⟨some 5,none,.hole 256⟩,⟨some 5,none,.fill 256 ⟨.t 29, (some [])⟩⟩,⟨some 6,none,.mov (.t 30)⟩])
(.seq (.reg [⟨some 31,none,.mov (.t 6)⟩])
(.cond (.t 31) (.seq (.reg [⟨some 32,none,.mov (.t 0)⟩,⟨some 33,none,.call (.c (.func 218 [] [])) [.t 32,.t 5]⟩,⟨some 4,none,.mov (.t 33)⟩])
(.ret)) (.skip))))
(.seq (.reg [⟨some 34,none,.mov (.t 0)⟩,⟨some 35,none,.mov (.t 1)⟩,⟨some 36,none,.call (.c (.func 219 [] [])) [.t 34,.t 35]⟩,⟨some 4,none,.mov (.t 36)⟩])
(.ret))))), [.tmp 4], none⟩
theorem amok188 : FnOk Tryz.prog 188 am188 := FnOk.mk' quiets Tryz.func188 (pols := [(5, 6, .res []),(5, 5, .hole)]) (keep := none) (by kernel_rfl) rfl
def am197 : AFunc := ⟨3, .seq (.reg [⟨some 6,none,.allocB z2 []⟩])
(.seq (.reg [⟨some 10,none,.mov (.t 2)⟩,⟨some 11,none,.call (.t 10) []⟩,⟨some 7,none,.hole 10⟩,⟨some 7,none,.fill 10 ⟨.t 11, none⟩⟩])
(.seq (.seq (.reg [⟨some 13,none,.mov (.t 0)⟩,⟨some 14,none,.mov (.t 1)⟩,⟨some 15,none,.call (.c (.func 220 [] [])) [.t 13,.t 14]⟩,⟨some 12,none,.mov (.t 15)⟩,⟨some 16,none,.extract (.t 12) 0⟩,⟨some 17,none,.extract (.t 12) 1⟩,⟨some 8,none,.mov (.t 16)⟩,⟨some 9,none,.mov (.t 17)⟩])
(.seq (.reg [⟨some 18,none,.mov (.t 9)⟩])
(.cond (.t 18) (.seq (.dreg [(⟨some 19,none,.mov (.t 8)⟩,0,0),(⟨some 20,none,.load true 10 (.t 7)⟩,1,4),(⟨some 21,none,.mov (.t 2)⟩,0,0),(⟨some 22,none,.call (.t 21) []⟩,0,0),(⟨some 23,none,.call (.c (.func 172 [] [])) [.t 19,.t 20,.t 22]⟩,0,0),(⟨none,none,.store 10 (.t 6) (.t 23)⟩,0,0)])
(.ret)) (.skip))))
(.seq (.reg [⟨some 24,none,.load true 10 (.t 7)⟩,⟨none,none,.store 10 (.t 6) (.t 24)⟩])
(.ret)))), [.cell 6 true 10], none⟩
theorem amok197 : FnOk Tryz.prog 197 am197 := FnOk.mk' quiets Tryz.func197 (pols := [(1, 2, .hole),(1, 3, .hole)]) (keep := none) (by kernel_rfl) rfl
def am198 : AFunc := ⟨1, .seq (.reg [⟨some 2,none,.allocB z2 []⟩])
(.seq (.reg [⟨some 3,none,.mov (.t 0)⟩,⟨some 4,none,.mov (.t 0)⟩,⟨some 5,none,.mkf 222 [.t 4] []⟩,⟨some 6,none,.call (.c (.func 221 [] [])) [.t 3,.c (.str [111,114]),.t 5]⟩,⟨none,none,.store 10 (.t 2) (.t 6)⟩])
(.ret)), [.cell 2 true 10], none⟩
theorem amok198 : FnOk Tryz.prog 198 am198 := FnOk.mk' quiets Tryz.func198 (pols := []) (keep := none) (by kernel_rfl) rfl
def am199 : AFunc := ⟨2, .seq (.reg [⟨some 4,none,.load false 1 (.t 1)⟩,⟨some 5,none,.len false (.t 4)⟩,⟨some 6,none,.bin .sub (.t 5) (.c (j 1))⟩,⟨some 3,none,.mov (.t 6)⟩])
(.block 0 (.loop (.seq (.seq (.reg [⟨some 7,none,.mov (.t 3)⟩,⟨some 8,none,.bin .geq (.t 7) (.c (j 0))⟩])
(.cond (.t 8) (.skip) (.exit 0)))
(.seq (.block 1 (.seq (.reg [⟨some 11,none,.mov (.t 0)⟩,⟨some 12,none,.mov (.t 3)⟩,⟨some 13,none,.load false 1 (.t 1)⟩,⟨some 14,none,.mov (.t 3)⟩,⟨some 15,none,.iaddr 10 (.t 13) (.t 14)⟩,⟨some 16,none,.load true 10 (.t 15)⟩,⟨some 17,none,.call (.t 11) [.t 12,.t 16]⟩,⟨some 18,none,.un .not (.t 17)⟩])
(.cond (.t 18) (.ret) (.skip))))
(.reg [⟨some 9,none,.mov (.t 3)⟩,⟨some 10,none,.bin .sub (.t 9) (.c (j 1))⟩,⟨some 3,none,.mov (.t 10)⟩]))))), [], none⟩
theorem amok199 : FnOk Tryz.prog 199 am199 := FnOk.mk' quiets Tryz.func199 (pols := []) (keep := none) (by kernel_rfl) rfl
def am205 : AFunc := ⟨2, .seq (.reg [⟨some 4,none,.mov (.c (.nilsl))⟩,⟨some 5,none,.mov (.c (.nilsl))⟩,⟨some 6,none,.mov (.c (j 0))⟩])
(.seq (.seq (.reg [⟨some 10,none,.mov (.t 0)⟩,⟨some 11,none,.mov (.t 1)⟩,⟨some 12,none,.call (.c (.func 224 [] [])) [.t 10,.t 11]⟩,⟨some 7,none,.mov (.t 12)⟩])
(.seq (.reg [⟨some 13,none,.mov (.t 7)⟩,⟨some 14,none,.bin .neq (.t 13) (.c (j 0))⟩])
(.cond (.t 14) (.seq (.reg [⟨some 15,none,.mov (.t 7)⟩,⟨some 4,none,.mov (.c (.nilsl))⟩,⟨some 5,none,.mov (.c (.nilsl))⟩,⟨some 6,none,.mov (.t 15)⟩])
(.ret)) (.skip))))
(.seq (.seq (.reg [⟨some 16,none,.mov (.t 1)⟩,⟨some 17,none,.len false (.t 16)⟩,⟨some 18,none,.bin .eql (.t 17) (.c (j 0))⟩])
(.cond (.t 18) (.seq (.reg [⟨some 4,none,.mov (.c (.nilsl))⟩,⟨some 5,none,.mov (.c (.nilsl))⟩,⟨some 6,none,.mov (.c (j 53))⟩])
(.ret)) (.skip)))
(.seq (.reg [⟨some 20,none,.mov (.t 0)⟩,⟨some 21,none,.mov (.t 1)⟩,⟨some 22,none,.call (.c (.func 225 [] [])) [.t 20,.t 21]⟩,⟨some 19,none,.mov (.t 22)⟩,⟨some 23,none,.extract (.t 19) 0⟩,⟨some 24,none,.extract (.t 19) 1⟩,⟨some 8,none,.mov (.t 23)⟩,⟨some 9,none,.mov (.t 24)⟩])
(.seq (.reg [⟨some 25,none,.mov (.t 8)⟩,⟨some 26,none,.mov (.t 9)⟩,⟨some 4,none,.mov (.t 25)⟩,⟨some 5,none,.mov (.t 26)⟩,⟨some 6,none,.mov (.c (j 0))⟩])
(.ret))))), [.tmp 4,.tmp 5,.tmp 6], none⟩
theorem amok205 : FnOk Tryz.prog 205 am205 := FnOk.mk' quiets Tryz.func205 (pols := []) (keep := none) (by kernel_rfl) rfl
def am206 : AFunc := ⟨1, .seq (.reg [⟨some 2,none,.mov (.c (.nilsl))⟩])
(.seq (.reg [⟨some 3,none,.mov (.t 0)⟩,⟨some 4,none,.convI .u32 (.t 3)⟩,⟨some 5,none,.mov (.t 0)⟩,⟨some 6,none,.bin .shr (.t 5) (.c (.int .u64 (.ofNat 32)))⟩,⟨some 7,none,.convI .u32 (.t 6)⟩,⟨some 8,none,.bslF z14 2 [(0,1,.t 4),(1,1,.t 7)]⟩,⟨some 9,none,.call (.c (.func 153 [] [])) [.t 8]⟩,⟨some 2,none,.mov (.t 9)⟩])
(.ret)), [.tmp 2], none⟩
theorem amok206 : FnOk Tryz.prog 206 am206 := FnOk.mk' quiets Tryz.func206 (pols := [(1, 5, .frz)]) (keep := none) (by kernel_rfl) rfl
def am208 : AFunc := ⟨1, .seq (.reg [⟨some 1,none,.boxB 10 (.t 0) []⟩,⟨some 2,none,.mov (.c (.str []))⟩,⟨some 3,none,.mov (.c (.bool false))⟩])
(.seq (.seq (.reg [⟨some 4,none,.faddr 0 (.t 1)⟩,⟨some 5,none,.load false 1 (.t 4)⟩])
(.block 0 (.seq (.reg [⟨some 7,none,.bin .eql (.t 5) (.c (j 16))⟩,⟨some 6,none,.mov (.t 7)⟩])
(.cond (.t 6) (.seq (.reg [⟨some 8,none,.faddr 1 (.t 1)⟩,⟨some 9,none,.load false 1 (.t 8)⟩,⟨some 10,none,.bin .add (.c (.str [36])) (.t 9)⟩,⟨some 2,none,.mov (.t 10)⟩,⟨some 3,none,.mov (.c (.bool true))⟩])
(.ret)) (.seq (.reg [⟨some 12,none,.bin .eql (.t 5) (.c (j 18))⟩,⟨some 11,none,.mov (.t 12)⟩])
(.cond (.t 11) (.seq (.reg [⟨some 13,none,.faddr 1 (.t 1)⟩,⟨some 14,none,.load false 1 (.t 13)⟩,⟨some 15,none,.faddr 6 (.t 1)⟩,⟨some 16,none,.load false 1 (.t 15)⟩,⟨some 17,none,.len false (.t 16)⟩,⟨some 18,none,.call (.c (.func 56 [] [])) [.t 14,.t 17]⟩,⟨some 2,none,.mov (.t 18)⟩,⟨some 3,none,.mov (.c (.bool true))⟩])
(.ret)) (.seq (.reg [⟨some 20,none,.bin .eql (.t 5) (.c (j 24))⟩,⟨some 19,none,.mov (.t 20)⟩])
(.cond (.t 19) (.seq (.reg [⟨some 21,none,.faddr 1 (.t 1)⟩,⟨some 22,none,.load false 1 (.t 21)⟩,⟨some 23,none,.bin .add (.c (.str [42])) (.t 22)⟩,⟨some 2,none,.mov (.t 23)⟩,⟨some 3,none,.mov (.c (.bool true))⟩])
(.ret)) (.skip)))))))))
(.seq (.reg [⟨some 2,none,.mov (.c (.str []))⟩,⟨some 3,none,.mov (.c (.bool false))⟩])
(.ret))), [.tmp 2,.tmp 3], none⟩
theorem amok208 : FnOk Tryz.prog 208 am208 := FnOk.mk' quiets Tryz.func208 (pols := []) (keep := none) (by kernel_rfl) rfl
def am210 : AFunc := ⟨1, .seq (.reg [⟨some 2,none,.resv 1⟩])
(.seq (.reg [⟨some 3,none,.resv 1⟩])
(.seq (.seq (.reg [⟨some 6,none,.mov (.t 0)⟩,⟨some 7,none,.len false (.t 6)⟩,⟨some 8,none,.mov (.c (j 0))⟩])
(.block 0 (.loop (.seq (.reg [⟨some 9,none,.bin .lss (.t 8) (.t 7)⟩])
(.seq (.cond (.t 9) (.skip) (.exit 0))
(.seq (.block 1 (.seq (.reg [⟨some 10,none,.iaddr 1 (.t 6) (.t 8)⟩,⟨some 11,none,.load false 1 (.t 10)⟩,⟨some 5,none,.mov (.t 11)⟩])
(.reg [⟨some 12,none,.mov (.t 3)⟩,⟨some 13,none,.mov (.t 5)⟩,⟨some 14,none,.bin .add (.c (.str [36])) (.t 13)⟩,⟨some 15,none,.bslF [.str []] 1 [(0,1,.t 14)]⟩,⟨some 16,none,.append 1 16 (.t 12) (.t 15)⟩,⟨some 3,none,.mov (.t 16)⟩])))
(.reg [⟨some 17,none,.bin .add (.t 8) (.c (j 1))⟩,⟨some 8,none,.mov (.t 17)⟩])))))))
(.seq (.reg [⟨some 18,none,.mov (.t 3)⟩,⟨some 2,none,.mov (.t 18)⟩])
(.ret)))), [.tmp 2], none⟩
theorem amok210 : FnOk Tryz.prog 210 am210 := FnOk.mk' quiets Tryz.func210 (pols := [(0, 0, .res [(0,1)]),(1, 0, .res [(0,1)]),(5, 3, .frz)]) (keep := none) (by kernel_rfl) rfl
def am211 : AFunc := ⟨3, .seq (.reg [⟨some 3,none,.boxB 1 (.t 0) []⟩,⟨some 4,none,.boxB 1 (.t 1) []⟩,⟨some 6,none,.mov (.c (.bool false))⟩])
(.seq (.reg [⟨some 7,none,.mov (.t 2)⟩,⟨some 8,none,.mkf 226 [] [.t 3,.t 4]⟩,⟨some 9,none,.call (.c (.func 86 [] [])) [.t 7,.t 8]⟩,⟨some 10,none,.un .not (.t 9)⟩,⟨some 6,none,.mov (.t 10)⟩])
(.ret)), [.tmp 6], none⟩
theorem amok211 : FnOk Tryz.prog 211 am211 := FnOk.mk' quiets Tryz.func211 (pols := []) (keep := none) (by kernel_rfl) rfl
def am216 : AFunc := ⟨2, .seq (.reg [⟨some 2,none,.boxF 1 (.t 0)⟩,⟨some 3,none,.boxF 1 (.t 1)⟩,⟨some 4,none,.mov (.c (.nilsl))⟩,⟨some 5,none,.mov (.c (.int .u32 (.ofNat 0)))⟩])
(.seq (.reg [⟨some 9,none,.load false 1 (.t 2)⟩,⟨some 10,none,.len false (.t 9)⟩,⟨some 11,none,.msl 1 4 z12 (.t 10) (.t 10)⟩,⟨some 6,none,.hole 1⟩,⟨some 6,none,.fill 1 ⟨.t 11, (some [])⟩⟩])
(.seq (.reg [⟨some 7,none,.allocB z12 []⟩])
(.seq (.seq (.reg [⟨some 12,none,.load false 1 (.t 2)⟩,⟨some 13,none,.call (.c (.func 229 [] [])) [.t 12]⟩])
(.block 0 (.rangeF (.t 13) [14,15] (.reg [⟨some 8,none,.mov (.t 14)⟩]) (.block 1 (.dreg [(⟨some 17,none,.load false 1 (.t 6)⟩,0,9),(⟨some 18,none,.mov (.t 8)⟩,0,0),(⟨some 19,none,.load false 1 (.t 7)⟩,2,0),(⟨some 20,none,.load false 1 (.t 2)⟩,3,0),(⟨some 21,none,.mov (.t 8)⟩,0,0),(⟨some 22,none,.iaddr 1 (.t 20) (.t 21)⟩,0,0),(⟨some 23,none,.load false 1 (.t 22)⟩,6,0),(⟨some 24,none,.load false 1 (.t 3)⟩,7,0),(⟨some 25,none,.call (.c (.func 230 [] [])) [.t 19,.t 23,.t 24]⟩,0,0),(⟨some 16,none,.mov (.t 25)⟩,0,0),(⟨some 26,none,.extract (.t 16) 0⟩,0,0),(⟨some 27,none,.extract (.t 16) 1⟩,0,0),(⟨some 28,none,.iaddr 1 (.t 17) (.t 18)⟩,0,0),(⟨none,none,.store 1 (.t 28) (.t 26)⟩,0,0),(⟨none,none,.store 1 (.t 7) (.t 27)⟩,0,0)])))))
(.seq (.dreg [(⟨some 29,none,.load false 1 (.t 6)⟩,0,0),(⟨some 30,none,.call (.c (.func 153 [] [])) [.t 29]⟩,0,0),(⟨some 31,none,.load false 1 (.t 7)⟩,1,0),(⟨some 4,none,.mov (.t 30)⟩,0,0),(⟨some 5,none,.mov (.t 31)⟩,0,0)])
(.ret))))), [.tmp 4,.tmp 5], none⟩
theorem amok216 : FnOk Tryz.prog 216 am216 := FnOk.mk' quiets Tryz.func216 (pols := [(0, 0, .frz),(0, 1, .frz),(1, 4, .res []),(1, 3, .hole)]) (keep := none) (by kernel_rfl) rfl
def am217 : AFunc := ⟨2, .seq (.reg [⟨some 4,none,.mov (.c (.str []))⟩])
(.seq (.block 0 (.loop (.seq (.seq (.reg [⟨some 5,none,.mov (.t 0)⟩,⟨some 6,none,.len true (.t 5)⟩,⟨some 7,none,.bin .gtr (.t 6) (.c (j 0))⟩,⟨some 8,none,.mov (.t 7)⟩,⟨some 9,some (8,true),.mov (.t 0)⟩,⟨some 10,some (8,true),.mov (.t 0)⟩,⟨some 11,some (8,true),.len true (.t 10)⟩,⟨some 12,some (8,true),.bin .sub (.t 11) (.c (j 1))⟩,⟨some 13,some (8,true),.indexS (.t 9) (.t 12)⟩,⟨some 14,some (8,true),.mov (.t 1)⟩,⟨some 15,some (8,true),.bin .eql (.t 13) (.t 14)⟩,⟨some 16,none,.pick (.t 8) (.t 15) (.c (.bool false))⟩])
(.cond (.t 16) (.skip) (.exit 0)))
(.block 1 (.reg [⟨some 17,none,.mov (.t 0)⟩,⟨some 18,none,.mov (.t 0)⟩,⟨some 19,none,.len true (.t 18)⟩,⟨some 20,none,.bin .sub (.t 19) (.c (j 1))⟩,⟨some 21,none,.sliceS (.t 17) none (some (.t 20))⟩,⟨some 0,none,.mov (.t 21)⟩])))))
(.seq (.reg [⟨some 22,none,.mov (.t 0)⟩,⟨some 4,none,.mov (.t 22)⟩])
(.ret))), [.tmp 4], none⟩
theorem amok217 : FnOk Tryz.prog 217 am217 := FnOk.mk' quiets Tryz.func217 (pols := []) (keep := none) (by kernel_rfl) rfl
def am220 : AFunc := ⟨2, .seq (.reg [⟨some 4,none,.mov (.c (.str []))⟩,⟨some 5,none,.mov (.c (.bool false))⟩])
(.seq (.reg [⟨some 7,none,.mov (.t 0)⟩,⟨some 8,none,.call (.c (.func 117 [] [])) [.t 7]⟩,⟨some 6,none,.mov (.t 8)⟩])
(.seq (.seq (.dreg [(⟨some 9,none,.mov (.t 6)⟩,0,0),(⟨some 10,none,.bin .neq (.t 9) (.c (j 4))⟩,0,0),(⟨some 11,none,.mov (.t 10)⟩,0,0),(⟨some 12,some (11,true),.mov (.t 6)⟩,0,0),(⟨some 13,some (11,true),.bin .neq (.t 12) (.c (j 1))⟩,0,0),(⟨some 14,none,.pick (.t 11) (.t 13) (.c (.bool false))⟩,0,0),(⟨some 15,none,.mov (.t 14)⟩,0,0),(⟨some 16,some (15,false),.mov (.t 1)⟩,0,0),(⟨some 17,some (15,false),.call (.c (.func 71 [] [])) [.t 16]⟩,0,0),(⟨some 18,some (15,false),.mov (.t 0)⟩,0,0),(⟨some 19,some (15,false),.nilchk (.t 18)⟩,0,0),(⟨some 20,some (15,false),.faddr 0 (.t 19)⟩,0,0),(⟨some 21,some (15,false),.load false 1 (.t 20)⟩,8,0),(⟨some 22,some (15,false),.iaddr 6 (.t 21) (.c (j 0))⟩,0,0),(⟨some 23,some (15,false),.faddr 1 (.t 22)⟩,0,0),(⟨some 24,some (15,false),.load false 1 (.t 23)⟩,8,0),(⟨some 25,some (15,false),.call (.c (.func 52 [] [])) [.t 17,.t 24]⟩,0,0),(⟨some 26,some (15,false),.un .not (.t 25)⟩,0,0),(⟨some 27,none,.pick (.t 15) (.c (.bool true)) (.t 26)⟩,0,0)])
(.cond (.t 27) (.seq (.reg [⟨some 4,none,.mov (.c (.str []))⟩,⟨some 5,none,.mov (.c (.bool false))⟩])
(.ret)) (.skip)))
(.seq (.reg [⟨some 28,none,.mov (.t 0)⟩,⟨some 29,none,.call (.c (.func 125 [] [])) [.t 28]⟩,⟨some 30,none,.field false 1 1 (.t 29)⟩,⟨some 4,none,.mov (.t 30)⟩,⟨some 5,none,.mov (.c (.bool true))⟩])
(.ret)))), [.tmp 4,.tmp 5], none⟩
theorem amok220 : FnOk Tryz.prog 220 am220 := FnOk.mk' quiets Tryz.func220 (pols := []) (keep := none) (by kernel_rfl) rfl
def am221 : AFunc := ⟨3, .seq (.reg [⟨some 6,none,.allocB z2 []⟩])
(.seq (.reg [⟨some 10,none,.mov (.t 2)⟩,⟨some 11,none,.call (.t 10) []⟩,⟨some 7,none,.hole 10⟩,⟨some 7,none,.fill 10 ⟨.t 11, (some [])⟩⟩])
(.block 0 (.loop (.block 1 (.seq (.reg [⟨some 13,none,.mov (.t 0)⟩,⟨some 14,none,.mov (.t 1)⟩,⟨some 15,none,.call (.c (.func 220 [] [])) [.t 13,.t 14]⟩,⟨some 12,none,.mov (.t 15)⟩,⟨some 16,none,.extract (.t 12) 0⟩,⟨some 17,none,.extract (.t 12) 1⟩,⟨some 8,none,.mov (.t 16)⟩,⟨some 9,none,.mov (.t 17)⟩])
(.seq (.seq (.reg [⟨some 18,none,.mov (.t 9)⟩,⟨some 19,none,.un .not (.t 18)⟩])
(.cond (.t 19) (.seq (.reg [⟨some 20,none,.load true 10 (.t 7)⟩,⟨none,none,.store 10 (.t 6) (.t 20)⟩])
(.ret)) (.skip)))
(.dreg [(⟨some 21,none,.mov (.t 8)⟩,0,0),(⟨some 22,none,.load true 10 (.t 7)⟩,1,4),(⟨some 23,none,.mov (.t 2)⟩,0,0),(⟨some 24,none,.call (.t 23) []⟩,0,0),(⟨some 25,none,.call (.c (.func 172 [] [])) [.t 21,.t 22,.t 24]⟩,0,0),(⟨none,none,.store 10 (.t 7) (.t 25)⟩,0,0)]))))))), [.cell 6 true 10], none⟩
theorem amok221 : FnOk Tryz.prog 221 am221 := FnOk.mk' quiets Tryz.func221 (pols := [(1, 3, .res []),(1, 2, .hole)]) (keep := none) (by kernel_rfl) rfl
def am222 : AFunc := ⟨1, .seq (.reg [⟨some 2,none,.allocB z2 []⟩])
(.seq (.reg [⟨some 3,none,.mov (.t 0)⟩,⟨some 4,none,.mov (.t 0)⟩,⟨some 5,none,.mkf 232 [.t 4] []⟩,⟨some 6,none,.call (.c (.func 221 [] [])) [.t 3,.c (.str [97,110,100]),.t 5]⟩,⟨none,none,.store 10 (.t 2) (.t 6)⟩])
(.ret)), [.cell 2 true 10], none⟩
theorem amok222 : FnOk Tryz.prog 222 am222 := FnOk.mk' quiets Tryz.func222 (pols := []) (keep := none) (by kernel_rfl) rfl
def am224 : AFunc := ⟨2, .seq (.reg [⟨some 4,none,.mov (.c (j 0))⟩])
(.seq (.reg [⟨some 5,none,.mov (.t 0)⟩,⟨some 6,none,.call (.c (.func 175 [] [])) [.t 5]⟩,⟨some 7,none,.mov (.t 1)⟩,⟨some 8,none,.call (.c (.func 175 [] [])) [.t 7]⟩,⟨some 9,none,.bslF [j 0,j 0] 2 [(0,1,.t 6),(1,1,.t 8)]⟩,⟨some 10,none,.call (.c (.func 233 [] [])) [.t 9]⟩,⟨some 4,none,.mov (.t 10)⟩])
(.ret)), [.tmp 4], none⟩
theorem amok224 : FnOk Tryz.prog 224 am224 := FnOk.mk' quiets Tryz.func224 (pols := [(1, 4, .frz)]) (keep := none) (by kernel_rfl) rfl
def am225 : AFunc := ⟨2, .seq (.reg [⟨some 4,none,.mov (.c (.nilsl))⟩,⟨some 5,none,.mov (.c (.nilsl))⟩])
(.seq (.block 0 (.seq (.reg [⟨some 16,none,.mov (.t 0)⟩,⟨some 17,none,.mov (.t 1)⟩,⟨some 18,none,.call (.c (.func 234 [] [])) [.t 16,.t 17]⟩,⟨some 19,none,.bin .lss (.t 18) (.c (j 0))⟩,⟨some 15,none,.mov (.t 19)⟩])
(.cond (.t 15) (.seq (.reg [⟨some 20,none,.mov (.t 0)⟩,⟨some 21,none,.call (.c (.func 235 [] [])) [.t 20]⟩,⟨some 4,none,.mov (.c (.nilsl))⟩,⟨some 5,none,.mov (.t 21)⟩])
(.ret)) (.seq (.reg [⟨some 23,none,.mov (.t 1)⟩,⟨some 24,none,.len false (.t 23)⟩,⟨some 25,none,.bin .eql (.t 24) (.c (j 1))⟩,⟨some 22,none,.mov (.t 25)⟩])
(.cond (.t 22) (.seq (.reg [⟨some 27,none,.mov (.t 0)⟩,⟨some 28,none,.mov (.t 1)⟩,⟨some 29,none,.iaddr 1 (.t 28) (.c (j 0))⟩,⟨some 30,none,.load false 1 (.t 29)⟩,⟨some 31,none,.call (.c (.func 216 [] [])) [.t 27,.t 30]⟩,⟨some 26,none,.mov (.t 31)⟩,⟨some 32,none,.extract (.t 26) 0⟩,⟨some 33,none,.extract (.t 26) 1⟩,⟨some 6,none,.mov (.t 32)⟩,⟨some 7,none,.mov (.t 33)⟩])
(.seq (.reg [⟨some 34,none,.mov (.t 6)⟩,⟨some 35,none,.mov (.t 7)⟩,⟨some 36,none,.bslF z12 1 [(0,1,.t 35)]⟩,⟨some 37,none,.call (.c (.func 153 [] [])) [.t 36]⟩,⟨some 4,none,.mov (.t 34)⟩,⟨some 5,none,.mov (.t 37)⟩])
(.ret))) (.skip))))))
(.seq (.reg [⟨some 38,none,.mov (.t 1)⟩,⟨some 39,none,.mov (.t 1)⟩,⟨some 40,none,.len false (.t 39)⟩,⟨some 41,none,.bin .sub (.t 40) (.c (j 1))⟩,⟨some 42,none,.iaddr 1 (.t 38) (.t 41)⟩,⟨some 43,none,.load false 1 (.t 42)⟩,⟨some 44,none,.call (.c (.func 236 [] [])) [.t 43]⟩,⟨some 8,none,.mov (.t 44)⟩])
(.seq (.reg [⟨some 45,none,.mov (.t 0)⟩,⟨some 46,none,.mov (.t 8)⟩,⟨some 47,none,.call (.c (.func 237 [] [])) [.t 45,.t 46]⟩,⟨some 48,none,.mov (.t 1)⟩,⟨some 49,none,.mov (.t 8)⟩,⟨some 50,none,.call (.c (.func 237 [] [])) [.t 48,.t 49]⟩,⟨some 51,none,.call (.c (.func 153 [] [])) [.t 50]⟩,⟨some 9,none,.hole 1⟩,⟨some 10,none,.hole 1⟩,⟨some 9,none,.fill 1 ⟨.t 47, none⟩⟩,⟨some 10,none,.fill 1 ⟨.t 51, none⟩⟩])
(.seq (.reg [⟨some 52,none,.load false 1 (.t 10)⟩,⟨some 53,none,.len false (.t 52)⟩,⟨some 11,none,.hole 1⟩,⟨some 11,none,.fill 1 ⟨.t 53, none⟩⟩])
(.seq (.reg [⟨some 54,none,.load false 1 (.t 9)⟩,⟨some 55,none,.len false (.t 54)⟩,⟨some 56,none,.load false 1 (.t 11)⟩,⟨some 57,none,.bin .sub (.t 55) (.t 56)⟩,⟨some 58,none,.msl 1 4 z12 (.t 57) (.t 57)⟩,⟨some 12,none,.hole 1⟩,⟨some 12,none,.fill 1 ⟨.t 58, (some [])⟩⟩])
(.seq (.seq (.reg [⟨some 59,none,.load false 1 (.t 12)⟩,⟨some 60,none,.call (.c (.func 229 [] [])) [.t 59]⟩])
(.block 1 (.rangeF (.t 60) [61,62] (.reg [⟨some 13,none,.mov (.t 61)⟩]) (.block 2 (.seq (.dreg [(⟨some 63,none,.load false 1 (.t 9)⟩,0,0),(⟨some 64,none,.mov (.t 13)⟩,0,0),(⟨some 65,none,.load false 1 (.t 11)⟩,2,0),(⟨some 66,none,.bin .add (.t 64) (.t 65)⟩,0,0),(⟨some 67,none,.iaddr 1 (.t 63) (.t 66)⟩,0,0),(⟨some 68,none,.load false 1 (.t 67)⟩,5,0),(⟨some 69,none,.load false 1 (.t 9)⟩,6,0),(⟨some 70,none,.mov (.t 13)⟩,0,0),(⟨some 71,none,.load false 1 (.t 11)⟩,8,0),(⟨some 72,none,.bin .add (.t 70) (.t 71)⟩,0,0),(⟨some 73,none,.bin .sub (.t 72) (.c (j 1))⟩,0,0),(⟨some 74,none,.iaddr 1 (.t 69) (.t 73)⟩,0,0),(⟨some 75,none,.load false 1 (.t 74)⟩,12,0),(⟨some 76,none,.load false 1 (.t 9)⟩,13,0),(⟨some 77,none,.mov (.t 13)⟩,0,0),(⟨some 78,none,.load false 1 (.t 11)⟩,15,0),(⟨some 79,none,.bin .add (.t 77) (.t 78)⟩,0,0),(⟨some 80,none,.bin .sub (.t 79) (.c (j 2))⟩,0,0),(⟨some 81,none,.iaddr 1 (.t 76) (.t 80)⟩,0,0),(⟨some 82,none,.load false 1 (.t 81)⟩,19,0),(⟨some 83,none,.load false 1 (.t 10)⟩,20,0),(⟨some 84,none,.load false 1 (.t 11)⟩,21,0),(⟨some 85,none,.bin .sub (.t 84) (.c (j 1))⟩,0,0),(⟨some 86,none,.iaddr 1 (.t 83) (.t 85)⟩,0,0),(⟨some 87,none,.load false 1 (.t 86)⟩,24,0),(⟨some 88,none,.load false 1 (.t 10)⟩,25,0),(⟨some 89,none,.load false 1 (.t 11)⟩,26,0),(⟨some 90,none,.bin .sub (.t 89) (.c (j 2))⟩,0,0),(⟨some 91,none,.iaddr 1 (.t 88) (.t 90)⟩,0,0),(⟨some 92,none,.load false 1 (.t 91)⟩,29,0),(⟨some 93,none,.call (.c (.func 238 [] [])) [.t 68,.t 75,.t 82,.t 87,.t 92]⟩,0,0),(⟨some 14,none,.mov (.t 93)⟩,0,0)])
(.seq (.seq (.dreg [(⟨some 94,none,.load false 1 (.t 9)⟩,0,0),(⟨some 95,none,.mov (.t 13)⟩,0,0),(⟨some 96,none,.sliceL 1 (.t 94) (some (.t 95)) none none⟩,0,0),(⟨some 97,none,.load false 1 (.t 10)⟩,3,0),(⟨some 98,none,.mov (.t 14)⟩,0,0),(⟨some 99,none,.call (.c (.func 239 [] [])) [.t 96,.t 97,.t 98]⟩,0,0),(⟨some 100,none,.bin .gtr (.t 99) (.c (.int .u32 (.ofNat 0)))⟩,0,0)])
(.cond (.t 100) (.seq (.reg [⟨some 101,none,.mov (.t 14)⟩,⟨some 102,none,.bin .sub (.t 101) (.c (.int .u64 (.ofNat 1)))⟩,⟨some 14,none,.mov (.t 102)⟩])
(.dreg [(⟨some 103,none,.load false 1 (.t 9)⟩,0,0),(⟨some 104,none,.mov (.t 13)⟩,0,0),(⟨some 105,none,.sliceL 1 (.t 103) (some (.t 104)) none none⟩,0,0),(⟨some 106,none,.load false 1 (.t 10)⟩,3,0),(⟨some 107,none,.call (.c (.func 240 [] [])) [.t 105,.t 106]⟩,0,0)])) (.skip)))
(.reg [⟨some 108,none,.load false 1 (.t 12)⟩,⟨some 109,none,.mov (.t 13)⟩,⟨some 110,none,.mov (.t 14)⟩,⟨some 111,none,.convI .u32 (.t 110)⟩,⟨some 112,none,.iaddr 1 (.t 108) (.t 109)⟩,⟨none,none,.store 1 (.t 112) (.t 111)⟩])))))))
(.seq (.dreg [(⟨some 113,none,.load false 1 (.t 12)⟩,0,0),(⟨some 114,none,.call (.c (.func 153 [] [])) [.t 113]⟩,0,0),(⟨some 115,none,.load false 1 (.t 9)⟩,1,0),(⟨some 116,none,.call (.c (.func 153 [] [])) [.t 115]⟩,0,0),(⟨some 117,none,.mov (.t 8)⟩,0,0),(⟨some 118,none,.call (.c (.func 241 [] [])) [.t 116,.t 117]⟩,0,0),(⟨some 4,none,.mov (.t 114)⟩,0,0),(⟨some 5,none,.mov (.t 118)⟩,0,0)])
(.ret)))))))), [.tmp 4,.tmp 5], none⟩
theorem amok225 : FnOk Tryz.prog 225 am225 := FnOk.mk' quiets Tryz.func225 (pols := [(5, 2, .frz),(7, 7, .hole),(7, 9, .hole),(7, 8, .hole),(7, 10, .hole),(8, 2, .hole),(8, 3, .hole),(9, 6, .res []),(9, 5, .hole)]) (keep := none) (by kernel_rfl) rfl
def am229 : AFunc := ⟨1, .seq (.reg [⟨some 1,none,.boxF 1 (.t 0)⟩,⟨some 2,none,.mov (.c (.nilf))⟩])
(.seq (.reg [⟨some 3,none,.mkf 242 [] [.t 1]⟩,⟨some 2,none,.mov (.t 3)⟩])
(.ret)), [.tmp 2], none⟩
theorem amok229 : FnOk Tryz.prog 229 am229 := FnOk.mk' quiets Tryz.func229 (pols := [(0, 0, .frz)]) (keep := none) (by kernel_rfl) rfl
def am230 : AFunc := ⟨3, .seq (.reg [⟨some 6,none,.mov (.c (.int .u32 (.ofNat 0)))⟩,⟨some 7,none,.mov (.c (.int .u32 (.ofNat 0)))⟩])
(.seq (.seq (.reg [⟨some 9,none,.mov (.t 2)⟩,⟨some 10,none,.bin .neq (.t 9) (.c (.int .u32 (.ofNat 0)))⟩,⟨some 11,none,.mov (.t 10)⟩,⟨some 12,some (11,true),.mov (.t 2)⟩,⟨some 13,some (11,true),.mov (.t 0)⟩,⟨some 14,some (11,true),.bin .leq (.t 12) (.t 13)⟩,⟨some 15,none,.pick (.t 11) (.t 14) (.c (.bool false))⟩])
(.cond (.t 15) (.reg [⟨some 16,none,.load false 1 (.g 5)⟩,⟨none,none,.bad⟩]) (.skip)))
(.seq (.reg [⟨some 17,none,.mov (.t 0)⟩,⟨some 18,none,.convI .u64 (.t 17)⟩,⟨some 19,none,.bin .shl (.t 18) (.c (.int .u64 (.ofNat 32)))⟩,⟨some 20,none,.mov (.t 1)⟩,⟨some 21,none,.convI .u64 (.t 20)⟩,⟨some 22,none,.bin .or (.t 19) (.t 21)⟩,⟨some 8,none,.mov (.t 22)⟩])
(.seq (.dreg [(⟨some 23,none,.mov (.t 8)⟩,0,0),(⟨some 24,none,.mov (.t 2)⟩,0,0),(⟨some 25,none,.convI .u64 (.t 24)⟩,0,0),(⟨some 26,none,.bin .quo (.t 23) (.t 25)⟩,0,0),(⟨some 27,none,.convI .u32 (.t 26)⟩,0,0),(⟨some 28,none,.mov (.t 8)⟩,0,0),(⟨some 29,none,.mov (.t 2)⟩,0,0),(⟨some 30,none,.convI .u64 (.t 29)⟩,0,0),(⟨some 31,none,.bin .rem (.t 28) (.t 30)⟩,0,0),(⟨some 32,none,.convI .u32 (.t 31)⟩,0,0),(⟨some 6,none,.mov (.t 27)⟩,0,0),(⟨some 7,none,.mov (.t 32)⟩,0,0)])
(.ret)))), [.tmp 6,.tmp 7], none⟩
theorem amok230 : FnOk Tryz.prog 230 am230 := FnOk.mk' quiets Tryz.func230 (pols := []) (keep := none) (by kernel_rfl) rfl
def am232 : AFunc := ⟨1, .seq (.reg [⟨some 2,none,.allocB z2 []⟩])
(.seq (.reg [⟨some 3,none,.mov (.t 0)⟩,⟨some 4,none,.mov (.t 0)⟩,⟨some 5,none,.mkf 244 [.t 4] []⟩,⟨some 6,none,.call (.c (.func 197 [] [])) [.t 3,.c (.str [61,61,32,33,61,32,60,61,32,62,61,32,60,32,62]),.t 5]⟩,⟨none,none,.store 10 (.t 2) (.t 6)⟩])
(.ret)), [.cell 2 true 10], none⟩
theorem amok232 : FnOk Tryz.prog 232 am232 := FnOk.mk' quiets Tryz.func232 (pols := []) (keep := none) (by kernel_rfl) rfl
def am233 : AFunc := ⟨1, .seq (.reg [⟨some 2,none,.mov (.c (j 0))⟩])
(.seq (.reg [⟨some 3,none,.mov (.c (j 0))⟩])
(.seq (.seq (.reg [⟨some 6,none,.mov (.t 0)⟩,⟨some 7,none,.len false (.t 6)⟩,⟨some 8,none,.mov (.c (j 0))⟩])
(.block 0 (.loop (.seq (.reg [⟨some 9,none,.bin .lss (.t 8) (.t 7)⟩])
(.seq (.cond (.t 9) (.skip) (.exit 0))
(.seq (.block 1 (.seq (.reg [⟨some 10,none,.iaddr 1 (.t 6) (.t 8)⟩,⟨some 11,none,.load false 1 (.t 10)⟩,⟨some 5,none,.mov (.t 11)⟩])
(.seq (.reg [⟨some 12,none,.mov (.t 5)⟩,⟨some 13,none,.mov (.t 3)⟩,⟨some 14,none,.bin .neq (.t 12) (.t 13)⟩])
(.cond (.t 14) (.seq (.reg [⟨some 15,none,.mov (.t 5)⟩,⟨some 2,none,.mov (.t 15)⟩])
(.ret)) (.skip)))))
(.reg [⟨some 16,none,.bin .add (.t 8) (.c (j 1))⟩,⟨some 8,none,.mov (.t 16)⟩])))))))
(.seq (.reg [⟨some 17,none,.mov (.t 3)⟩,⟨some 2,none,.mov (.t 17)⟩])
(.ret)))), [.tmp 2], none⟩
theorem amok233 : FnOk Tryz.prog 233 am233 := FnOk.mk' quiets Tryz.func233 (pols := []) (keep := none) (by kernel_rfl) rfl
def am234 : AFunc := ⟨2, .seq (.reg [⟨some 2,none,.boxF 1 (.t 0)⟩,⟨some 3,none,.boxF 1 (.t 1)⟩,⟨some 4,none,.allocB [j 0] []⟩])
(.seq (.seq (.reg [⟨some 8,none,.load false 1 (.t 2)⟩,⟨some 9,none,.len false (.t 8)⟩,⟨some 10,none,.load false 1 (.t 3)⟩,⟨some 11,none,.len false (.t 10)⟩,⟨some 12,none,.call (.c (.func 245 [] [])) [.t 9,.t 11]⟩,⟨some 5,none,.mov (.t 12)⟩])
(.seq (.reg [⟨some 13,none,.mov (.t 5)⟩,⟨some 14,none,.bin .neq (.t 13) (.c (j 0))⟩])
(.cond (.t 14) (.seq (.reg [⟨some 15,none,.mov (.t 5)⟩,⟨none,none,.store 1 (.t 4) (.t 15)⟩])
(.ret)) (.skip))))
(.seq (.seq (.reg [⟨some 16,none,.load false 1 (.t 2)⟩,⟨some 17,none,.call (.c (.func 229 [] [])) [.t 16]⟩])
(.block 0 (.rangeF (.t 17) [18,19] (.reg [⟨some 6,none,.mov (.t 18)⟩]) (.block 1 (.seq (.dreg [(⟨some 20,none,.load false 1 (.t 2)⟩,0,0),(⟨some 21,none,.mov (.t 6)⟩,0,0),(⟨some 22,none,.iaddr 1 (.t 20) (.t 21)⟩,0,0),(⟨some 23,none,.load false 1 (.t 22)⟩,3,0),(⟨some 24,none,.load false 1 (.t 3)⟩,4,0),(⟨some 25,none,.mov (.t 6)⟩,0,0),(⟨some 26,none,.iaddr 1 (.t 24) (.t 25)⟩,0,0),(⟨some 27,none,.load false 1 (.t 26)⟩,7,0),(⟨some 28,none,.call (.c (.func 246 [] [])) [.t 23,.t 27]⟩,0,0),(⟨some 7,none,.mov (.t 28)⟩,0,0)])
(.seq (.reg [⟨some 29,none,.mov (.t 7)⟩,⟨some 30,none,.bin .neq (.t 29) (.c (j 0))⟩])
(.cond (.t 30) (.seq (.reg [⟨some 31,none,.mov (.t 7)⟩,⟨none,none,.store 1 (.t 4) (.t 31)⟩])
(.ret)) (.skip))))))))
(.seq (.reg [⟨none,none,.store 1 (.t 4) (.c (j 0))⟩])
(.ret)))), [.cell 4 false 1], none⟩
theorem amok234 : FnOk Tryz.prog 234 am234 := FnOk.mk' quiets Tryz.func234 (pols := [(0, 0, .frz),(0, 1, .frz)]) (keep := none) (by kernel_rfl) rfl
def am235 : AFunc := ⟨1, .seq (.reg [⟨some 2,none,.resv 1⟩])
(.seq (.seq (.reg [⟨some 3,none,.mov (.t 0)⟩,⟨some 4,none,.eqS false (.t 3) (.c (.nilsl))⟩])
(.cond (.t 4) (.seq (.reg [⟨some 2,none,.resv 1⟩])
(.ret)) (.skip)))
(.seq (.reg [⟨some 5,none,.bslR 1 [] 0 []⟩,⟨some 6,none,.mov (.t 0)⟩,⟨some 7,none,.append 1 4 (.t 5) (.t 6)⟩,⟨some 2,none,.mov (.t 7)⟩])
(.ret))), [.tmp 2], (some 0)⟩
theorem amok235 : FnOk Tryz.prog 235 am235 := FnOk.mk' quiets Tryz.func235 (pols := [(0, 0, .res [(0,1)]),(2, 0, .res [(0,1)])]) (keep := some 0) (by kernel_rfl) rfl
def am242 : AFunc := ⟨2, .seq (.reg [⟨some 4,none,.load false 1 (.t 1)⟩,⟨some 5,none,.len false (.t 4)⟩,⟨some 6,none,.bin .sub (.t 5) (.c (j 1))⟩,⟨some 3,none,.mov (.t 6)⟩])
(.block 0 (.loop (.seq (.seq (.reg [⟨some 7,none,.mov (.t 3)⟩,⟨some 8,none,.bin .geq (.t 7) (.c (j 0))⟩])
(.cond (.t 8) (.skip) (.exit 0)))
(.seq (.block 1 (.seq (.reg [⟨some 11,none,.mov (.t 0)⟩,⟨some 12,none,.mov (.t 3)⟩,⟨some 13,none,.load false 1 (.t 1)⟩,⟨some 14,none,.mov (.t 3)⟩,⟨some 15,none,.iaddr 1 (.t 13) (.t 14)⟩,⟨some 16,none,.load false 1 (.t 15)⟩,⟨some 17,none,.call (.t 11) [.t 12,.t 16]⟩,⟨some 18,none,.un .not (.t 17)⟩])
(.cond (.t 18) (.ret) (.skip))))
(.reg [⟨some 9,none,.mov (.t 3)⟩,⟨some 10,none,.bin .sub (.t 9) (.c (j 1))⟩,⟨some 3,none,.mov (.t 10)⟩]))))), [], none⟩
theorem amok242 : FnOk Tryz.prog 242 am242 := FnOk.mk' quiets Tryz.func242 (pols := []) (keep := none) (by kernel_rfl) rfl
def am244 : AFunc := ⟨1, .seq (.reg [⟨some 2,none,.allocB z2 []⟩])
(.seq (.reg [⟨some 3,none,.mov (.t 0)⟩,⟨some 4,none,.mov (.t 0)⟩,⟨some 5,none,.mkf 249 [.t 4] []⟩,⟨some 6,none,.call (.c (.func 221 [] [])) [.t 3,.c (.str [43,32,45]),.t 5]⟩,⟨none,none,.store 10 (.t 2) (.t 6)⟩])
(.ret)), [.cell 2 true 10], none⟩
theorem amok244 : FnOk Tryz.prog 244 am244 := FnOk.mk' quiets Tryz.func244 (pols := []) (keep := none) (by kernel_rfl) rfl
def am245 : AFunc := ⟨2, .seq (.reg [⟨some 4,none,.mov (.c (j 0))⟩])
(.seq (.reg [⟨some 7,none,.mov (.t 0)⟩,⟨some 8,none,.call (.c (.func 250 [] [])) [.t 7]⟩,⟨some 5,none,.mov (.t 8)⟩])
(.seq (.reg [⟨some 9,none,.mov (.t 1)⟩,⟨some 10,none,.call (.c (.func 250 [] [])) [.t 9]⟩,⟨some 6,none,.mov (.t 10)⟩])
(.seq (.seq (.reg [⟨some 11,none,.mov (.t 5)⟩])
(.cond (.t 11) (.seq (.seq (.reg [⟨some 12,none,.mov (.t 6)⟩])
(.cond (.t 12) (.seq (.reg [⟨some 4,none,.mov (.c (j 0))⟩])
(.ret)) (.skip)))
(.seq (.reg [⟨some 4,none,.mov (.c (.int .i64 (.negSucc 0)))⟩])
(.ret))) (.skip)))
(.seq (.seq (.reg [⟨some 13,none,.mov (.t 6)⟩])
(.cond (.t 13) (.seq (.reg [⟨some 4,none,.mov (.c (j 1))⟩])
(.ret)) (.skip)))
(.seq (.seq (.reg [⟨some 14,none,.mov (.t 0)⟩,⟨some 15,none,.mov (.t 1)⟩,⟨some 16,none,.bin .lss (.t 14) (.t 15)⟩])
(.cond (.t 16) (.seq (.reg [⟨some 4,none,.mov (.c (.int .i64 (.negSucc 0)))⟩])
(.ret)) (.skip)))
(.seq (.seq (.reg [⟨some 17,none,.mov (.t 0)⟩,⟨some 18,none,.mov (.t 1)⟩,⟨some 19,none,.bin .gtr (.t 17) (.t 18)⟩])
(.cond (.t 19) (.seq (.reg [⟨some 4,none,.mov (.c (j 1))⟩])
(.ret)) (.skip)))
(.seq (.reg [⟨some 4,none,.mov (.c (j 0))⟩])
(.ret)))))))), [.tmp 4], none⟩
theorem amok245 : FnOk Tryz.prog 245 am245 := FnOk.mk' quiets Tryz.func245 (pols := []) (keep := none) (by kernel_rfl) rfl
def am246 : AFunc := ⟨2, .seq (.reg [⟨some 4,none,.mov (.c (j 0))⟩])
(.seq (.reg [⟨some 7,none,.mov (.t 0)⟩,⟨some 8,none,.call (.c (.func 251 [] [])) [.t 7]⟩,⟨some 5,none,.mov (.t 8)⟩])
(.seq (.reg [⟨some 9,none,.mov (.t 1)⟩,⟨some 10,none,.call (.c (.func 251 [] [])) [.t 9]⟩,⟨some 6,none,.mov (.t 10)⟩])
(.seq (.seq (.reg [⟨some 11,none,.mov (.t 5)⟩])
(.cond (.t 11) (.seq (.seq (.reg [⟨some 12,none,.mov (.t 6)⟩])
(.cond (.t 12) (.seq (.reg [⟨some 4,none,.mov (.c (j 0))⟩])
(.ret)) (.skip)))
(.seq (.reg [⟨some 4,none,.mov (.c (.int .i64 (.negSucc 0)))⟩])
(.ret))) (.skip)))
(.seq (.seq (.reg [⟨some 13,none,.mov (.t 6)⟩])
(.cond (.t 13) (.seq (.reg [⟨some 4,none,.mov (.c (j 1))⟩])
(.ret)) (.skip)))
(.seq (.seq (.reg [⟨some 14,none,.mov (.t 0)⟩,⟨some 15,none,.mov (.t 1)⟩,⟨some 16,none,.bin .lss (.t 14) (.t 15)⟩])
(.cond (.t 16) (.seq (.reg [⟨some 4,none,.mov (.c (.int .i64 (.negSucc 0)))⟩])
(.ret)) (.skip)))
(.seq (.seq (.reg [⟨some 17,none,.mov (.t 0)⟩,⟨some 18,none,.mov (.t 1)⟩,⟨some 19,none,.bin .gtr (.t 17) (.t 18)⟩])
(.cond (.t 19) (.seq (.reg [⟨some 4,none,.mov (.c (j 1))⟩])
(.ret)) (.skip)))
(.seq (.reg [⟨some 4,none,.mov (.c (j 0))⟩])
(.ret)))))))), [.tmp 4], none⟩
theorem amok246 : FnOk Tryz.prog 246 am246 := FnOk.mk' quiets Tryz.func246 (pols := []) (keep := none) (by kernel_rfl) rfl
def am249 : AFunc := ⟨1, .seq (.reg [⟨some 2,none,.allocB z2 []⟩])
(.seq (.reg [⟨some 3,none,.mov (.t 0)⟩,⟨some 4,none,.mov (.t 0)⟩,⟨some 5,none,.mkf 252 [.t 4] []⟩,⟨some 6,none,.call (.c (.func 221 [] [])) [.t 3,.c (.str [42,32,47,32,37]),.t 5]⟩,⟨none,none,.store 10 (.t 2) (.t 6)⟩])
(.ret)), [.cell 2 true 10], none⟩
theorem amok249 : FnOk Tryz.prog 249 am249 := FnOk.mk' quiets Tryz.func249 (pols := []) (keep := none) (by kernel_rfl) rfl
def am250 : AFunc := ⟨1, .seq (.reg [⟨some 2,none,.mov (.c (.bool false))⟩])
(.seq (.reg [⟨some 3,none,.mov (.t 0)⟩,⟨some 4,none,.mov (.t 0)⟩,⟨some 5,none,.bin .neq (.t 3) (.t 4)⟩,⟨some 2,none,.mov (.t 5)⟩])
(.ret)), [.tmp 2], none⟩
theorem amok250 : FnOk Tryz.prog 250 am250 := FnOk.mk' quiets Tryz.func250 (pols := []) (keep := none) (by kernel_rfl) rfl
def am251 : AFunc := ⟨1, .seq (.reg [⟨some 2,none,.mov (.c (.bool false))⟩])
(.seq (.reg [⟨some 3,none,.mov (.t 0)⟩,⟨some 4,none,.mov (.t 0)⟩,⟨some 5,none,.bin .neq (.t 3) (.t 4)⟩,⟨some 2,none,.mov (.t 5)⟩])
(.ret)), [.tmp 2], none⟩
theorem amok251 : FnOk Tryz.prog 251 am251 := FnOk.mk' quiets Tryz.func251 (pols := []) (keep := none) (by kernel_rfl) rfl
def am252 : AFunc := ⟨1, .seq (.reg [⟨some 1,none,.boxB 1 (.t 0) []⟩,⟨some 2,none,.allocB z2 []⟩])
(.seq (.reg [⟨some 3,none,.load false 1 (.t 1)⟩,⟨some 4,none,.mkf 253 [] [.t 1]⟩,⟨some 5,none,.call (.c (.func 76 [] [])) [.t 3,.t 4]⟩,⟨none,none,.store 10 (.t 2) (.t 5)⟩])
(.ret)), [.cell 2 true 10], none⟩
theorem amok252 : FnOk Tryz.prog 252 am252 := FnOk.mk' quiets Tryz.func252 (pols := []) (keep := none) (by kernel_rfl) rfl
def am253 : AFunc := ⟨1, .seq (.reg [⟨some 1,none,.allocB z2 []⟩])
(.seq (.reg [⟨some 3,none,.load false 1 (.t 0)⟩,⟨some 4,none,.call (.c (.func 82 [] [])) [.t 3]⟩,⟨some 2,none,.mov (.t 4)⟩])
(.seq (.seq (.reg [⟨some 5,none,.load false 1 (.t 0)⟩,⟨some 6,none,.call (.c (.func 80 [] [])) [.t 5,.c (j 4),.c (.str [45])]⟩])
(.cond (.t 6) (.seq (.reg [⟨some 7,none,.mov (.t 2)⟩,⟨some 8,none,.load false 1 (.t 0)⟩,⟨some 9,none,.call (.c (.func 252 [] [])) [.t 8]⟩,⟨some 10,none,.bslF z2 1 [(0,10,.t 9)]⟩,⟨some 11,none,.call (.c (.func 119 [] [])) [.c (j 15),.t 7,.t 10]⟩,⟨none,none,.store 10 (.t 1) (.t 11)⟩])
(.ret)) (.skip)))
(.seq (.dreg [(⟨some 12,none,.load false 1 (.t 0)⟩,0,3),(⟨some 13,none,.load false 1 (.t 0)⟩,1,0),(⟨some 14,none,.call (.c (.func 255 [] [])) [.t 13]⟩,0,0),(⟨some 15,none,.call (.c (.func 254 [] [])) [.t 12,.t 14]⟩,0,0),(⟨none,none,.store 10 (.t 1) (.t 15)⟩,0,0)])
(.ret)))), [.cell 1 true 10], none⟩
theorem amok253 : FnOk Tryz.prog 253 am253 := FnOk.mk' quiets Tryz.func253 (pols := [(3, 3, .frz)]) (keep := none) (by kernel_rfl) rfl
def am254 : AFunc := ⟨2, .seq (.reg [⟨some 3,none,.boxB 10 (.t 1) []⟩,⟨some 4,none,.allocB z2 []⟩])
(.seq (.seq (.reg [⟨some 7,none,.mov (.t 0)⟩,⟨some 8,none,.call (.c (.func 80 [] [])) [.t 7,.c (j 1),.c (.str [97,115])]⟩,⟨some 9,none,.un .not (.t 8)⟩])
(.cond (.t 9) (.seq (.reg [⟨some 10,none,.load true 10 (.t 3)⟩,⟨none,none,.store 10 (.t 4) (.t 10)⟩])
(.ret)) (.skip)))
(.seq (.reg [⟨some 11,none,.mov (.t 0)⟩,⟨some 12,none,.mov (.t 0)⟩,⟨some 13,none,.mkf 257 [.t 12] []⟩,⟨some 14,none,.call (.c (.func 256 [] [])) [.t 11,.c (.str [63,47,47]),.t 13]⟩,⟨some 5,none,.mov (.t 14)⟩])
(.seq (.reg [⟨some 15,none,.mov (.t 0)⟩,⟨some 16,none,.call (.c (.func 122 [] [])) [.t 15,.c (j 4),.c (.str [124])]⟩])
(.seq (.dreg [(⟨some 17,none,.faddr 9 (.t 3)⟩,0,0),(⟨some 18,none,.load false 1 (.t 17)⟩,1,5),(⟨some 19,none,.load true 10 (.t 3)⟩,2,5),(⟨some 20,none,.mov (.t 0)⟩,0,0),(⟨some 21,none,.call (.c (.func 39 [] [])) [.t 20]⟩,0,0),(⟨some 22,none,.bslF z15 2 [(0,10,.t 19),(10,10,.t 21)]⟩,0,0),(⟨some 23,none,.call (.c (.func 119 [] [])) [.c (j 26),.t 18,.t 22]⟩,0,0),(⟨some 6,none,.hole 10⟩,0,0),(⟨some 6,none,.fill 10 ⟨.t 23, (some [])⟩⟩,0,0)])
(.seq (.reg [⟨some 24,none,.mov (.t 5)⟩,⟨some 25,none,.faddr 7 (.t 6)⟩,⟨none,none,.store 1 (.t 25) (.t 24)⟩])
(.seq (.reg [⟨some 26,none,.load true 10 (.t 6)⟩,⟨none,none,.store 10 (.t 4) (.t 26)⟩])
(.ret))))))), [.cell 4 true 10], none⟩
theorem amok254 : FnOk Tryz.prog 254 am254 := FnOk.mk' quiets Tryz.func254 (pols := [(5, 5, .frz),(5, 8, .res []),(5, 7, .hole)]) (keep := none) (by kernel_rfl) rfl
def am255 : AFunc := ⟨1, .seq (.reg [⟨some 1,none,.boxB 1 (.t 0) []⟩,⟨some 2,none,.allocB z2 []⟩])
(.seq (.reg [⟨some 3,none,.load false 1 (.t 1)⟩,⟨some 4,none,.mkf 258 [] [.t 1]⟩,⟨some 5,none,.call (.c (.func 76 [] [])) [.t 3,.t 4]⟩,⟨none,none,.store 10 (.t 2) (.t 5)⟩])
(.ret)), [.cell 2 true 10], none⟩
theorem amok255 : FnOk Tryz.prog 255 am255 := FnOk.mk' quiets Tryz.func255 (pols := []) (keep := none) (by kernel_rfl) rfl
def am256 : AFunc := ⟨3, .seq (.reg [⟨some 6,none,.resv 4⟩])
(.seq (.reg [⟨some 8,none,.mov (.t 2)⟩,⟨some 9,none,.call (.t 8) []⟩,⟨some 10,none,.bslR 4 z6 1 [(0,4,.t 9)]⟩,⟨some 7,none,.mov (.t 10)⟩])
(.seq (.block 0 (.loop (.seq (.seq (.reg [⟨some 11,none,.mov (.t 0)⟩,⟨some 12,none,.mov (.t 1)⟩,⟨some 13,none,.call (.c (.func 80 [] [])) [.t 11,.c (j 4),.t 12]⟩])
(.cond (.t 13) (.skip) (.exit 0)))
(.block 1 (.reg [⟨some 14,none,.mov (.t 7)⟩,⟨some 15,none,.mov (.t 2)⟩,⟨some 16,none,.call (.t 15) []⟩,⟨some 17,none,.bslF z6 1 [(0,4,.t 16)]⟩,⟨some 18,none,.append 4 72 (.t 14) (.t 17)⟩,⟨some 7,none,.mov (.t 18)⟩])))))
(.seq (.reg [⟨some 19,none,.mov (.t 7)⟩,⟨some 6,none,.mov (.t 19)⟩])
(.ret)))), [.tmp 6], none⟩
theorem amok256 : FnOk Tryz.prog 256 am256 := FnOk.mk' quiets Tryz.func256 (pols := [(0, 0, .res [(0,4)]),(3, 3, .frz)]) (keep := none) (by kernel_rfl) rfl
def am257 : AFunc := ⟨1, .seq (.reg [⟨some 1,none,.boxB 1 (.t 0) []⟩,⟨some 2,none,.allocB z6 []⟩])
(.seq (.reg [⟨some 3,none,.load false 1 (.t 1)⟩,⟨some 4,none,.mkf 262 [] [.t 1]⟩,⟨some 5,none,.call (.c (.func 261 [] [])) [.t 3,.t 4]⟩,⟨none,none,.store 4 (.t 2) (.t 5)⟩])
(.ret)), [.cell 2 true 4], none⟩
theorem amok257 : FnOk Tryz.prog 257 am257 := FnOk.mk' quiets Tryz.func257 (pols := []) (keep := none) (by kernel_rfl) rfl
def am258 : AFunc := ⟨1, .seq (.reg [⟨some 1,none,.allocB z2 []⟩])
(.seq (.reg [⟨some 3,none,.load false 1 (.t 0)⟩,⟨some 4,none,.call (.c (.func 259 [] [])) [.t 3]⟩,⟨some 2,none,.hole 10⟩,⟨some 2,none,.fill 10 ⟨.t 4, (some [])⟩⟩])
(.seq (.block 0 (.loop (.seq (.seq (.reg [⟨some 5,none,.load false 1 (.t 0)⟩,⟨some 6,none,.call (.c (.func 260 [] [])) [.t 5,.t 2]⟩])
(.cond (.t 6) (.skip) (.exit 0)))
(.block 1 (.skip)))))
(.seq (.reg [⟨some 7,none,.load true 10 (.t 2)⟩,⟨none,none,.store 10 (.t 1) (.t 7)⟩])
(.ret)))), [.cell 1 true 10], none⟩
theorem amok258 : FnOk Tryz.prog 258 am258 := FnOk.mk' quiets Tryz.func258 (pols := [(1, 3, .res []),(1, 2, .hole)]) (keep := none) (by kernel_rfl) rfl
def am259 : AFunc := ⟨1, .seq (.reg [⟨some 2,none,.allocB z2 []⟩])
(.seq (.reg [⟨some 5,none,.mov (.t 0)⟩,⟨some 6,none,.call (.c (.func 82 [] [])) [.t 5]⟩,⟨some 3,none,.mov (.t 6)⟩])
(.seq (.reg [⟨some 7,none,.mov (.t 3)⟩,⟨some 8,none,.build z2 [(9,1,.t 7)]⟩,⟨some 4,none,.hole 10⟩,⟨some 4,none,.fill 10 ⟨.t 8, (some [])⟩⟩])
(.seq (.seq (.reg [⟨some 9,none,.mov (.t 0)⟩,⟨some 10,none,.call (.c (.func 117 [] [])) [.t 9]⟩])
(.block 0 (.seq (.reg [⟨some 15,none,.bin .eql (.t 10) (.c (j 2))⟩,⟨some 14,none,.mov (.t 15)⟩])
(.cond (.t 14) (.seq (.reg [⟨some 16,none,.mov (.t 3)⟩,⟨some 17,none,.mov (.t 3)⟩,⟨some 18,none,.build z2 [(0,1,.c (j 1)),(9,1,.t 17)]⟩,⟨some 19,none,.bslF z2 1 [(0,10,.t 18)]⟩,⟨some 20,none,.call (.c (.func 119 [] [])) [.c (j 3),.t 16,.t 19]⟩,⟨none,none,.store 10 (.t 4) (.t 20)⟩])
(.reg [⟨some 21,none,.mov (.t 0)⟩,⟨some 22,none,.call (.c (.func 125 [] [])) [.t 21]⟩,⟨some 23,none,.field false 1 1 (.t 22)⟩,⟨some 24,none,.faddr 2 (.t 4)⟩,⟨none,none,.store 1 (.t 24) (.t 23)⟩])) (.seq (.reg [⟨some 26,none,.bin .eql (.t 10) (.c (j 3))⟩,⟨some 25,none,.mov (.t 26)⟩])
(.cond (.t 25) (.seq (.reg [⟨some 27,none,.mov (.t 0)⟩,⟨some 28,none,.call (.c (.func 125 [] [])) [.t 27]⟩,⟨some 29,none,.field true 2 3 (.t 28)⟩,⟨some 30,none,.faddr 0 (.t 4)⟩,⟨none,none,.store 1 (.t 30) (.c (j 8))⟩,⟨some 31,none,.faddr 3 (.t 4)⟩,⟨none,none,.store 3 (.t 31) (.t 29)⟩])
(.reg [⟨some 32,none,.faddr 3 (.t 4)⟩,⟨some 33,none,.faddr 1 (.t 32)⟩,⟨some 34,none,.load false 1 (.t 33)⟩,⟨some 35,none,.call (.c (.func 266 [] [])) [.t 34]⟩,⟨some 36,none,.faddr 3 (.t 4)⟩,⟨some 37,none,.faddr 1 (.t 36)⟩,⟨none,none,.store 1 (.t 37) (.t 35)⟩])) (.seq (.reg [⟨some 39,none,.bin .eql (.t 10) (.c (j 5))⟩,⟨some 38,none,.mov (.t 39)⟩])
(.cond (.t 38) (.reg [⟨some 40,none,.mov (.t 0)⟩,⟨some 41,none,.call (.c (.func 125 [] [])) [.t 40]⟩,⟨some 42,none,.field false 1 1 (.t 41)⟩,⟨some 43,none,.faddr 0 (.t 4)⟩,⟨none,none,.store 1 (.t 43) (.c (j 16))⟩,⟨some 44,none,.faddr 1 (.t 4)⟩,⟨none,none,.store 1 (.t 44) (.t 42)⟩]) (.seq (.reg [⟨some 46,none,.bin .eql (.t 10) (.c (j 6))⟩,⟨some 45,none,.mov (.t 46)⟩])
(.cond (.t 45) (.seq (.reg [⟨some 47,none,.mov (.t 0)⟩,⟨some 48,none,.call (.c (.func 125 [] [])) [.t 47]⟩,⟨some 49,none,.field false 1 1 (.t 48)⟩,⟨some 50,none,.faddr 0 (.t 4)⟩,⟨none,none,.store 1 (.t 50) (.c (j 17))⟩,⟨some 51,none,.faddr 1 (.t 4)⟩,⟨none,none,.store 1 (.t 51) (.t 49)⟩])
(.seq (.reg [⟨some 52,none,.mov (.t 0)⟩,⟨some 53,none,.call (.c (.func 117 [] [])) [.t 52]⟩,⟨some 54,none,.bin .eql (.t 53) (.c (j 7))⟩])
(.cond (.t 54) (.seq (.reg [⟨some 55,none,.mov (.t 0)⟩,⟨some 56,none,.faddr 1 (.t 4)⟩,⟨some 57,none,.load false 1 (.t 56)⟩,⟨some 58,none,.mov (.t 3)⟩,⟨some 59,none,.call (.c (.func 267 [] [])) [.t 55,.t 57,.t 58]⟩,⟨none,none,.store 10 (.t 2) (.t 59)⟩])
(.ret)) (.skip)))) (.seq (.reg [⟨some 61,none,.bin .eql (.t 10) (.c (j 7))⟩,⟨some 60,none,.mov (.t 61)⟩])
(.cond (.t 60) (.seq (.reg [⟨some 62,none,.mov (.t 0)⟩,⟨some 63,none,.mov (.t 3)⟩,⟨some 64,none,.call (.c (.func 267 [] [])) [.t 62,.c (.str []),.t 63]⟩,⟨none,none,.store 10 (.t 2) (.t 64)⟩])
(.ret)) (.seq (.reg [⟨some 66,none,.bin .eql (.t 10) (.c (j 1))⟩,⟨some 65,none,.mov (.t 66)⟩])
(.cond (.t 65) (.seq (.reg [⟨some 67,none,.mov (.t 0)⟩,⟨some 68,none,.mov (.t 3)⟩,⟨some 69,none,.call (.c (.func 268 [] [])) [.t 67,.t 68]⟩,⟨none,none,.store 10 (.t 2) (.t 69)⟩])
(.ret)) (.seq (.reg [⟨some 11,none,.mov (.t 0)⟩,⟨some 12,none,.mov (.t 3)⟩,⟨some 13,none,.call (.c (.func 269 [] [])) [.t 11,.t 12]⟩,⟨none,none,.store 10 (.t 2) (.t 13)⟩])
(.ret))))))))))))))))
(.seq (.reg [⟨some 70,none,.load true 10 (.t 4)⟩,⟨none,none,.store 10 (.t 2) (.t 70)⟩])
(.ret))))), [.cell 2 true 10], none⟩
theorem amok259 : FnOk Tryz.prog 259 am259 := FnOk.mk' quiets Tryz.func259 (pols := [(2, 3, .res []),(2, 2, .hole),(6, 3, .frz)]) (keep := none) (by kernel_rfl) rfl
def am260 : AFunc := ⟨2, .seq (.reg [⟨some 4,none,.mov (.c (.bool false))⟩])
(.seq (.block 0 (.seq (.reg [⟨some 7,none,.mov (.t 0)⟩,⟨some 8,none,.call (.c (.func 117 [] [])) [.t 7]⟩,⟨some 9,none,.bin .eql (.t 8) (.c (j 2))⟩,⟨some 6,none,.mov (.t 9)⟩])
(.cond (.t 6) (.seq (.reg [⟨some 10,none,.mov (.t 0)⟩,⟨some 11,none,.call (.c (.func 125 [] [])) [.t 10]⟩,⟨some 12,none,.field false 1 1 (.t 11)⟩,⟨some 5,none,.mov (.t 12)⟩])
(.seq (.dreg [(⟨some 13,none,.mov (.t 1)⟩,0,0),(⟨some 14,none,.mov (.t 1)⟩,0,0),(⟨some 15,none,.nilchk (.t 14)⟩,0,0),(⟨some 16,none,.faddr 9 (.t 15)⟩,0,0),(⟨some 17,none,.load false 1 (.t 16)⟩,4,0),(⟨some 18,none,.mov (.t 1)⟩,0,0),(⟨some 19,none,.nilchk (.t 18)⟩,0,0),(⟨some 20,none,.load true 10 (.t 19)⟩,7,0),(⟨some 21,none,.bslF z2 1 [(0,10,.t 20)]⟩,0,0),(⟨some 22,none,.call (.c (.func 119 [] [])) [.c (j 3),.t 17,.t 21]⟩,0,0),(⟨some 23,none,.nilchk (.t 13)⟩,0,0),(⟨none,none,.store 10 (.t 23) (.t 22)⟩,0,0)])
(.reg [⟨some 24,none,.mov (.t 1)⟩,⟨some 25,none,.mov (.t 5)⟩,⟨some 26,none,.nilchk (.t 24)⟩,⟨some 27,none,.faddr 2 (.t 26)⟩,⟨none,none,.store 1 (.t 27) (.t 25)⟩]))) (.seq (.reg [⟨some 29,none,.mov (.t 0)⟩,⟨some 30,none,.call (.c (.func 80 [] [])) [.t 29,.c (j 4),.c (.str [46])]⟩,⟨some 28,none,.mov (.t 30)⟩])
(.cond (.t 28) (.reg [⟨some 31,none,.mov (.t 1)⟩,⟨some 32,none,.mov (.t 0)⟩,⟨some 33,none,.mov (.t 1)⟩,⟨some 34,none,.nilchk (.t 33)⟩,⟨some 35,none,.load true 10 (.t 34)⟩,⟨some 36,none,.call (.c (.func 270 [] [])) [.t 32,.t 35]⟩,⟨some 37,none,.nilchk (.t 31)⟩,⟨none,none,.store 10 (.t 37) (.t 36)⟩]) (.seq (.reg [⟨some 39,none,.mov (.t 0)⟩,⟨some 40,none,.call (.c (.func 80 [] [])) [.t 39,.c (j 4),.c (.str [91])]⟩,⟨some 38,none,.mov (.t 40)⟩])
(.cond (.t 38) (.reg [⟨some 41,none,.mov (.t 1)⟩,⟨some 42,none,.mov (.t 0)⟩,⟨some 43,none,.mov (.t 1)⟩,⟨some 44,none,.nilchk (.t 43)⟩,⟨some 45,none,.load true 10 (.t 44)⟩,⟨some 46,none,.call (.c (.func 271 [] [])) [.t 42,.t 45]⟩,⟨some 47,none,.nilchk (.t 41)⟩,⟨none,none,.store 10 (.t 47) (.t 46)⟩]) (.seq (.reg [⟨some 49,none,.mov (.t 0)⟩,⟨some 50,none,.call (.c (.func 80 [] [])) [.t 49,.c (j 4),.c (.str [63])]⟩,⟨some 48,none,.mov (.t 50)⟩])
(.cond (.t 48) (.dreg [(⟨some 51,none,.mov (.t 1)⟩,0,0),(⟨some 52,none,.mov (.t 1)⟩,0,0),(⟨some 53,none,.nilchk (.t 52)⟩,0,0),(⟨some 54,none,.faddr 9 (.t 53)⟩,0,0),(⟨some 55,none,.load false 1 (.t 54)⟩,4,0),(⟨some 56,none,.mov (.t 1)⟩,0,0),(⟨some 57,none,.nilchk (.t 56)⟩,0,0),(⟨some 58,none,.load true 10 (.t 57)⟩,7,0),(⟨some 59,none,.bslF z2 1 [(0,10,.t 58)]⟩,0,0),(⟨some 60,none,.call (.c (.func 119 [] [])) [.c (j 7),.t 55,.t 59]⟩,0,0),(⟨some 61,none,.nilchk (.t 51)⟩,0,0),(⟨none,none,.store 10 (.t 61) (.t 60)⟩,0,0)]) (.seq (.reg [⟨some 4,none,.mov (.c (.bool false))⟩])
(.ret)))))))))))
(.seq (.reg [⟨some 4,none,.mov (.c (.bool true))⟩])
(.ret))), [.tmp 4], none⟩
theorem amok260 : FnOk Tryz.prog 260 am260 := FnOk.mk' quiets Tryz.func260 (pols := [(4, 8, .frz),(11, 8, .frz)]) (keep := none) (by kernel_rfl) rfl
def am261 : AFunc := ⟨2, .seq (.reg [⟨some 4,none,.allocB z6 []⟩])
(.seq (.seq (.reg [⟨some 6,none,.mov (.t 0)⟩,⟨some 7,none,.nilchk (.t 6)⟩,⟨some 8,none,.faddr 2 (.t 7)⟩,⟨some 9,none,.load false 1 (.t 8)⟩,⟨some 10,none,.bin .eql (.t 9) (.c (j 200))⟩])
(.cond (.t 10) (.seq (.seq (.reg [⟨some 11,none,.mov (.t 0)⟩,⟨some 12,none,.nilchk (.t 11)⟩,⟨some 13,none,.faddr 0 (.t 12)⟩,⟨some 14,none,.load false 1 (.t 13)⟩,⟨some 15,none,.len false (.t 14)⟩,⟨some 16,none,.bin .eql (.t 15) (.c (j 0))⟩])
(.cond (.t 16) (.reg [⟨some 17,none,.mov (.t 0)⟩,⟨some 18,none,.call (.c (.func 41 [] [])) [.t 17,.c (j 8)]⟩]) (.skip)))
(.reg [⟨some 19,none,.mov (.t 0)⟩,⟨some 20,none,.call (.c (.func 41 [] [])) [.t 19,.c (j 42)]⟩])) (.skip)))
(.seq (.reg [⟨some 21,none,.mov (.t 0)⟩,⟨some 22,none,.nilchk (.t 21)⟩,⟨some 23,none,.faddr 2 (.t 22)⟩,⟨some 24,none,.load false 1 (.t 23)⟩,⟨some 25,none,.bin .add (.t 24) (.c (j 1))⟩,⟨some 26,none,.nilchk (.t 21)⟩,⟨some 27,none,.faddr 2 (.t 26)⟩,⟨none,none,.store 1 (.t 27) (.t 25)⟩])
(.seq (.reg [⟨some 28,none,.mov (.t 1)⟩,⟨some 29,none,.call (.t 28) []⟩,⟨some 5,none,.hole 4⟩,⟨some 5,none,.fill 4 ⟨.t 29, none⟩⟩])
(.seq (.reg [⟨some 30,none,.mov (.t 0)⟩,⟨some 31,none,.nilchk (.t 30)⟩,⟨some 32,none,.faddr 2 (.t 31)⟩,⟨some 33,none,.load false 1 (.t 32)⟩,⟨some 34,none,.bin .sub (.t 33) (.c (j 1))⟩,⟨some 35,none,.nilchk (.t 30)⟩,⟨some 36,none,.faddr 2 (.t 35)⟩,⟨none,none,.store 1 (.t 36) (.t 34)⟩])
(.seq (.reg [⟨some 37,none,.load true 4 (.t 5)⟩,⟨none,none,.store 4 (.t 4) (.t 37)⟩])
(.ret)))))), [.cell 4 true 4], none⟩
theorem amok261 : FnOk Tryz.prog 261 am261 := FnOk.mk' quiets Tryz.func261 (pols := [(6, 2, .hole),(6, 3, .hole)]) (keep := none) (by kernel_rfl) rfl
end Go.AM.T
