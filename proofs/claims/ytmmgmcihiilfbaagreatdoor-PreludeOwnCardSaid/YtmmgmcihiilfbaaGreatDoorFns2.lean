/- The functions of the abstract machine are the program's. -/
import Derived.Test.YtmmgmcihiilfbaaGreatDoorProg
import Derived.Test.YtmmgmcihiilfbaaGreatDoorZs
import Derived.Test.YtmmgmcihiilfbaaGreatDoorQuiet
import Derived.KernelRfl
set_option linter.unusedVariables false
set_option maxRecDepth 100000
namespace Go.AM.T
open Go.Proofs
def am117 : AFunc := ⟨1, .seq (.reg [⟨some 1,none,.boxF 12 (.t 0)⟩,⟨some 2,none,.mov (.c (.bool false))⟩])
(.seq (.seq (.reg [⟨some 5,none,.faddr 0 (.t 1)⟩,⟨some 6,none,.load false 1 (.t 5)⟩,⟨some 7,none,.call (.c (.func 164 [] [])) [.t 6]⟩,⟨some 8,none,.un .not (.t 7)⟩,⟨some 9,none,.mov (.t 8)⟩,⟨some 10,some (9,false),.faddr 1 (.t 1)⟩,⟨some 11,some (9,false),.load false 1 (.t 10)⟩,⟨some 12,some (9,false),.len false (.t 11)⟩,⟨some 13,some (9,false),.bin .gtr (.t 12) (.c (j 8))⟩,⟨some 14,none,.pick (.t 9) (.c (.bool true)) (.t 13)⟩,⟨some 15,none,.mov (.t 14)⟩,⟨some 16,some (15,false),.faddr 2 (.t 1)⟩,⟨some 17,some (15,false),.faddr 0 (.t 16)⟩,⟨some 18,some (15,false),.load false 1 (.t 17)⟩,⟨some 19,some (15,false),.bin .eql (.t 18) (.c (j 0))⟩,⟨some 20,none,.pick (.t 15) (.c (.bool true)) (.t 19)⟩,⟨some 21,none,.mov (.t 20)⟩,⟨some 22,some (21,false),.faddr 2 (.t 1)⟩,⟨some 23,some (21,false),.faddr 0 (.t 22)⟩,⟨some 24,some (21,false),.load false 1 (.t 23)⟩,⟨some 25,some (21,false),.bin .eql (.t 24) (.c (j 11))⟩,⟨some 26,none,.pick (.t 21) (.c (.bool true)) (.t 25)⟩,⟨some 27,none,.mov (.t 26)⟩,⟨some 28,some (27,false),.faddr 2 (.t 1)⟩,⟨some 29,some (27,false),.faddr 0 (.t 28)⟩,⟨some 30,some (27,false),.load false 1 (.t 29)⟩,⟨some 31,some (27,false),.bin .eql (.t 30) (.c (j 14))⟩,⟨some 32,none,.pick (.t 27) (.c (.bool true)) (.t 31)⟩])
(.cond (.t 32) (.seq (.reg [⟨some 2,none,.mov (.c (.bool false))⟩])
(.ret)) (.skip)))
(.seq (.seq (.reg [⟨some 3,none,.mov (.c (j 0))⟩])
(.block 0 (.loop (.seq (.seq (.reg [⟨some 33,none,.mov (.t 3)⟩,⟨some 34,none,.faddr 1 (.t 1)⟩,⟨some 35,none,.load false 1 (.t 34)⟩,⟨some 36,none,.len false (.t 35)⟩,⟨some 37,none,.bin .lss (.t 33) (.t 36)⟩])
(.cond (.t 37) (.skip) (.exit 0)))
(.seq (.block 1 (.seq (.reg [⟨some 40,none,.faddr 1 (.t 1)⟩,⟨some 41,none,.load false 1 (.t 40)⟩,⟨some 42,none,.mov (.t 3)⟩,⟨some 43,none,.iaddr 1 (.t 41) (.t 42)⟩,⟨some 44,none,.load false 1 (.t 43)⟩,⟨some 4,none,.mov (.t 44)⟩])
(.seq (.reg [⟨some 45,none,.mov (.t 4)⟩,⟨some 46,none,.len true (.t 45)⟩,⟨some 47,none,.bin .gtr (.t 46) (.c (j 0))⟩,⟨some 48,none,.mov (.t 47)⟩,⟨some 49,some (48,true),.mov (.t 4)⟩,⟨some 50,some (48,true),.indexS (.t 49) (.c (j 0))⟩,⟨some 51,some (48,true),.bin .eql (.t 50) (.c (.int .u8 (.ofNat 36)))⟩,⟨some 52,none,.pick (.t 48) (.t 51) (.c (.bool false))⟩,⟨some 53,none,.mov (.t 52)⟩,⟨some 54,some (53,true),.mov (.t 4)⟩,⟨some 55,some (53,true),.sliceS (.t 54) (some (.c (j 1))) none⟩,⟨some 56,some (53,true),.call (.c (.func 163 [] [])) [.t 55]⟩,⟨some 57,some (53,true),.un .not (.t 56)⟩,⟨some 58,none,.pick (.t 53) (.t 57) (.c (.bool false))⟩,⟨some 59,none,.mov (.t 58)⟩,⟨some 60,some (59,false),.mov (.t 4)⟩,⟨some 61,some (59,false),.len true (.t 60)⟩,⟨some 62,some (59,false),.bin .eql (.t 61) (.c (j 0))⟩,⟨some 63,some (59,false),.mov (.t 62)⟩,⟨some 64,some (63,false),.mov (.t 4)⟩,⟨some 65,some (63,false),.indexS (.t 64) (.c (j 0))⟩,⟨some 66,some (63,false),.bin .neq (.t 65) (.c (.int .u8 (.ofNat 36)))⟩,⟨some 67,some (59,false),.pick (.t 63) (.c (.bool true)) (.t 66)⟩,⟨some 68,some (59,false),.mov (.t 67)⟩,⟨some 69,some (68,true),.mov (.t 4)⟩,⟨some 70,some (68,true),.call (.c (.func 164 [] [])) [.t 69]⟩,⟨some 71,some (68,true),.un .not (.t 70)⟩,⟨some 72,some (59,false),.pick (.t 68) (.t 71) (.c (.bool false))⟩,⟨some 73,none,.pick (.t 59) (.c (.bool true)) (.t 72)⟩])
(.cond (.t 73) (.seq (.reg [⟨some 2,none,.mov (.c (.bool false))⟩])
(.ret)) (.skip)))))
(.reg [⟨some 38,none,.mov (.t 3)⟩,⟨some 39,none,.bin .add (.t 38) (.c (j 1))⟩,⟨some 3,none,.mov (.t 39)⟩]))))))
(.seq (.reg [⟨some 2,none,.mov (.c (.bool true))⟩])
(.ret)))), [.tmp 2], none⟩
theorem amok117 : FnOk Tryz.prog 117 am117 := FnOk.mk' quiets Tryz.func117 (pols := [(0, 0, .frz)]) (keep := none) (by kernel_rfl) rfl
def am119 : AFunc := ⟨2, .seq (.reg [⟨some 4,none,.mov (.c (.str []))⟩])
(.seq (.reg [⟨some 6,none,.mov (.t 1)⟩,⟨some 5,none,.mov (.t 6)⟩])
(.seq (.block 0 (.loop (.seq (.seq (.reg [⟨some 7,none,.mov (.t 5)⟩,⟨some 8,none,.mov (.t 0)⟩,⟨some 9,none,.nilchk (.t 8)⟩,⟨some 10,none,.faddr 0 (.t 9)⟩,⟨some 11,none,.load false 1 (.t 10)⟩,⟨some 12,none,.len true (.t 11)⟩,⟨some 13,none,.bin .lss (.t 7) (.t 12)⟩,⟨some 14,none,.mov (.t 13)⟩,⟨some 15,some (14,true),.mov (.t 0)⟩,⟨some 16,some (14,true),.nilchk (.t 15)⟩,⟨some 17,some (14,true),.faddr 0 (.t 16)⟩,⟨some 18,some (14,true),.load false 1 (.t 17)⟩,⟨some 19,some (14,true),.mov (.t 5)⟩,⟨some 20,some (14,true),.indexS (.t 18) (.t 19)⟩,⟨some 21,some (14,true),.call (.c (.func 121 [] [])) [.t 20]⟩,⟨some 22,none,.pick (.t 14) (.t 21) (.c (.bool false))⟩])
(.cond (.t 22) (.skip) (.exit 0)))
(.block 1 (.reg [⟨some 23,none,.mov (.t 5)⟩,⟨some 24,none,.bin .add (.t 23) (.c (j 1))⟩,⟨some 5,none,.mov (.t 24)⟩])))))
(.seq (.reg [⟨some 25,none,.mov (.t 0)⟩,⟨some 26,none,.nilchk (.t 25)⟩,⟨some 27,none,.faddr 0 (.t 26)⟩,⟨some 28,none,.load false 1 (.t 27)⟩,⟨some 29,none,.mov (.t 1)⟩,⟨some 30,none,.mov (.t 5)⟩,⟨some 31,none,.sliceS (.t 28) (some (.t 29)) (some (.t 30))⟩,⟨some 4,none,.mov (.t 31)⟩])
(.ret)))), [.tmp 4], none⟩
theorem amok119 : FnOk Tryz.prog 119 am119 := FnOk.mk' quiets Tryz.func119 (pols := []) (keep := none) (by kernel_rfl) rfl
def am120 : AFunc := ⟨2, .seq (.reg [⟨some 4,none,.mov (.c (j 0))⟩,⟨some 5,none,.mov (.c (.bool false))⟩])
(.seq (.seq (.reg [⟨some 6,none,.mov (.t 1)⟩,⟨some 7,none,.mov (.t 0)⟩,⟨some 8,none,.len true (.t 7)⟩,⟨some 9,none,.bin .lss (.t 6) (.t 8)⟩,⟨some 10,none,.mov (.t 9)⟩,⟨some 11,some (10,true),.mov (.t 0)⟩,⟨some 12,some (10,true),.mov (.t 1)⟩,⟨some 13,some (10,true),.indexS (.t 11) (.t 12)⟩,⟨some 14,some (10,true),.bin .eql (.t 13) (.c (.int .u8 (.ofNat 45)))⟩,⟨some 15,none,.pick (.t 10) (.t 14) (.c (.bool false))⟩])
(.cond (.t 15) (.reg [⟨some 16,none,.mov (.t 1)⟩,⟨some 17,none,.bin .add (.t 16) (.c (j 1))⟩,⟨some 1,none,.mov (.t 17)⟩]) (.skip)))
(.seq (.seq (.reg [⟨some 18,none,.mov (.t 0)⟩,⟨some 19,none,.mov (.t 1)⟩,⟨some 20,none,.call (.c (.func 166 [] [])) [.t 18,.t 19]⟩,⟨some 21,none,.un .not (.t 20)⟩])
(.cond (.t 21) (.seq (.reg [⟨some 22,none,.mov (.t 1)⟩,⟨some 4,none,.mov (.t 22)⟩,⟨some 5,none,.mov (.c (.bool false))⟩])
(.ret)) (.skip)))
(.seq (.seq (.reg [⟨some 23,none,.mov (.t 0)⟩,⟨some 24,none,.mov (.t 1)⟩,⟨some 25,none,.indexS (.t 23) (.t 24)⟩,⟨some 26,none,.bin .eql (.t 25) (.c (.int .u8 (.ofNat 48)))⟩])
(.cond (.t 26) (.reg [⟨some 27,none,.mov (.t 1)⟩,⟨some 28,none,.bin .add (.t 27) (.c (j 1))⟩,⟨some 1,none,.mov (.t 28)⟩]) (.block 0 (.loop (.seq (.seq (.reg [⟨some 29,none,.mov (.t 0)⟩,⟨some 30,none,.mov (.t 1)⟩,⟨some 31,none,.call (.c (.func 166 [] [])) [.t 29,.t 30]⟩])
(.cond (.t 31) (.skip) (.exit 0)))
(.block 1 (.reg [⟨some 32,none,.mov (.t 1)⟩,⟨some 33,none,.bin .add (.t 32) (.c (j 1))⟩,⟨some 1,none,.mov (.t 33)⟩])))))))
(.seq (.seq (.reg [⟨some 34,none,.mov (.t 1)⟩,⟨some 35,none,.mov (.t 0)⟩,⟨some 36,none,.len true (.t 35)⟩,⟨some 37,none,.bin .lss (.t 34) (.t 36)⟩,⟨some 38,none,.mov (.t 37)⟩,⟨some 39,some (38,true),.mov (.t 0)⟩,⟨some 40,some (38,true),.mov (.t 1)⟩,⟨some 41,some (38,true),.indexS (.t 39) (.t 40)⟩,⟨some 42,some (38,true),.bin .eql (.t 41) (.c (.int .u8 (.ofNat 46)))⟩,⟨some 43,none,.pick (.t 38) (.t 42) (.c (.bool false))⟩])
(.cond (.t 43) (.seq (.reg [⟨some 44,none,.mov (.t 1)⟩,⟨some 45,none,.bin .add (.t 44) (.c (j 1))⟩,⟨some 1,none,.mov (.t 45)⟩])
(.seq (.seq (.reg [⟨some 46,none,.mov (.t 0)⟩,⟨some 47,none,.mov (.t 1)⟩,⟨some 48,none,.call (.c (.func 166 [] [])) [.t 46,.t 47]⟩,⟨some 49,none,.un .not (.t 48)⟩])
(.cond (.t 49) (.seq (.reg [⟨some 50,none,.mov (.t 1)⟩,⟨some 4,none,.mov (.t 50)⟩,⟨some 5,none,.mov (.c (.bool false))⟩])
(.ret)) (.skip)))
(.block 2 (.loop (.seq (.seq (.reg [⟨some 51,none,.mov (.t 0)⟩,⟨some 52,none,.mov (.t 1)⟩,⟨some 53,none,.call (.c (.func 166 [] [])) [.t 51,.t 52]⟩])
(.cond (.t 53) (.skip) (.exit 2)))
(.block 3 (.reg [⟨some 54,none,.mov (.t 1)⟩,⟨some 55,none,.bin .add (.t 54) (.c (j 1))⟩,⟨some 1,none,.mov (.t 55)⟩]))))))) (.skip)))
(.seq (.seq (.reg [⟨some 56,none,.mov (.t 1)⟩,⟨some 57,none,.mov (.t 0)⟩,⟨some 58,none,.len true (.t 57)⟩,⟨some 59,none,.bin .lss (.t 56) (.t 58)⟩,⟨some 60,none,.mov (.t 59)⟩,⟨some 61,some (60,true),.mov (.t 0)⟩,⟨some 62,some (60,true),.mov (.t 1)⟩,⟨some 63,some (60,true),.indexS (.t 61) (.t 62)⟩,⟨some 64,some (60,true),.bin .eql (.t 63) (.c (.int .u8 (.ofNat 101)))⟩,⟨some 65,some (60,true),.mov (.t 64)⟩,⟨some 66,some (65,false),.mov (.t 0)⟩,⟨some 67,some (65,false),.mov (.t 1)⟩,⟨some 68,some (65,false),.indexS (.t 66) (.t 67)⟩,⟨some 69,some (65,false),.bin .eql (.t 68) (.c (.int .u8 (.ofNat 69)))⟩,⟨some 70,some (60,true),.pick (.t 65) (.c (.bool true)) (.t 69)⟩,⟨some 71,none,.pick (.t 60) (.t 70) (.c (.bool false))⟩])
(.cond (.t 71) (.seq (.reg [⟨some 72,none,.mov (.t 1)⟩,⟨some 73,none,.bin .add (.t 72) (.c (j 1))⟩,⟨some 1,none,.mov (.t 73)⟩])
(.seq (.seq (.reg [⟨some 74,none,.mov (.t 1)⟩,⟨some 75,none,.mov (.t 0)⟩,⟨some 76,none,.len true (.t 75)⟩,⟨some 77,none,.bin .lss (.t 74) (.t 76)⟩,⟨some 78,none,.mov (.t 77)⟩,⟨some 79,some (78,true),.mov (.t 0)⟩,⟨some 80,some (78,true),.mov (.t 1)⟩,⟨some 81,some (78,true),.indexS (.t 79) (.t 80)⟩,⟨some 82,some (78,true),.bin .eql (.t 81) (.c (.int .u8 (.ofNat 43)))⟩,⟨some 83,some (78,true),.mov (.t 82)⟩,⟨some 84,some (83,false),.mov (.t 0)⟩,⟨some 85,some (83,false),.mov (.t 1)⟩,⟨some 86,some (83,false),.indexS (.t 84) (.t 85)⟩,⟨some 87,some (83,false),.bin .eql (.t 86) (.c (.int .u8 (.ofNat 45)))⟩,⟨some 88,some (78,true),.pick (.t 83) (.c (.bool true)) (.t 87)⟩,⟨some 89,none,.pick (.t 78) (.t 88) (.c (.bool false))⟩])
(.cond (.t 89) (.reg [⟨some 90,none,.mov (.t 1)⟩,⟨some 91,none,.bin .add (.t 90) (.c (j 1))⟩,⟨some 1,none,.mov (.t 91)⟩]) (.skip)))
(.seq (.seq (.reg [⟨some 92,none,.mov (.t 0)⟩,⟨some 93,none,.mov (.t 1)⟩,⟨some 94,none,.call (.c (.func 166 [] [])) [.t 92,.t 93]⟩,⟨some 95,none,.un .not (.t 94)⟩])
(.cond (.t 95) (.seq (.reg [⟨some 96,none,.mov (.t 1)⟩,⟨some 4,none,.mov (.t 96)⟩,⟨some 5,none,.mov (.c (.bool false))⟩])
(.ret)) (.skip)))
(.block 4 (.loop (.seq (.seq (.reg [⟨some 97,none,.mov (.t 0)⟩,⟨some 98,none,.mov (.t 1)⟩,⟨some 99,none,.call (.c (.func 166 [] [])) [.t 97,.t 98]⟩])
(.cond (.t 99) (.skip) (.exit 4)))
(.block 5 (.reg [⟨some 100,none,.mov (.t 1)⟩,⟨some 101,none,.bin .add (.t 100) (.c (j 1))⟩,⟨some 1,none,.mov (.t 101)⟩])))))))) (.skip)))
(.seq (.reg [⟨some 102,none,.mov (.t 1)⟩,⟨some 4,none,.mov (.t 102)⟩,⟨some 5,none,.mov (.c (.bool true))⟩])
(.ret))))))), [.tmp 4,.tmp 5], none⟩
theorem amok120 : FnOk Tryz.prog 120 am120 := FnOk.mk' quiets Tryz.func120 (pols := []) (keep := none) (by kernel_rfl) rfl
def am121 : AFunc := ⟨1, .seq (.reg [⟨some 2,none,.mov (.c (.bool false))⟩])
(.seq (.reg [⟨some 3,none,.mov (.t 0)⟩,⟨some 4,none,.call (.c (.func 77 [] [])) [.t 3]⟩,⟨some 5,none,.mov (.t 4)⟩,⟨some 6,some (5,false),.mov (.t 0)⟩,⟨some 7,some (5,false),.bin .geq (.t 6) (.c (.int .u8 (.ofNat 48)))⟩,⟨some 8,some (5,false),.mov (.t 7)⟩,⟨some 9,some (8,true),.mov (.t 0)⟩,⟨some 10,some (8,true),.bin .leq (.t 9) (.c (.int .u8 (.ofNat 57)))⟩,⟨some 11,some (5,false),.pick (.t 8) (.t 10) (.c (.bool false))⟩,⟨some 12,none,.pick (.t 5) (.c (.bool true)) (.t 11)⟩,⟨some 2,none,.mov (.t 12)⟩])
(.ret)), [.tmp 2], none⟩
theorem amok121 : FnOk Tryz.prog 121 am121 := FnOk.mk' quiets Tryz.func121 (pols := []) (keep := none) (by kernel_rfl) rfl
def am122 : AFunc := ⟨1, .seq (.reg [⟨some 2,none,.allocB z14 []⟩,⟨some 3,none,.mov (.c (j 0))⟩])
(.seq (.reg [⟨some 14,none,.mov (.t 0)⟩,⟨some 15,none,.call (.c (.func 120 [] [])) [.t 14,.c (j 0)]⟩,⟨some 13,none,.mov (.t 15)⟩,⟨some 16,none,.extract (.t 13) 0⟩,⟨some 17,none,.extract (.t 13) 1⟩,⟨some 4,none,.mov (.t 16)⟩,⟨some 5,none,.mov (.t 17)⟩])
(.seq (.block 0 (.seq (.reg [⟨some 19,none,.mov (.t 5)⟩,⟨some 20,none,.un .not (.t 19)⟩,⟨some 21,none,.mov (.t 20)⟩,⟨some 22,some (21,false),.mov (.t 4)⟩,⟨some 23,some (21,false),.mov (.t 0)⟩,⟨some 24,some (21,false),.len true (.t 23)⟩,⟨some 25,some (21,false),.bin .neq (.t 22) (.t 24)⟩,⟨some 26,none,.pick (.t 21) (.c (.bool true)) (.t 25)⟩,⟨some 18,none,.mov (.t 26)⟩])
(.cond (.t 18) (.seq (.reg [⟨some 27,none,.build z14 []⟩,⟨none,none,.store 3 (.t 2) (.t 27)⟩,⟨some 3,none,.mov (.c (j 32))⟩])
(.ret)) (.seq (.reg [⟨some 29,none,.mov (.t 0)⟩,⟨some 30,none,.len true (.t 29)⟩,⟨some 31,none,.bin .gtr (.t 30) (.c (j 2000))⟩,⟨some 28,none,.mov (.t 31)⟩])
(.cond (.t 28) (.seq (.reg [⟨some 32,none,.build z14 []⟩,⟨none,none,.store 3 (.t 2) (.t 32)⟩,⟨some 3,none,.mov (.c (j 5))⟩])
(.ret)) (.skip))))))
(.seq (.reg [⟨some 33,none,.mov (.t 0)⟩,⟨some 34,none,.indexS (.t 33) (.c (j 0))⟩,⟨some 35,none,.bin .eql (.t 34) (.c (.int .u8 (.ofNat 45)))⟩,⟨some 36,none,.build z14 [(0,1,.t 35)]⟩,⟨some 6,none,.hole 3⟩,⟨some 6,none,.fill 3 ⟨.t 36, (some [(1,1)])⟩⟩])
(.seq (.reg [⟨some 7,none,.resv 1⟩])
(.seq (.reg [⟨some 8,none,.mov (.c (.bool false))⟩])
(.seq (.reg [⟨some 9,none,.mov (.c (j 0))⟩])
(.seq (.block 1 (.loop (.seq (.seq (.reg [⟨some 37,none,.mov (.t 9)⟩,⟨some 38,none,.mov (.t 0)⟩,⟨some 39,none,.len true (.t 38)⟩,⟨some 40,none,.bin .lss (.t 37) (.t 39)⟩,⟨some 41,none,.mov (.t 40)⟩,⟨some 42,some (41,true),.mov (.t 0)⟩,⟨some 43,some (41,true),.mov (.t 9)⟩,⟨some 44,some (41,true),.indexS (.t 42) (.t 43)⟩,⟨some 45,some (41,true),.bin .neq (.t 44) (.c (.int .u8 (.ofNat 101)))⟩,⟨some 46,none,.pick (.t 41) (.t 45) (.c (.bool false))⟩,⟨some 47,none,.mov (.t 46)⟩,⟨some 48,some (47,true),.mov (.t 0)⟩,⟨some 49,some (47,true),.mov (.t 9)⟩,⟨some 50,some (47,true),.indexS (.t 48) (.t 49)⟩,⟨some 51,some (47,true),.bin .neq (.t 50) (.c (.int .u8 (.ofNat 69)))⟩,⟨some 52,none,.pick (.t 47) (.t 51) (.c (.bool false))⟩])
(.cond (.t 52) (.skip) (.exit 1)))
(.seq (.block 2 (.block 3 (.seq (.reg [⟨some 56,none,.mov (.t 0)⟩,⟨some 57,none,.mov (.t 9)⟩,⟨some 58,none,.indexS (.t 56) (.t 57)⟩,⟨some 59,none,.bin .eql (.t 58) (.c (.int .u8 (.ofNat 46)))⟩,⟨some 55,none,.mov (.t 59)⟩])
(.cond (.t 55) (.reg [⟨some 8,none,.mov (.c (.bool true))⟩]) (.seq (.reg [⟨some 61,none,.mov (.t 0)⟩,⟨some 62,none,.mov (.t 9)⟩,⟨some 63,none,.indexS (.t 61) (.t 62)⟩,⟨some 64,none,.bin .neq (.t 63) (.c (.int .u8 (.ofNat 45)))⟩,⟨some 60,none,.mov (.t 64)⟩])
(.cond (.t 60) (.seq (.reg [⟨some 65,none,.mov (.t 0)⟩,⟨some 66,none,.mov (.t 9)⟩,⟨some 67,none,.indexS (.t 65) (.t 66)⟩,⟨some 68,none,.bin .sub (.t 67) (.c (.int .u8 (.ofNat 48)))⟩,⟨some 69,none,.convI .i64 (.t 68)⟩,⟨some 70,none,.bslR 1 [j 0] 1 [(0,1,.t 69)]⟩,⟨some 71,none,.mov (.t 7)⟩,⟨some 72,none,.append 1 8 (.t 70) (.t 71)⟩,⟨some 7,none,.mov (.t 72)⟩])
(.seq (.reg [⟨some 73,none,.mov (.t 8)⟩])
(.cond (.t 73) (.reg [⟨some 74,none,.faddr 2 (.t 6)⟩,⟨some 75,none,.load false 1 (.t 74)⟩,⟨some 76,none,.bin .sub (.t 75) (.c (j 1))⟩,⟨some 77,none,.faddr 2 (.t 6)⟩,⟨none,none,.store 1 (.t 77) (.t 76)⟩]) (.skip)))) (.skip)))))))
(.reg [⟨some 53,none,.mov (.t 9)⟩,⟨some 54,none,.bin .add (.t 53) (.c (j 1))⟩,⟨some 9,none,.mov (.t 54)⟩])))))
(.seq (.seq (.reg [⟨some 78,none,.mov (.t 9)⟩,⟨some 79,none,.mov (.t 0)⟩,⟨some 80,none,.len true (.t 79)⟩,⟨some 81,none,.bin .lss (.t 78) (.t 80)⟩])
(.cond (.t 81) (.seq (.reg [⟨some 10,none,.mov (.c (.bool false))⟩,⟨some 11,none,.mov (.c (j 0))⟩,⟨some 12,none,.mov (.c (j 0))⟩])
(.seq (.seq (.reg [⟨some 82,none,.mov (.t 9)⟩,⟨some 83,none,.bin .add (.t 82) (.c (j 1))⟩,⟨some 9,none,.mov (.t 83)⟩])
(.block 4 (.loop (.seq (.seq (.reg [⟨some 84,none,.mov (.t 9)⟩,⟨some 85,none,.mov (.t 0)⟩,⟨some 86,none,.len true (.t 85)⟩,⟨some 87,none,.bin .lss (.t 84) (.t 86)⟩])
(.cond (.t 87) (.skip) (.exit 4)))
(.seq (.block 5 (.block 6 (.seq (.reg [⟨some 91,none,.mov (.t 0)⟩,⟨some 92,none,.mov (.t 9)⟩,⟨some 93,none,.indexS (.t 91) (.t 92)⟩,⟨some 94,none,.bin .eql (.t 93) (.c (.int .u8 (.ofNat 45)))⟩,⟨some 90,none,.mov (.t 94)⟩])
(.cond (.t 90) (.reg [⟨some 10,none,.mov (.c (.bool true))⟩]) (.seq (.reg [⟨some 96,none,.mov (.t 0)⟩,⟨some 97,none,.mov (.t 9)⟩,⟨some 98,none,.indexS (.t 96) (.t 97)⟩,⟨some 99,none,.bin .neq (.t 98) (.c (.int .u8 (.ofNat 43)))⟩,⟨some 95,none,.mov (.t 99)⟩])
(.cond (.t 95) (.seq (.seq (.reg [⟨some 100,none,.mov (.t 11)⟩,⟨some 101,none,.bin .gtr (.t 100) (.c (j 0))⟩,⟨some 102,none,.mov (.t 101)⟩,⟨some 103,some (102,false),.mov (.t 0)⟩,⟨some 104,some (102,false),.mov (.t 9)⟩,⟨some 105,some (102,false),.indexS (.t 103) (.t 104)⟩,⟨some 106,some (102,false),.bin .neq (.t 105) (.c (.int .u8 (.ofNat 48)))⟩,⟨some 107,none,.pick (.t 102) (.c (.bool true)) (.t 106)⟩])
(.cond (.t 107) (.reg [⟨some 108,none,.mov (.t 12)⟩,⟨some 109,none,.bin .add (.t 108) (.c (j 1))⟩,⟨some 12,none,.mov (.t 109)⟩]) (.skip)))
(.seq (.seq (.reg [⟨some 110,none,.mov (.t 12)⟩,⟨some 111,none,.bin .gtr (.t 110) (.c (j 6))⟩])
(.cond (.t 111) (.seq (.reg [⟨some 112,none,.build z14 []⟩,⟨none,none,.store 3 (.t 2) (.t 112)⟩,⟨some 3,none,.mov (.c (j 52))⟩])
(.ret)) (.skip)))
(.reg [⟨some 113,none,.mov (.t 11)⟩,⟨some 114,none,.bin .mul (.c (j 10)) (.t 113)⟩,⟨some 115,none,.mov (.t 0)⟩,⟨some 116,none,.mov (.t 9)⟩,⟨some 117,none,.indexS (.t 115) (.t 116)⟩,⟨some 118,none,.bin .sub (.t 117) (.c (.int .u8 (.ofNat 48)))⟩,⟨some 119,none,.convI .i64 (.t 118)⟩,⟨some 120,none,.bin .add (.t 114) (.t 119)⟩,⟨some 11,none,.mov (.t 120)⟩]))) (.skip)))))))
(.reg [⟨some 88,none,.mov (.t 9)⟩,⟨some 89,none,.bin .add (.t 88) (.c (j 1))⟩,⟨some 9,none,.mov (.t 89)⟩]))))))
(.seq (.seq (.reg [⟨some 121,none,.mov (.t 10)⟩])
(.cond (.t 121) (.reg [⟨some 122,none,.mov (.t 11)⟩,⟨some 123,none,.un .neg (.t 122)⟩,⟨some 11,none,.mov (.t 123)⟩]) (.skip)))
(.reg [⟨some 124,none,.faddr 2 (.t 6)⟩,⟨some 125,none,.load false 1 (.t 124)⟩,⟨some 126,none,.mov (.t 11)⟩,⟨some 127,none,.bin .add (.t 125) (.t 126)⟩,⟨some 128,none,.faddr 2 (.t 6)⟩,⟨none,none,.store 1 (.t 128) (.t 127)⟩])))) (.skip)))
(.seq (.reg [⟨some 129,none,.mov (.t 7)⟩,⟨some 130,none,.faddr 1 (.t 6)⟩,⟨none,none,.store 1 (.t 130) (.t 129)⟩])
(.seq (.reg [⟨some 131,none,.load true 3 (.t 6)⟩,⟨some 132,none,.call (.c (.func 167 [] [])) [.t 131]⟩,⟨some 133,none,.extract (.t 132) 0⟩,⟨some 134,none,.extract (.t 132) 1⟩,⟨none,none,.store 3 (.t 2) (.t 133)⟩,⟨some 3,none,.mov (.t 134)⟩])
(.ret))))))))))), [.cell 2 true 3,.tmp 3], none⟩
theorem amok122 : FnOk Tryz.prog 122 am122 := FnOk.mk' quiets Tryz.func122 (pols := [(6, 5, .res [(1,1)]),(6, 4, .hole),(7, 0, .res [(0,1)])]) (keep := none) (by kernel_rfl) rfl
def am123 : AFunc := ⟨3, .seq (.seq (.reg [⟨some 6,none,.mov (.t 1)⟩,⟨some 7,none,.len false (.t 6)⟩,⟨some 8,none,.bin .gtr (.t 7) (.c (j 16384))⟩])
(.cond (.t 8) (.reg [⟨some 9,none,.mov (.t 0)⟩,⟨some 10,none,.mov (.t 2)⟩,⟨some 11,none,.call (.c (.func 57 [] [])) [.t 9,.t 10,.c (j 5)]⟩]) (.skip)))
(.seq (.reg [⟨some 12,none,.mov (.t 1)⟩,⟨some 13,none,.len false (.t 12)⟩,⟨some 14,none,.bin .gtr (.t 13) (.c (j 0))⟩])
(.cond (.t 14) (.reg [⟨some 15,none,.mov (.t 0)⟩,⟨some 16,none,.mov (.t 1)⟩,⟨some 17,none,.convBS (.t 16)⟩,⟨some 18,none,.mov (.t 2)⟩,⟨some 19,none,.build z13 [(0,1,.c (j 8)),(1,1,.t 17),(5,1,.t 18)]⟩,⟨some 20,none,.call (.c (.func 80 [] [])) [.t 15,.t 19]⟩]) (.skip))), [], none⟩
theorem amok123 : FnOk Tryz.prog 123 am123 := FnOk.mk' quiets Tryz.func123 (pols := []) (keep := none) (by kernel_rfl) rfl
def am125 : AFunc := ⟨1, .seq (.reg [⟨some 2,none,.mov (.c (j 0))⟩,⟨some 3,none,.mov (.c (j 0))⟩])
(.seq (.seq (.reg [⟨some 8,none,.mov (.t 0)⟩,⟨some 9,none,.len true (.t 8)⟩,⟨some 10,none,.bin .eql (.t 9) (.c (j 0))⟩])
(.cond (.t 10) (.seq (.reg [⟨some 2,none,.mov (.c (j 0))⟩,⟨some 3,none,.mov (.c (j 0))⟩])
(.ret)) (.skip)))
(.seq (.reg [⟨some 11,none,.mov (.t 0)⟩,⟨some 12,none,.indexS (.t 11) (.c (j 0))⟩,⟨some 13,none,.convI .i64 (.t 12)⟩,⟨some 4,none,.mov (.t 13)⟩])
(.seq (.reg [⟨some 14,none,.mov (.t 4)⟩,⟨some 5,none,.mov (.t 14)⟩,⟨some 6,none,.mov (.c (j 1))⟩])
(.seq (.block 0 (.seq (.reg [⟨some 16,none,.mov (.t 4)⟩,⟨some 17,none,.bin .geq (.t 16) (.c (j 240))⟩,⟨some 15,none,.mov (.t 17)⟩])
(.cond (.t 15) (.reg [⟨some 18,none,.mov (.t 4)⟩,⟨some 19,none,.bin .sub (.t 18) (.c (j 240))⟩,⟨some 5,none,.mov (.t 19)⟩,⟨some 6,none,.mov (.c (j 4))⟩]) (.seq (.reg [⟨some 21,none,.mov (.t 4)⟩,⟨some 22,none,.bin .geq (.t 21) (.c (j 224))⟩,⟨some 20,none,.mov (.t 22)⟩])
(.cond (.t 20) (.reg [⟨some 23,none,.mov (.t 4)⟩,⟨some 24,none,.bin .sub (.t 23) (.c (j 224))⟩,⟨some 5,none,.mov (.t 24)⟩,⟨some 6,none,.mov (.c (j 3))⟩]) (.seq (.reg [⟨some 26,none,.mov (.t 4)⟩,⟨some 27,none,.bin .geq (.t 26) (.c (j 192))⟩,⟨some 25,none,.mov (.t 27)⟩])
(.cond (.t 25) (.reg [⟨some 28,none,.mov (.t 4)⟩,⟨some 29,none,.bin .sub (.t 28) (.c (j 192))⟩,⟨some 5,none,.mov (.t 29)⟩,⟨some 6,none,.mov (.c (j 2))⟩]) (.skip))))))))
(.seq (.seq (.reg [⟨some 30,none,.mov (.t 0)⟩,⟨some 31,none,.len true (.t 30)⟩,⟨some 32,none,.mov (.t 6)⟩,⟨some 33,none,.bin .lss (.t 31) (.t 32)⟩])
(.cond (.t 33) (.seq (.reg [⟨some 2,none,.mov (.c (j 0))⟩,⟨some 3,none,.mov (.c (j 0))⟩])
(.ret)) (.skip)))
(.seq (.seq (.reg [⟨some 7,none,.mov (.c (j 1))⟩])
(.block 1 (.loop (.seq (.seq (.reg [⟨some 34,none,.mov (.t 7)⟩,⟨some 35,none,.mov (.t 6)⟩,⟨some 36,none,.bin .lss (.t 34) (.t 35)⟩])
(.cond (.t 36) (.skip) (.exit 1)))
(.seq (.block 2 (.reg [⟨some 39,none,.mov (.t 5)⟩,⟨some 40,none,.bin .mul (.t 39) (.c (j 64))⟩,⟨some 41,none,.mov (.t 0)⟩,⟨some 42,none,.mov (.t 7)⟩,⟨some 43,none,.indexS (.t 41) (.t 42)⟩,⟨some 44,none,.convI .i64 (.t 43)⟩,⟨some 45,none,.bin .rem (.t 44) (.c (j 64))⟩,⟨some 46,none,.bin .add (.t 40) (.t 45)⟩,⟨some 5,none,.mov (.t 46)⟩]))
(.reg [⟨some 37,none,.mov (.t 7)⟩,⟨some 38,none,.bin .add (.t 37) (.c (j 1))⟩,⟨some 7,none,.mov (.t 38)⟩]))))))
(.seq (.seq (.dreg [(⟨some 47,none,.mov (.t 5)⟩,0,0),(⟨some 48,none,.call (.c (.func 170 [] [])) [.t 47]⟩,0,0),(⟨some 49,none,.un .not (.t 48)⟩,0,0),(⟨some 50,none,.mov (.t 49)⟩,0,0),(⟨some 51,some (50,false),.mov (.t 5)⟩,0,0),(⟨some 52,some (50,false),.call (.c (.func 169 [] [])) [.t 51]⟩,0,0),(⟨some 53,some (50,false),.convBS (.t 52)⟩,6,0),(⟨some 54,some (50,false),.mov (.t 0)⟩,0,0),(⟨some 55,some (50,false),.mov (.t 6)⟩,0,0),(⟨some 56,some (50,false),.sliceS (.t 54) none (some (.t 55))⟩,0,0),(⟨some 57,some (50,false),.bin .neq (.t 53) (.t 56)⟩,0,0),(⟨some 58,none,.pick (.t 50) (.c (.bool true)) (.t 57)⟩,0,0)])
(.cond (.t 58) (.seq (.reg [⟨some 2,none,.mov (.c (j 0))⟩,⟨some 3,none,.mov (.c (j 0))⟩])
(.ret)) (.skip)))
(.seq (.reg [⟨some 59,none,.mov (.t 5)⟩,⟨some 60,none,.mov (.t 6)⟩,⟨some 2,none,.mov (.t 59)⟩,⟨some 3,none,.mov (.t 60)⟩])
(.ret))))))))), [.tmp 2,.tmp 3], none⟩
theorem amok125 : FnOk Tryz.prog 125 am125 := FnOk.mk' quiets Tryz.func125 (pols := []) (keep := none) (by kernel_rfl) rfl
def am127 : AFunc := ⟨1, .seq (.reg [⟨some 2,none,.allocB z1 []⟩])
(.seq (.reg [⟨some 4,none,.mov (.t 0)⟩,⟨some 5,none,.call (.c (.func 171 [] [])) [.t 4]⟩,⟨some 6,none,.build z1 [(0,1,.t 5)]⟩,⟨some 3,none,.hole 12⟩,⟨some 3,none,.fill 12 ⟨.t 6, (some [(1,1)])⟩⟩])
(.seq (.seq (.reg [⟨some 7,none,.mov (.t 0)⟩,⟨some 8,none,.call (.c (.func 91 [] [])) [.t 7,.c (j 4),.c (.str [40])]⟩])
(.cond (.t 8) (.seq (.block 0 (.loop (.seq (.seq (.reg [⟨some 9,none,.mov (.t 0)⟩,⟨some 10,none,.nilchk (.t 9)⟩,⟨some 11,none,.faddr 4 (.t 10)⟩,⟨some 12,none,.load false 1 (.t 11)⟩,⟨some 13,none,.bin .eql (.t 12) (.c (j 0))⟩])
(.cond (.t 13) (.skip) (.exit 0)))
(.block 1 (.seq (.seq (.reg [⟨some 14,none,.faddr 1 (.t 3)⟩,⟨some 15,none,.load false 1 (.t 14)⟩,⟨some 16,none,.len false (.t 15)⟩,⟨some 17,none,.bin .eql (.t 16) (.c (j 8))⟩])
(.cond (.t 17) (.reg [⟨some 18,none,.mov (.t 0)⟩,⟨some 19,none,.call (.c (.func 61 [] [])) [.t 18,.c (j 3)]⟩]) (.skip)))
(.seq (.seq (.reg [⟨some 20,none,.mov (.t 0)⟩,⟨some 21,none,.call (.c (.func 172 [] [])) [.t 20]⟩,⟨some 22,none,.bin .eql (.t 21) (.c (j 5))⟩])
(.cond (.t 22) (.dreg [(⟨some 23,none,.faddr 1 (.t 3)⟩,0,0),(⟨some 24,none,.load false 1 (.t 23)⟩,1,4),(⟨some 25,none,.mov (.t 0)⟩,0,0),(⟨some 26,none,.call (.c (.func 129 [] [])) [.t 25,.c (j 5)]⟩,0,0),(⟨some 27,none,.bin .add (.c (.str [36])) (.t 26)⟩,0,0),(⟨some 28,none,.bslF [.str []] 1 [(0,1,.t 27)]⟩,0,0),(⟨some 29,none,.append 1 16 (.t 24) (.t 28)⟩,0,0),(⟨some 30,none,.faddr 1 (.t 3)⟩,0,0),(⟨none,none,.store 1 (.t 30) (.t 29)⟩,0,0)]) (.dreg [(⟨some 31,none,.faddr 1 (.t 3)⟩,0,0),(⟨some 32,none,.load false 1 (.t 31)⟩,1,4),(⟨some 33,none,.mov (.t 0)⟩,0,0),(⟨some 34,none,.call (.c (.func 171 [] [])) [.t 33]⟩,0,0),(⟨some 35,none,.bslF [.str []] 1 [(0,1,.t 34)]⟩,0,0),(⟨some 36,none,.append 1 16 (.t 32) (.t 35)⟩,0,0),(⟨some 37,none,.faddr 1 (.t 3)⟩,0,0),(⟨none,none,.store 1 (.t 37) (.t 36)⟩,0,0)])))
(.seq (.reg [⟨some 38,none,.mov (.t 0)⟩,⟨some 39,none,.call (.c (.func 91 [] [])) [.t 38,.c (j 4),.c (.str [59])]⟩,⟨some 40,none,.un .not (.t 39)⟩])
(.cond (.t 40) (.exit 0) (.skip)))))))))
(.reg [⟨some 41,none,.mov (.t 0)⟩,⟨some 42,none,.call (.c (.func 130 [] [])) [.t 41,.c (j 4),.c (.str [41])]⟩])) (.skip)))
(.seq (.reg [⟨some 43,none,.mov (.t 0)⟩,⟨some 44,none,.call (.c (.func 130 [] [])) [.t 43,.c (j 4),.c (.str [58])]⟩])
(.seq (.reg [⟨some 45,none,.mov (.t 0)⟩,⟨some 46,none,.call (.c (.func 59 [] [])) [.t 45]⟩,⟨some 47,none,.faddr 2 (.t 3)⟩,⟨none,none,.store 10 (.t 47) (.t 46)⟩])
(.seq (.reg [⟨some 48,none,.mov (.t 0)⟩,⟨some 49,none,.call (.c (.func 130 [] [])) [.t 48,.c (j 4),.c (.str [59])]⟩])
(.seq (.reg [⟨some 50,none,.load true 12 (.t 3)⟩,⟨none,none,.store 12 (.t 2) (.t 50)⟩])
(.ret))))))), [.cell 2 true 12], none⟩
theorem amok127 : FnOk Tryz.prog 127 am127 := FnOk.mk' quiets Tryz.func127 (pols := [(1, 4, .res [(1,1)]),(1, 3, .hole),(7, 5, .frz),(8, 4, .frz)]) (keep := none) (by kernel_rfl) rfl
def am128 : AFunc := ⟨1, .seq (.reg [⟨some 2,none,.allocB z0 []⟩])
(.seq (.seq (.dreg [(⟨some 3,none,.mov (.t 0)⟩,0,0),(⟨some 4,none,.nilchk (.t 3)⟩,0,0),(⟨some 5,none,.faddr 4 (.t 4)⟩,0,0),(⟨some 6,none,.load false 1 (.t 5)⟩,3,0),(⟨some 7,none,.bin .eql (.t 6) (.c (j 0))⟩,0,0),(⟨some 8,none,.mov (.t 7)⟩,0,0),(⟨some 9,some (8,true),.mov (.t 0)⟩,0,0),(⟨some 10,some (8,true),.nilchk (.t 9)⟩,0,0),(⟨some 11,some (8,true),.faddr 1 (.t 10)⟩,0,0),(⟨some 12,some (8,true),.load false 1 (.t 11)⟩,9,0),(⟨some 13,some (8,true),.mov (.t 0)⟩,0,0),(⟨some 14,some (8,true),.nilchk (.t 13)⟩,0,0),(⟨some 15,some (8,true),.faddr 0 (.t 14)⟩,0,0),(⟨some 16,some (8,true),.load false 1 (.t 15)⟩,13,0),(⟨some 17,some (8,true),.len false (.t 16)⟩,0,0),(⟨some 18,some (8,true),.bin .eql (.t 12) (.t 17)⟩,0,0),(⟨some 19,none,.pick (.t 8) (.t 18) (.c (.bool false))⟩,0,0)])
(.cond (.t 19) (.seq (.reg [⟨some 20,none,.mov (.t 0)⟩,⟨some 21,none,.nilchk (.t 20)⟩,⟨some 22,none,.faddr 2 (.t 21)⟩,⟨some 23,none,.load false 1 (.t 22)⟩,⟨some 24,none,.build z0 [(0,1,.c (j 1)),(9,1,.t 23)]⟩,⟨none,none,.store 10 (.t 2) (.t 24)⟩])
(.ret)) (.skip)))
(.seq (.reg [⟨some 25,none,.mov (.t 0)⟩,⟨some 26,none,.call (.c (.func 59 [] [])) [.t 25]⟩,⟨none,none,.store 10 (.t 2) (.t 26)⟩])
(.ret))), [.cell 2 true 10], none⟩
theorem amok128 : FnOk Tryz.prog 128 am128 := FnOk.mk' quiets Tryz.func128 (pols := []) (keep := none) (by kernel_rfl) rfl
def am129 : AFunc := ⟨2, .seq (.reg [⟨some 4,none,.mov (.c (.str []))⟩])
(.seq (.seq (.reg [⟨some 5,none,.mov (.t 0)⟩,⟨some 6,none,.call (.c (.func 172 [] [])) [.t 5]⟩,⟨some 7,none,.mov (.t 1)⟩,⟨some 8,none,.bin .neq (.t 6) (.t 7)⟩])
(.cond (.t 8) (.seq (.reg [⟨some 9,none,.mov (.t 0)⟩,⟨some 10,none,.call (.c (.func 60 [] [])) [.t 9]⟩])
(.seq (.reg [⟨some 4,none,.mov (.c (.str []))⟩])
(.ret))) (.skip)))
(.seq (.reg [⟨some 11,none,.mov (.t 0)⟩,⟨some 12,none,.nilchk (.t 11)⟩,⟨some 13,none,.faddr 1 (.t 12)⟩,⟨some 14,none,.load false 1 (.t 13)⟩,⟨some 15,none,.bin .add (.t 14) (.c (j 1))⟩,⟨some 16,none,.nilchk (.t 11)⟩,⟨some 17,none,.faddr 1 (.t 16)⟩,⟨none,none,.store 1 (.t 17) (.t 15)⟩])
(.seq (.dreg [(⟨some 18,none,.mov (.t 0)⟩,0,0),(⟨some 19,none,.nilchk (.t 18)⟩,0,0),(⟨some 20,none,.faddr 0 (.t 19)⟩,0,0),(⟨some 21,none,.load false 1 (.t 20)⟩,3,0),(⟨some 22,none,.mov (.t 0)⟩,0,0),(⟨some 23,none,.nilchk (.t 22)⟩,0,0),(⟨some 24,none,.faddr 1 (.t 23)⟩,0,0),(⟨some 25,none,.load false 1 (.t 24)⟩,7,0),(⟨some 26,none,.bin .sub (.t 25) (.c (j 1))⟩,0,0),(⟨some 27,none,.iaddr 6 (.t 21) (.t 26)⟩,0,0),(⟨some 28,none,.faddr 1 (.t 27)⟩,0,0),(⟨some 29,none,.load false 1 (.t 28)⟩,11,0),(⟨some 4,none,.mov (.t 29)⟩,0,0)])
(.ret)))), [.tmp 4], none⟩
theorem amok129 : FnOk Tryz.prog 129 am129 := FnOk.mk' quiets Tryz.func129 (pols := []) (keep := none) (by kernel_rfl) rfl
def am130 : AFunc := ⟨3, .seq (.reg [⟨some 6,none,.mov (.t 0)⟩,⟨some 7,none,.mov (.t 1)⟩,⟨some 8,none,.mov (.t 2)⟩,⟨some 9,none,.call (.c (.func 91 [] [])) [.t 6,.t 7,.t 8]⟩,⟨some 10,none,.un .not (.t 9)⟩])
(.cond (.t 10) (.reg [⟨some 11,none,.mov (.t 0)⟩,⟨some 12,none,.call (.c (.func 60 [] [])) [.t 11]⟩]) (.skip)), [], none⟩
theorem amok130 : FnOk Tryz.prog 130 am130 := FnOk.mk' quiets Tryz.func130 (pols := []) (keep := none) (by kernel_rfl) rfl
def am131 : AFunc := ⟨1, .seq (.reg [⟨some 2,none,.allocB z0 []⟩])
(.seq (.reg [⟨some 6,none,.mov (.t 0)⟩,⟨some 7,none,.call (.c (.func 173 [] [])) [.t 6]⟩,⟨some 8,none,.bslR 10 z0 1 [(0,10,.t 7)]⟩,⟨some 3,none,.mov (.t 8)⟩])
(.seq (.block 0 (.loop (.seq (.seq (.reg [⟨some 9,none,.mov (.t 0)⟩,⟨some 10,none,.call (.c (.func 91 [] [])) [.t 9,.c (j 4),.c (.str [47,47])]⟩])
(.cond (.t 10) (.skip) (.exit 0)))
(.block 1 (.reg [⟨some 11,none,.mov (.t 3)⟩,⟨some 12,none,.mov (.t 0)⟩,⟨some 13,none,.call (.c (.func 173 [] [])) [.t 12]⟩,⟨some 14,none,.bslF z0 1 [(0,10,.t 13)]⟩,⟨some 15,none,.append 10 160 (.t 11) (.t 14)⟩,⟨some 3,none,.mov (.t 15)⟩])))))
(.seq (.reg [⟨some 16,none,.mov (.t 3)⟩,⟨some 17,none,.mov (.t 3)⟩,⟨some 18,none,.len false (.t 17)⟩,⟨some 19,none,.bin .sub (.t 18) (.c (j 1))⟩,⟨some 20,none,.iaddr 10 (.t 16) (.t 19)⟩,⟨some 21,none,.load true 10 (.t 20)⟩,⟨some 4,none,.hole 10⟩,⟨some 4,none,.fill 10 ⟨.t 21, (some [])⟩⟩])
(.seq (.seq (.reg [⟨some 22,none,.mov (.t 3)⟩,⟨some 23,none,.len false (.t 22)⟩,⟨some 24,none,.bin .sub (.t 23) (.c (j 2))⟩,⟨some 5,none,.mov (.t 24)⟩])
(.block 2 (.loop (.seq (.seq (.reg [⟨some 25,none,.mov (.t 5)⟩,⟨some 26,none,.bin .geq (.t 25) (.c (j 0))⟩])
(.cond (.t 26) (.skip) (.exit 2)))
(.seq (.block 3 (.dreg [(⟨some 29,none,.mov (.t 3)⟩,0,0),(⟨some 30,none,.mov (.t 5)⟩,0,0),(⟨some 31,none,.iaddr 10 (.t 29) (.t 30)⟩,0,0),(⟨some 32,none,.load true 10 (.t 31)⟩,3,0),(⟨some 33,none,.load true 10 (.t 4)⟩,4,0),(⟨some 34,none,.call (.c (.func 174 [] [])) [.c (.str [47,47]),.t 32,.t 33]⟩,0,0),(⟨none,none,.store 10 (.t 4) (.t 34)⟩,0,0)]))
(.reg [⟨some 27,none,.mov (.t 5)⟩,⟨some 28,none,.bin .sub (.t 27) (.c (j 1))⟩,⟨some 5,none,.mov (.t 28)⟩]))))))
(.seq (.reg [⟨some 35,none,.load true 10 (.t 4)⟩,⟨none,none,.store 10 (.t 2) (.t 35)⟩])
(.ret)))))), [.cell 2 true 10], none⟩
theorem amok131 : FnOk Tryz.prog 131 am131 := FnOk.mk' quiets Tryz.func131 (pols := [(3, 3, .frz),(4, 7, .res []),(4, 6, .hole)]) (keep := none) (by kernel_rfl) rfl
def am134 : AFunc := ⟨2, .seq (.reg [⟨some 4,none,.mov (.c (j 0))⟩])
(.seq (.reg [⟨some 5,none,.mov (.t 0)⟩,⟨some 6,none,.mov (.t 1)⟩,⟨some 7,none,.call (.c (.func 175 [] [])) [.t 5,.t 6]⟩,⟨some 4,none,.mov (.t 7)⟩])
(.ret)), [.tmp 4], none⟩
theorem amok134 : FnOk Tryz.prog 134 am134 := FnOk.mk' quiets Tryz.func134 (pols := []) (keep := none) (by kernel_rfl) rfl
def am135 : AFunc := ⟨1, .seq (.reg [⟨some 2,none,.mov (.c (.str []))⟩])
(.seq (.reg [⟨some 4,none,.mov (.t 0)⟩,⟨some 5,none,.nilchk (.t 4)⟩,⟨some 6,none,.faddr 1 (.t 5)⟩,⟨some 7,none,.load false 1 (.t 6)⟩,⟨some 3,none,.mov (.t 7)⟩])
(.seq (.block 0 (.loop (.seq (.seq (.reg [⟨some 8,none,.mov (.t 0)⟩,⟨some 9,none,.call (.c (.func 99 [] [])) [.t 8,.c (j 0)]⟩,⟨some 10,none,.call (.c (.func 141 [] [])) [.t 9]⟩])
(.cond (.t 10) (.skip) (.exit 0)))
(.block 1 (.reg [⟨some 11,none,.mov (.t 0)⟩,⟨some 12,none,.nilchk (.t 11)⟩,⟨some 13,none,.faddr 1 (.t 12)⟩,⟨some 14,none,.load false 1 (.t 13)⟩,⟨some 15,none,.bin .add (.t 14) (.c (j 1))⟩,⟨some 16,none,.nilchk (.t 11)⟩,⟨some 17,none,.faddr 1 (.t 16)⟩,⟨none,none,.store 1 (.t 17) (.t 15)⟩])))))
(.seq (.dreg [(⟨some 18,none,.mov (.t 0)⟩,0,0),(⟨some 19,none,.nilchk (.t 18)⟩,0,0),(⟨some 20,none,.faddr 0 (.t 19)⟩,0,0),(⟨some 21,none,.load false 1 (.t 20)⟩,3,0),(⟨some 22,none,.mov (.t 3)⟩,0,0),(⟨some 23,none,.mov (.t 0)⟩,0,0),(⟨some 24,none,.nilchk (.t 23)⟩,0,0),(⟨some 25,none,.faddr 1 (.t 24)⟩,0,0),(⟨some 26,none,.load false 1 (.t 25)⟩,8,0),(⟨some 27,none,.sliceS (.t 21) (some (.t 22)) (some (.t 26))⟩,0,0),(⟨some 2,none,.mov (.t 27)⟩,0,0)])
(.ret)))), [.tmp 2], none⟩
theorem amok135 : FnOk Tryz.prog 135 am135 := FnOk.mk' quiets Tryz.func135 (pols := []) (keep := none) (by kernel_rfl) rfl
def am136 : AFunc := ⟨2, .seq (.reg [⟨some 4,none,.mov (.c (.bool false))⟩])
(.seq (.reg [⟨some 5,none,.mov (.t 0)⟩,⟨some 6,none,.mov (.t 1)⟩,⟨some 7,none,.call (.c (.func 176 [] [])) [.t 5,.t 6]⟩,⟨some 8,none,.bin .geq (.t 7) (.c (j 0))⟩,⟨some 4,none,.mov (.t 8)⟩])
(.ret)), [.tmp 4], none⟩
theorem amok136 : FnOk Tryz.prog 136 am136 := FnOk.mk' quiets Tryz.func136 (pols := []) (keep := none) (by kernel_rfl) rfl
def am138 : AFunc := ⟨2, .seq (.reg [⟨some 3,none,.boxF 6 (.t 1)⟩])
(.seq (.dreg [(⟨some 4,none,.mov (.t 0)⟩,0,0),(⟨some 5,none,.nilchk (.t 4)⟩,0,0),(⟨some 6,none,.faddr 2 (.t 5)⟩,0,0),(⟨some 7,none,.load false 1 (.t 6)⟩,3,0),(⟨some 8,none,.len false (.t 7)⟩,0,0),(⟨some 9,none,.bin .lss (.t 8) (.c (j 8192))⟩,0,0),(⟨some 10,none,.faddr 5 (.t 3)⟩,0,0),(⟨some 11,none,.load false 1 (.t 10)⟩,7,0),(⟨some 12,none,.call (.c (.func 104 [] [])) [.t 9,.t 11,.c (j 3)]⟩,0,0)])
(.dreg [(⟨some 13,none,.mov (.t 0)⟩,0,0),(⟨some 14,none,.mov (.t 0)⟩,0,0),(⟨some 15,none,.nilchk (.t 14)⟩,0,0),(⟨some 16,none,.faddr 2 (.t 15)⟩,0,0),(⟨some 17,none,.load false 1 (.t 16)⟩,4,0),(⟨some 18,none,.load true 6 (.t 3)⟩,5,0),(⟨some 19,none,.bslF z13 1 [(0,6,.t 18)]⟩,0,0),(⟨some 20,none,.append 6 72 (.t 17) (.t 19)⟩,0,0),(⟨some 21,none,.nilchk (.t 13)⟩,0,0),(⟨some 22,none,.faddr 2 (.t 21)⟩,0,0),(⟨none,none,.store 1 (.t 22) (.t 20)⟩,0,0)])), [], none⟩
theorem amok138 : FnOk Tryz.prog 138 am138 := FnOk.mk' quiets Tryz.func138 (pols := [(0, 0, .frz),(2, 6, .frz)]) (keep := none) (by kernel_rfl) rfl
def am139 : AFunc := ⟨2, .seq (.reg [⟨some 4,none,.mov (.c (.bool false))⟩])
(.seq (.dreg [(⟨some 6,none,.mov (.t 0)⟩,0,0),(⟨some 7,none,.nilchk (.t 6)⟩,0,0),(⟨some 8,none,.faddr 1 (.t 7)⟩,0,0),(⟨some 9,none,.load false 1 (.t 8)⟩,3,0),(⟨some 10,none,.mov (.t 0)⟩,0,0),(⟨some 11,none,.nilchk (.t 10)⟩,0,0),(⟨some 12,none,.faddr 0 (.t 11)⟩,0,0),(⟨some 13,none,.load false 1 (.t 12)⟩,7,0),(⟨some 14,none,.len true (.t 13)⟩,0,0),(⟨some 15,none,.bin .lss (.t 9) (.t 14)⟩,0,0),(⟨some 16,none,.mov (.t 15)⟩,0,0),(⟨some 17,some (16,true),.mov (.t 1)⟩,0,0),(⟨some 18,some (16,true),.mov (.t 0)⟩,0,0),(⟨some 19,some (16,true),.nilchk (.t 18)⟩,0,0),(⟨some 20,some (16,true),.faddr 0 (.t 19)⟩,0,0),(⟨some 21,some (16,true),.load false 1 (.t 20)⟩,15,0),(⟨some 22,some (16,true),.mov (.t 0)⟩,0,0),(⟨some 23,some (16,true),.nilchk (.t 22)⟩,0,0),(⟨some 24,some (16,true),.faddr 1 (.t 23)⟩,0,0),(⟨some 25,some (16,true),.load false 1 (.t 24)⟩,19,0),(⟨some 26,some (16,true),.indexS (.t 21) (.t 25)⟩,0,0),(⟨some 27,some (16,true),.call (.c (.func 95 [] [])) [.t 17,.t 26]⟩,0,0),(⟨some 28,some (16,true),.bin .geq (.t 27) (.c (j 0))⟩,0,0),(⟨some 29,none,.pick (.t 16) (.t 28) (.c (.bool false))⟩,0,0),(⟨some 5,none,.mov (.t 29)⟩,0,0)])
(.seq (.seq (.reg [⟨some 30,none,.mov (.t 5)⟩])
(.cond (.t 30) (.reg [⟨some 31,none,.mov (.t 0)⟩,⟨some 32,none,.nilchk (.t 31)⟩,⟨some 33,none,.faddr 1 (.t 32)⟩,⟨some 34,none,.load false 1 (.t 33)⟩,⟨some 35,none,.bin .add (.t 34) (.c (j 1))⟩,⟨some 36,none,.nilchk (.t 31)⟩,⟨some 37,none,.faddr 1 (.t 36)⟩,⟨none,none,.store 1 (.t 37) (.t 35)⟩]) (.skip)))
(.seq (.reg [⟨some 38,none,.mov (.t 5)⟩,⟨some 4,none,.mov (.t 38)⟩])
(.ret)))), [.tmp 4], none⟩
theorem amok139 : FnOk Tryz.prog 139 am139 := FnOk.mk' quiets Tryz.func139 (pols := []) (keep := none) (by kernel_rfl) rfl
def am140 : AFunc := ⟨1, .seq (.reg [⟨some 2,none,.mov (.c (.bool false))⟩])
(.seq (.reg [⟨some 5,none,.mov (.t 0)⟩,⟨some 6,none,.nilchk (.t 5)⟩,⟨some 7,none,.faddr 1 (.t 6)⟩,⟨some 8,none,.load false 1 (.t 7)⟩,⟨some 3,none,.mov (.t 8)⟩])
(.seq (.seq (.reg [⟨some 9,none,.mov (.t 0)⟩,⟨some 10,none,.call (.c (.func 99 [] [])) [.t 9,.c (j 0)]⟩,⟨some 4,none,.mov (.t 10)⟩])
(.block 0 (.loop (.seq (.seq (.reg [⟨some 11,none,.mov (.t 4)⟩,⟨some 12,none,.bin .geq (.t 11) (.c (.int .u8 (.ofNat 48)))⟩,⟨some 13,none,.mov (.t 12)⟩,⟨some 14,some (13,true),.mov (.t 4)⟩,⟨some 15,some (13,true),.bin .leq (.t 14) (.c (.int .u8 (.ofNat 57)))⟩,⟨some 16,none,.pick (.t 13) (.t 15) (.c (.bool false))⟩])
(.cond (.t 16) (.skip) (.exit 0)))
(.seq (.block 1 (.reg [⟨some 19,none,.mov (.t 0)⟩,⟨some 20,none,.nilchk (.t 19)⟩,⟨some 21,none,.faddr 1 (.t 20)⟩,⟨some 22,none,.load false 1 (.t 21)⟩,⟨some 23,none,.bin .add (.t 22) (.c (j 1))⟩,⟨some 24,none,.nilchk (.t 19)⟩,⟨some 25,none,.faddr 1 (.t 24)⟩,⟨none,none,.store 1 (.t 25) (.t 23)⟩]))
(.reg [⟨some 17,none,.mov (.t 0)⟩,⟨some 18,none,.call (.c (.func 99 [] [])) [.t 17,.c (j 0)]⟩,⟨some 4,none,.mov (.t 18)⟩]))))))
(.seq (.reg [⟨some 26,none,.mov (.t 0)⟩,⟨some 27,none,.nilchk (.t 26)⟩,⟨some 28,none,.faddr 1 (.t 27)⟩,⟨some 29,none,.load false 1 (.t 28)⟩,⟨some 30,none,.mov (.t 3)⟩,⟨some 31,none,.bin .gtr (.t 29) (.t 30)⟩,⟨some 2,none,.mov (.t 31)⟩])
(.ret)))), [.tmp 2], none⟩
theorem amok140 : FnOk Tryz.prog 140 am140 := FnOk.mk' quiets Tryz.func140 (pols := []) (keep := none) (by kernel_rfl) rfl
def am141 : AFunc := ⟨1, .seq (.reg [⟨some 2,none,.mov (.c (.bool false))⟩])
(.seq (.reg [⟨some 3,none,.mov (.t 0)⟩,⟨some 4,none,.call (.c (.func 97 [] [])) [.t 3]⟩,⟨some 5,none,.mov (.t 4)⟩,⟨some 6,some (5,false),.mov (.t 0)⟩,⟨some 7,some (5,false),.bin .geq (.t 6) (.c (.int .u8 (.ofNat 48)))⟩,⟨some 8,some (5,false),.mov (.t 7)⟩,⟨some 9,some (8,true),.mov (.t 0)⟩,⟨some 10,some (8,true),.bin .leq (.t 9) (.c (.int .u8 (.ofNat 57)))⟩,⟨some 11,some (5,false),.pick (.t 8) (.t 10) (.c (.bool false))⟩,⟨some 12,none,.pick (.t 5) (.c (.bool true)) (.t 11)⟩,⟨some 2,none,.mov (.t 12)⟩])
(.ret)), [.tmp 2], none⟩
theorem amok141 : FnOk Tryz.prog 141 am141 := FnOk.mk' quiets Tryz.func141 (pols := []) (keep := none) (by kernel_rfl) rfl
def am142 : AFunc := ⟨1, .seq (.reg [⟨some 2,none,.allocB z14 []⟩,⟨some 3,none,.mov (.c (j 0))⟩])
(.seq (.reg [⟨some 9,none,.mov (.t 0)⟩,⟨some 10,none,.call (.c (.func 177 [] [])) [.t 9]⟩,⟨some 8,none,.mov (.t 10)⟩,⟨some 11,none,.extract (.t 8) 0⟩,⟨some 12,none,.extract (.t 8) 1⟩,⟨some 4,none,.hole 5⟩,⟨some 4,none,.fill 5 ⟨.t 11, none⟩⟩,⟨some 5,none,.mov (.t 12)⟩])
(.seq (.block 0 (.seq (.reg [⟨some 14,none,.mov (.t 5)⟩,⟨some 15,none,.un .not (.t 14)⟩,⟨some 13,none,.mov (.t 15)⟩])
(.cond (.t 13) (.seq (.reg [⟨some 16,none,.build z14 []⟩,⟨none,none,.store 3 (.t 2) (.t 16)⟩,⟨some 3,none,.mov (.c (j 32))⟩])
(.ret)) (.seq (.reg [⟨some 18,none,.mov (.t 0)⟩,⟨some 19,none,.len true (.t 18)⟩,⟨some 20,none,.bin .gtr (.t 19) (.c (j 2000))⟩,⟨some 17,none,.mov (.t 20)⟩])
(.cond (.t 17) (.seq (.reg [⟨some 21,none,.build z14 []⟩,⟨none,none,.store 3 (.t 2) (.t 21)⟩,⟨some 3,none,.mov (.c (j 5))⟩])
(.ret)) (.skip))))))
(.seq (.reg [⟨some 23,none,.faddr 4 (.t 4)⟩,⟨some 24,none,.load false 1 (.t 23)⟩,⟨some 25,none,.faddr 1 (.t 4)⟩,⟨some 26,none,.load false 1 (.t 25)⟩,⟨some 27,none,.call (.c (.func 178 [] [])) [.t 24,.t 26]⟩,⟨some 22,none,.mov (.t 27)⟩,⟨some 28,none,.extract (.t 22) 0⟩,⟨some 29,none,.extract (.t 22) 1⟩,⟨some 6,none,.mov (.t 28)⟩,⟨some 5,none,.mov (.t 29)⟩])
(.seq (.seq (.reg [⟨some 30,none,.mov (.t 5)⟩,⟨some 31,none,.un .not (.t 30)⟩])
(.cond (.t 31) (.seq (.reg [⟨some 32,none,.build z14 []⟩,⟨none,none,.store 3 (.t 2) (.t 32)⟩,⟨some 3,none,.mov (.c (j 52))⟩])
(.ret)) (.skip)))
(.seq (.reg [⟨some 33,none,.faddr 2 (.t 4)⟩,⟨some 34,none,.load false 1 (.t 33)⟩,⟨some 35,none,.faddr 3 (.t 4)⟩,⟨some 36,none,.load false 1 (.t 35)⟩,⟨some 37,none,.bin .add (.t 34) (.t 36)⟩,⟨some 38,none,.call (.c (.func 180 [] [])) [.t 37]⟩,⟨some 39,none,.extract (.t 38) 0⟩,⟨some 40,none,.extract (.t 38) 1⟩,⟨some 41,none,.call (.c (.func 179 [] [])) [.t 39,.t 40]⟩,⟨some 7,none,.mov (.t 41)⟩])
(.seq (.reg [⟨some 42,none,.faddr 0 (.t 4)⟩,⟨some 43,none,.load false 1 (.t 42)⟩,⟨some 44,none,.mov (.t 7)⟩,⟨some 45,none,.mov (.t 6)⟩,⟨some 46,none,.faddr 3 (.t 4)⟩,⟨some 47,none,.load false 1 (.t 46)⟩,⟨some 48,none,.len true (.t 47)⟩,⟨some 49,none,.bin .sub (.t 45) (.t 48)⟩,⟨some 50,none,.build z14 [(0,1,.t 43),(1,1,.t 44),(2,1,.t 49)]⟩,⟨some 51,none,.build z14 [(0,3,.t 50)]⟩,⟨some 52,none,.call (.c (.func 181 [] [])) [.t 51]⟩,⟨some 53,none,.extract (.t 52) 0⟩,⟨some 54,none,.extract (.t 52) 1⟩,⟨none,none,.store 3 (.t 2) (.t 53)⟩,⟨some 3,none,.mov (.t 54)⟩])
(.ret))))))), [.cell 2 true 3,.tmp 3], none⟩
theorem amok142 : FnOk Tryz.prog 142 am142 := FnOk.mk' quiets Tryz.func142 (pols := [(1, 5, .hole),(1, 6, .hole)]) (keep := none) (by kernel_rfl) rfl
def am143 : AFunc := ⟨1, .seq (.reg [⟨some 5,none,.mov (.t 0)⟩,⟨some 6,none,.nilchk (.t 5)⟩,⟨some 7,none,.faddr 1 (.t 6)⟩,⟨some 8,none,.load false 1 (.t 7)⟩,⟨some 2,none,.mov (.t 8)⟩])
(.seq (.reg [⟨some 3,none,.mov (.c (.nilsl))⟩])
(.seq (.block 0 (.loop (.block 1 (.seq (.dreg [(⟨some 9,none,.mov (.t 0)⟩,0,0),(⟨some 10,none,.nilchk (.t 9)⟩,0,0),(⟨some 11,none,.faddr 1 (.t 10)⟩,0,0),(⟨some 12,none,.load false 1 (.t 11)⟩,3,0),(⟨some 13,none,.mov (.t 0)⟩,0,0),(⟨some 14,none,.nilchk (.t 13)⟩,0,0),(⟨some 15,none,.faddr 0 (.t 14)⟩,0,0),(⟨some 16,none,.load false 1 (.t 15)⟩,7,0),(⟨some 17,none,.len true (.t 16)⟩,0,0),(⟨some 18,none,.bin .lss (.t 12) (.t 17)⟩,0,0),(⟨some 19,none,.mov (.t 0)⟩,0,0),(⟨some 20,none,.nilchk (.t 19)⟩,0,0),(⟨some 21,none,.faddr 0 (.t 20)⟩,0,0),(⟨some 22,none,.load false 1 (.t 21)⟩,13,0),(⟨some 23,none,.len true (.t 22)⟩,0,0),(⟨some 24,none,.call (.c (.func 104 [] [])) [.t 18,.t 23,.c (j 8)]⟩,0,0)])
(.seq (.dreg [(⟨some 25,none,.mov (.t 0)⟩,0,0),(⟨some 26,none,.nilchk (.t 25)⟩,0,0),(⟨some 27,none,.faddr 0 (.t 26)⟩,0,0),(⟨some 28,none,.load false 1 (.t 27)⟩,3,0),(⟨some 29,none,.mov (.t 0)⟩,0,0),(⟨some 30,none,.nilchk (.t 29)⟩,0,0),(⟨some 31,none,.faddr 1 (.t 30)⟩,0,0),(⟨some 32,none,.load false 1 (.t 31)⟩,7,0),(⟨some 33,none,.indexS (.t 28) (.t 32)⟩,0,0),(⟨some 4,none,.mov (.t 33)⟩,0,0)])
(.seq (.seq (.reg [⟨some 34,none,.mov (.t 4)⟩,⟨some 35,none,.bin .eql (.t 34) (.c (.int .u8 (.ofNat 34)))⟩,⟨some 36,none,.mov (.t 35)⟩,⟨some 37,some (36,false),.mov (.t 4)⟩,⟨some 38,some (36,false),.bin .eql (.t 37) (.c (.int .u8 (.ofNat 92)))⟩,⟨some 39,some (36,false),.mov (.t 38)⟩,⟨some 40,some (39,true),.mov (.t 0)⟩,⟨some 41,some (39,true),.call (.c (.func 99 [] [])) [.t 40,.c (j 1)]⟩,⟨some 42,some (39,true),.bin .eql (.t 41) (.c (.int .u8 (.ofNat 40)))⟩,⟨some 43,some (36,false),.pick (.t 39) (.t 42) (.c (.bool false))⟩,⟨some 44,none,.pick (.t 36) (.c (.bool true)) (.t 43)⟩])
(.cond (.t 44) (.exit 0) (.skip)))
(.seq (.reg [⟨some 45,none,.mov (.t 4)⟩,⟨some 46,none,.bin .eql (.t 45) (.c (.int .u8 (.ofNat 92)))⟩])
(.cond (.t 46) (.reg [⟨some 47,none,.mov (.t 0)⟩,⟨some 48,none,.mov (.t 3)⟩,⟨some 49,none,.call (.c (.func 182 [] [])) [.t 47,.t 48]⟩,⟨some 3,none,.mov (.t 49)⟩]) (.reg [⟨some 50,none,.mov (.t 0)⟩,⟨some 51,none,.mov (.t 3)⟩,⟨some 52,none,.call (.c (.func 183 [] [])) [.t 50,.t 51]⟩,⟨some 3,none,.mov (.t 52)⟩])))))))))
(.seq (.reg [⟨some 53,none,.mov (.t 3)⟩,⟨some 54,none,.len false (.t 53)⟩,⟨some 55,none,.bin .leq (.t 54) (.c (j 16384))⟩,⟨some 56,none,.mov (.t 2)⟩,⟨some 57,none,.call (.c (.func 104 [] [])) [.t 55,.t 56,.c (j 5)]⟩])
(.seq (.reg [⟨some 58,none,.mov (.t 3)⟩,⟨some 59,none,.len false (.t 58)⟩,⟨some 60,none,.bin .gtr (.t 59) (.c (j 0))⟩])
(.cond (.t 60) (.reg [⟨some 61,none,.mov (.t 0)⟩,⟨some 62,none,.mov (.t 3)⟩,⟨some 63,none,.convBS (.t 62)⟩,⟨some 64,none,.mov (.t 2)⟩,⟨some 65,none,.build z13 [(0,1,.c (j 8)),(1,1,.t 63),(5,1,.t 64)]⟩,⟨some 66,none,.call (.c (.func 138 [] [])) [.t 61,.t 65]⟩]) (.skip)))))), [], none⟩
theorem amok143 : FnOk Tryz.prog 143 am143 := FnOk.mk' quiets Tryz.func143 (pols := []) (keep := none) (by kernel_rfl) rfl
def am147 : AFunc := ⟨1, .seq (.reg [⟨some 2,none,.mov (.c (.nilsl))⟩])
(.seq (.reg [⟨some 3,none,.mov (.c (j 0))⟩])
(.seq (.reg [⟨some 4,none,.mov (.c (j 1))⟩])
(.seq (.reg [⟨some 5,none,.mov (.c (.int .u8 (.ofNat 0)))⟩])
(.seq (.seq (.reg [⟨some 6,none,.mov (.c (j 0))⟩])
(.block 0 (.loop (.seq (.seq (.reg [⟨some 13,none,.mov (.t 6)⟩,⟨some 14,none,.mov (.t 0)⟩,⟨some 15,none,.len true (.t 14)⟩,⟨some 16,none,.bin .lss (.t 13) (.t 15)⟩])
(.cond (.t 16) (.skip) (.exit 0)))
(.seq (.block 1 (.seq (.reg [⟨some 19,none,.mov (.t 0)⟩,⟨some 20,none,.mov (.t 6)⟩,⟨some 21,none,.indexS (.t 19) (.t 20)⟩,⟨some 7,none,.mov (.t 21)⟩])
(.seq (.reg [⟨some 22,none,.mov (.t 5)⟩,⟨some 23,none,.mov (.t 7)⟩,⟨some 24,none,.bin .or (.t 22) (.t 23)⟩,⟨some 5,none,.mov (.t 24)⟩])
(.seq (.reg [⟨some 25,none,.mov (.t 7)⟩,⟨some 26,none,.iaddrA 256 1 (.g 1) (.t 25)⟩,⟨some 27,none,.load false 1 (.t 26)⟩,⟨some 28,none,.convI .i64 (.t 27)⟩,⟨some 8,none,.mov (.t 28)⟩])
(.seq (.reg [⟨some 29,none,.mov (.t 3)⟩,⟨some 30,none,.mov (.t 4)⟩,⟨some 31,none,.mov (.t 8)⟩,⟨some 32,none,.un .xor (.t 31)⟩,⟨some 33,none,.bin .and (.t 30) (.t 32)⟩,⟨some 34,none,.bin .add (.t 29) (.t 33)⟩,⟨some 3,none,.mov (.t 34)⟩])
(.reg [⟨some 35,none,.mov (.t 8)⟩,⟨some 4,none,.mov (.t 35)⟩]))))))
(.reg [⟨some 17,none,.mov (.t 6)⟩,⟨some 18,none,.bin .add (.t 17) (.c (j 1))⟩,⟨some 6,none,.mov (.t 18)⟩]))))))
(.seq (.seq (.reg [⟨some 36,none,.mov (.t 5)⟩,⟨some 37,none,.bin .geq (.t 36) (.c (.int .u8 (.ofNat 128)))⟩])
(.cond (.t 37) (.seq (.reg [⟨some 38,none,.mov (.t 0)⟩,⟨some 39,none,.call (.c (.func 185 [] [])) [.t 38,.c (.func 186 [] [])]⟩,⟨some 2,none,.mov (.t 39)⟩])
(.ret)) (.skip)))
(.seq (.reg [⟨some 40,none,.mov (.t 3)⟩,⟨some 41,none,.msl 1 16 [.str []] (.t 40) (.t 40)⟩,⟨some 9,none,.mov (.t 41)⟩])
(.seq (.reg [⟨some 10,none,.mov (.c (j 0))⟩])
(.seq (.reg [⟨some 11,none,.mov (.c (j 0))⟩])
(.seq (.reg [⟨some 12,none,.mov (.c (j 0))⟩])
(.seq (.block 2 (.loop (.seq (.seq (.reg [⟨some 42,none,.mov (.t 12)⟩,⟨some 43,none,.mov (.t 0)⟩,⟨some 44,none,.len true (.t 43)⟩,⟨some 45,none,.bin .lss (.t 42) (.t 44)⟩,⟨some 46,none,.mov (.t 45)⟩,⟨some 47,some (46,true),.mov (.t 0)⟩,⟨some 48,some (46,true),.mov (.t 12)⟩,⟨some 49,some (46,true),.indexS (.t 47) (.t 48)⟩,⟨some 50,some (46,true),.iaddrA 256 1 (.g 1) (.t 49)⟩,⟨some 51,some (46,true),.load false 1 (.t 50)⟩,⟨some 52,some (46,true),.bin .neq (.t 51) (.c (.int .u8 (.ofNat 0)))⟩,⟨some 53,none,.pick (.t 46) (.t 52) (.c (.bool false))⟩])
(.cond (.t 53) (.skip) (.exit 2)))
(.block 3 (.reg [⟨some 54,none,.mov (.t 12)⟩,⟨some 55,none,.bin .add (.t 54) (.c (j 1))⟩,⟨some 12,none,.mov (.t 55)⟩])))))
(.seq (.reg [⟨some 56,none,.mov (.t 12)⟩,⟨some 11,none,.mov (.t 56)⟩])
(.seq (.block 4 (.loop (.seq (.seq (.reg [⟨some 57,none,.mov (.t 12)⟩,⟨some 58,none,.mov (.t 0)⟩,⟨some 59,none,.len true (.t 58)⟩,⟨some 60,none,.bin .lss (.t 57) (.t 59)⟩])
(.cond (.t 60) (.skip) (.exit 4)))
(.block 5 (.seq (.seq (.reg [⟨some 61,none,.mov (.t 0)⟩,⟨some 62,none,.mov (.t 12)⟩,⟨some 63,none,.indexS (.t 61) (.t 62)⟩,⟨some 64,none,.iaddrA 256 1 (.g 1) (.t 63)⟩,⟨some 65,none,.load false 1 (.t 64)⟩,⟨some 66,none,.bin .eql (.t 65) (.c (.int .u8 (.ofNat 0)))⟩])
(.cond (.t 66) (.seq (.reg [⟨some 67,none,.mov (.t 12)⟩,⟨some 68,none,.bin .add (.t 67) (.c (j 1))⟩,⟨some 12,none,.mov (.t 68)⟩])
(.exit 5)) (.skip)))
(.seq (.reg [⟨some 69,none,.mov (.t 9)⟩,⟨some 70,none,.mov (.t 10)⟩,⟨some 71,none,.mov (.t 0)⟩,⟨some 72,none,.mov (.t 11)⟩,⟨some 73,none,.mov (.t 12)⟩,⟨some 74,none,.sliceS (.t 71) (some (.t 72)) (some (.t 73))⟩,⟨some 75,none,.iaddr 1 (.t 69) (.t 70)⟩,⟨none,none,.store 1 (.t 75) (.t 74)⟩])
(.seq (.reg [⟨some 76,none,.mov (.t 10)⟩,⟨some 77,none,.bin .add (.t 76) (.c (j 1))⟩,⟨some 10,none,.mov (.t 77)⟩])
(.seq (.reg [⟨some 78,none,.mov (.t 12)⟩,⟨some 79,none,.bin .add (.t 78) (.c (j 1))⟩,⟨some 12,none,.mov (.t 79)⟩])
(.seq (.block 6 (.loop (.seq (.seq (.reg [⟨some 80,none,.mov (.t 12)⟩,⟨some 81,none,.mov (.t 0)⟩,⟨some 82,none,.len true (.t 81)⟩,⟨some 83,none,.bin .lss (.t 80) (.t 82)⟩,⟨some 84,none,.mov (.t 83)⟩,⟨some 85,some (84,true),.mov (.t 0)⟩,⟨some 86,some (84,true),.mov (.t 12)⟩,⟨some 87,some (84,true),.indexS (.t 85) (.t 86)⟩,⟨some 88,some (84,true),.iaddrA 256 1 (.g 1) (.t 87)⟩,⟨some 89,some (84,true),.load false 1 (.t 88)⟩,⟨some 90,some (84,true),.bin .neq (.t 89) (.c (.int .u8 (.ofNat 0)))⟩,⟨some 91,none,.pick (.t 84) (.t 90) (.c (.bool false))⟩])
(.cond (.t 91) (.skip) (.exit 6)))
(.block 7 (.reg [⟨some 92,none,.mov (.t 12)⟩,⟨some 93,none,.bin .add (.t 92) (.c (j 1))⟩,⟨some 12,none,.mov (.t 93)⟩])))))
(.reg [⟨some 94,none,.mov (.t 12)⟩,⟨some 11,none,.mov (.t 94)⟩]))))))))))
(.seq (.seq (.reg [⟨some 95,none,.mov (.t 11)⟩,⟨some 96,none,.mov (.t 0)⟩,⟨some 97,none,.len true (.t 96)⟩,⟨some 98,none,.bin .lss (.t 95) (.t 97)⟩])
(.cond (.t 98) (.reg [⟨some 99,none,.mov (.t 9)⟩,⟨some 100,none,.mov (.t 10)⟩,⟨some 101,none,.mov (.t 0)⟩,⟨some 102,none,.mov (.t 11)⟩,⟨some 103,none,.sliceS (.t 101) (some (.t 102)) none⟩,⟨some 104,none,.iaddr 1 (.t 99) (.t 100)⟩,⟨none,none,.store 1 (.t 104) (.t 103)⟩]) (.skip)))
(.seq (.reg [⟨some 105,none,.mov (.t 9)⟩,⟨some 2,none,.mov (.t 105)⟩])
(.ret))))))))))))))), [.tmp 2], none⟩
theorem amok147 : FnOk Tryz.prog 147 am147 := FnOk.mk' quiets Tryz.func147 (pols := []) (keep := none) (by kernel_rfl) rfl
def am148 : AFunc := ⟨2, .seq (.reg [⟨some 4,none,.mov (.c (.bool false))⟩])
(.seq (.reg [⟨some 5,none,.mov (.t 0)⟩,⟨some 6,none,.mov (.t 1)⟩,⟨some 7,none,.call (.c (.func 187 [] [])) [.t 5,.t 6]⟩,⟨some 4,none,.mov (.t 7)⟩])
(.ret)), [.tmp 4], none⟩
theorem amok148 : FnOk Tryz.prog 148 am148 := FnOk.mk' quiets Tryz.func148 (pols := []) (keep := none) (by kernel_rfl) rfl
def am149 : AFunc := ⟨1, .seq (.reg [⟨some 2,none,.mov (.c (.bool false))⟩])
(.seq (.reg [⟨some 3,none,.mov (.t 0)⟩,⟨some 4,none,.bin .neq (.t 3) (.c (.str []))⟩,⟨some 5,none,.mov (.t 4)⟩,⟨some 6,some (5,true),.mov (.t 0)⟩,⟨some 7,some (5,true),.indexS (.t 6) (.c (j 0))⟩,⟨some 8,some (5,true),.call (.c (.func 97 [] [])) [.t 7]⟩,⟨some 9,none,.pick (.t 5) (.t 8) (.c (.bool false))⟩,⟨some 10,none,.mov (.t 9)⟩,⟨some 11,some (10,true),.mov (.t 0)⟩,⟨some 12,some (10,true),.convSB (.t 11)⟩,⟨some 13,some (10,true),.call (.c (.func 188 [] [])) [.t 12,.c (.func 189 [] [])]⟩,⟨some 14,some (10,true),.un .not (.t 13)⟩,⟨some 15,none,.pick (.t 10) (.t 14) (.c (.bool false))⟩,⟨some 2,none,.mov (.t 15)⟩])
(.ret)), [.tmp 2], none⟩
theorem amok149 : FnOk Tryz.prog 149 am149 := FnOk.mk' quiets Tryz.func149 (pols := []) (keep := none) (by kernel_rfl) rfl
def am150 : AFunc := ⟨2, .seq (.reg [⟨some 4,none,.mov (.c (.bool false))⟩])
(.seq (.seq (.reg [⟨some 6,none,.mov (.t 0)⟩,⟨some 7,none,.len false (.t 6)⟩,⟨some 8,none,.mov (.t 1)⟩,⟨some 9,none,.len false (.t 8)⟩,⟨some 10,none,.bin .neq (.t 7) (.t 9)⟩])
(.cond (.t 10) (.seq (.reg [⟨some 4,none,.mov (.c (.bool false))⟩])
(.ret)) (.skip)))
(.seq (.seq (.reg [⟨some 11,none,.mov (.t 0)⟩,⟨some 12,none,.len false (.t 11)⟩,⟨some 13,none,.mov (.c (j 0))⟩])
(.block 0 (.loop (.seq (.reg [⟨some 14,none,.bin .lss (.t 13) (.t 12)⟩])
(.seq (.cond (.t 14) (.skip) (.exit 0))
(.seq (.block 1 (.seq (.reg [⟨some 15,none,.mov (.t 13)⟩,⟨some 5,none,.mov (.t 15)⟩])
(.seq (.dreg [(⟨some 16,none,.mov (.t 0)⟩,0,0),(⟨some 17,none,.mov (.t 5)⟩,0,0),(⟨some 18,none,.iaddr 1 (.t 16) (.t 17)⟩,0,0),(⟨some 19,none,.load false 1 (.t 18)⟩,3,0),(⟨some 20,none,.mov (.t 1)⟩,0,0),(⟨some 21,none,.mov (.t 5)⟩,0,0),(⟨some 22,none,.iaddr 1 (.t 20) (.t 21)⟩,0,0),(⟨some 23,none,.load false 1 (.t 22)⟩,7,0),(⟨some 24,none,.bin .neq (.t 19) (.t 23)⟩,0,0)])
(.cond (.t 24) (.seq (.reg [⟨some 4,none,.mov (.c (.bool false))⟩])
(.ret)) (.skip)))))
(.reg [⟨some 25,none,.bin .add (.t 13) (.c (j 1))⟩,⟨some 13,none,.mov (.t 25)⟩])))))))
(.seq (.reg [⟨some 4,none,.mov (.c (.bool true))⟩])
(.ret)))), [.tmp 4], none⟩
theorem amok150 : FnOk Tryz.prog 150 am150 := FnOk.mk' quiets Tryz.func150 (pols := []) (keep := none) (by kernel_rfl) rfl
def am151 : AFunc := ⟨1, .seq (.reg [⟨some 2,none,.allocB [j 0] []⟩,⟨some 3,none,.allocB [j 0] []⟩])
(.seq (.seq (.reg [⟨some 6,none,.mov (.t 0)⟩,⟨some 7,none,.call (.c (.func 190 [] [])) [.t 6]⟩])
(.block 0 (.rangeF (.t 7) [8,9] (.seq (.reg [⟨some 4,none,.mov (.t 8)⟩])
(.reg [⟨some 5,none,.mov (.t 9)⟩])) (.block 1 (.seq (.reg [⟨some 10,none,.mov (.t 5)⟩,⟨some 11,none,.bin .lss (.t 10) (.c (.int .i32 (.ofNat 0)))⟩])
(.cond (.t 11) (.seq (.reg [⟨some 12,none,.mov (.t 4)⟩,⟨none,none,.store 1 (.t 2) (.t 12)⟩,⟨none,none,.store 1 (.t 3) (.c (j 61))⟩])
(.ret)) (.skip)))))))
(.seq (.reg [⟨some 13,none,.mov (.t 0)⟩,⟨some 14,none,.len true (.t 13)⟩,⟨none,none,.store 1 (.t 2) (.t 14)⟩,⟨none,none,.store 1 (.t 3) (.c (j 0))⟩])
(.ret))), [.cell 2 false 1,.cell 3 false 1], none⟩
theorem amok151 : FnOk Tryz.prog 151 am151 := FnOk.mk' quiets Tryz.func151 (pols := []) (keep := none) (by kernel_rfl) rfl
def am152 : AFunc := ⟨2, .seq (.reg [⟨some 4,none,.allocB z0 []⟩])
(.seq (.seq (.reg [⟨some 6,none,.mov (.t 0)⟩,⟨some 7,none,.nilchk (.t 6)⟩,⟨some 8,none,.faddr 2 (.t 7)⟩,⟨some 9,none,.load false 1 (.t 8)⟩,⟨some 10,none,.bin .eql (.t 9) (.c (j 200))⟩])
(.cond (.t 10) (.seq (.seq (.reg [⟨some 11,none,.mov (.t 0)⟩,⟨some 12,none,.nilchk (.t 11)⟩,⟨some 13,none,.faddr 0 (.t 12)⟩,⟨some 14,none,.load false 1 (.t 13)⟩,⟨some 15,none,.len false (.t 14)⟩,⟨some 16,none,.bin .eql (.t 15) (.c (j 0))⟩])
(.cond (.t 16) (.reg [⟨some 17,none,.mov (.t 0)⟩,⟨some 18,none,.call (.c (.func 109 [] [])) [.t 17,.c (j 8)]⟩]) (.skip)))
(.reg [⟨some 19,none,.mov (.t 0)⟩,⟨some 20,none,.call (.c (.func 109 [] [])) [.t 19,.c (j 42)]⟩])) (.skip)))
(.seq (.reg [⟨some 21,none,.mov (.t 0)⟩,⟨some 22,none,.nilchk (.t 21)⟩,⟨some 23,none,.faddr 2 (.t 22)⟩,⟨some 24,none,.load false 1 (.t 23)⟩,⟨some 25,none,.bin .add (.t 24) (.c (j 1))⟩,⟨some 26,none,.nilchk (.t 21)⟩,⟨some 27,none,.faddr 2 (.t 26)⟩,⟨none,none,.store 1 (.t 27) (.t 25)⟩])
(.seq (.reg [⟨some 28,none,.mov (.t 1)⟩,⟨some 29,none,.call (.t 28) []⟩,⟨some 5,none,.hole 10⟩,⟨some 5,none,.fill 10 ⟨.t 29, none⟩⟩])
(.seq (.reg [⟨some 30,none,.mov (.t 0)⟩,⟨some 31,none,.nilchk (.t 30)⟩,⟨some 32,none,.faddr 2 (.t 31)⟩,⟨some 33,none,.load false 1 (.t 32)⟩,⟨some 34,none,.bin .sub (.t 33) (.c (j 1))⟩,⟨some 35,none,.nilchk (.t 30)⟩,⟨some 36,none,.faddr 2 (.t 35)⟩,⟨none,none,.store 1 (.t 36) (.t 34)⟩])
(.seq (.reg [⟨some 37,none,.load true 10 (.t 5)⟩,⟨none,none,.store 10 (.t 4) (.t 37)⟩])
(.ret)))))), [.cell 4 true 10], none⟩
theorem amok152 : FnOk Tryz.prog 152 am152 := FnOk.mk' quiets Tryz.func152 (pols := [(6, 2, .hole),(6, 3, .hole)]) (keep := none) (by kernel_rfl) rfl
def am153 : AFunc := ⟨1, .seq (.reg [⟨some 1,none,.allocB z0 []⟩])
(.seq (.reg [⟨some 2,none,.resv 10⟩])
(.block 0 (.loop (.block 1 (.seq (.reg [⟨some 4,none,.load false 1 (.t 0)⟩,⟨some 5,none,.call (.c (.func 154 [] [])) [.t 4,.c (j 1),.c (.str [100,101,102])]⟩,⟨some 6,none,.mov (.t 5)⟩,⟨some 7,some (6,false),.load false 1 (.t 0)⟩,⟨some 8,some (6,false),.call (.c (.func 154 [] [])) [.t 7,.c (j 1),.c (.str [108,97,98,101,108])]⟩,⟨some 9,none,.pick (.t 6) (.c (.bool true)) (.t 8)⟩,⟨some 3,none,.mov (.t 9)⟩])
(.seq (.reg [⟨some 10,none,.mov (.t 2)⟩,⟨some 11,none,.load false 1 (.t 0)⟩,⟨some 12,none,.call (.c (.func 155 [] [])) [.t 11]⟩,⟨some 13,none,.bslF z0 1 [(0,10,.t 12)]⟩,⟨some 14,none,.append 10 160 (.t 10) (.t 13)⟩,⟨some 2,none,.mov (.t 14)⟩])
(.seq (.reg [⟨some 15,none,.mov (.t 3)⟩,⟨some 16,none,.mov (.t 15)⟩,⟨some 17,some (16,false),.load false 1 (.t 0)⟩,⟨some 18,some (16,false),.call (.c (.func 156 [] [])) [.t 17,.c (j 4),.c (.str [124])]⟩,⟨some 19,some (16,false),.un .not (.t 18)⟩,⟨some 20,none,.pick (.t 16) (.c (.bool true)) (.t 19)⟩])
(.cond (.t 20) (.seq (.reg [⟨some 21,none,.mov (.t 2)⟩,⟨some 22,none,.call (.c (.func 157 [] [])) [.c (j 27),.t 21]⟩,⟨none,none,.store 10 (.t 1) (.t 22)⟩])
(.ret)) (.skip))))))))), [.cell 1 true 10], none⟩
theorem amok153 : FnOk Tryz.prog 153 am153 := FnOk.mk' quiets Tryz.func153 (pols := [(1, 0, .res [(0,10)]),(3, 3, .frz)]) (keep := none) (by kernel_rfl) rfl
def am154 : AFunc := ⟨3, .seq (.reg [⟨some 6,none,.mov (.c (.bool false))⟩])
(.seq (.reg [⟨some 7,none,.mov (.t 0)⟩,⟨some 8,none,.call (.c (.func 191 [] [])) [.t 7]⟩,⟨some 9,none,.mov (.t 1)⟩,⟨some 10,none,.bin .eql (.t 8) (.t 9)⟩,⟨some 11,none,.mov (.t 10)⟩,⟨some 12,some (11,true),.mov (.t 0)⟩,⟨some 13,some (11,true),.nilchk (.t 12)⟩,⟨some 14,some (11,true),.faddr 0 (.t 13)⟩,⟨some 15,some (11,true),.load false 1 (.t 14)⟩,⟨some 16,some (11,true),.iaddr 6 (.t 15) (.c (j 0))⟩,⟨some 17,some (11,true),.faddr 1 (.t 16)⟩,⟨some 18,some (11,true),.load false 1 (.t 17)⟩,⟨some 19,some (11,true),.mov (.t 2)⟩,⟨some 20,some (11,true),.bin .eql (.t 18) (.t 19)⟩,⟨some 21,none,.pick (.t 11) (.t 20) (.c (.bool false))⟩,⟨some 6,none,.mov (.t 21)⟩])
(.ret)), [.tmp 6], none⟩
theorem amok154 : FnOk Tryz.prog 154 am154 := FnOk.mk' quiets Tryz.func154 (pols := []) (keep := none) (by kernel_rfl) rfl
def am155 : AFunc := ⟨1, .seq (.reg [⟨some 2,none,.allocB z0 []⟩])
(.seq (.reg [⟨some 8,none,.mov (.t 0)⟩,⟨some 9,none,.call (.c (.func 159 [] [])) [.t 8]⟩,⟨some 3,none,.mov (.t 9)⟩])
(.seq (.block 0 (.seq (.reg [⟨some 11,none,.mov (.t 0)⟩,⟨some 12,none,.call (.c (.func 156 [] [])) [.t 11,.c (j 1),.c (.str [100,101,102])]⟩,⟨some 10,none,.mov (.t 12)⟩])
(.cond (.t 10) (.seq (.reg [⟨some 13,none,.mov (.t 0)⟩,⟨some 14,none,.call (.c (.func 192 [] [])) [.t 13]⟩,⟨some 4,none,.hole 12⟩,⟨some 4,none,.fill 12 ⟨.t 14, none⟩⟩])
(.seq (.reg [⟨some 15,none,.mov (.t 3)⟩,⟨some 16,none,.mov (.t 0)⟩,⟨some 17,none,.call (.c (.func 194 [] [])) [.t 16]⟩,⟨some 18,none,.bslF z0 1 [(0,10,.t 17)]⟩,⟨some 19,none,.call (.c (.func 193 [] [])) [.c (j 25),.t 15,.t 18]⟩,⟨some 5,none,.hole 10⟩,⟨some 5,none,.fill 10 ⟨.t 19, (some [])⟩⟩])
(.seq (.reg [⟨some 20,none,.load true 12 (.t 4)⟩,⟨some 21,none,.bslF z1 1 [(0,12,.t 20)]⟩,⟨some 22,none,.faddr 8 (.t 5)⟩,⟨none,none,.store 1 (.t 22) (.t 21)⟩])
(.seq (.reg [⟨some 23,none,.load true 10 (.t 5)⟩,⟨none,none,.store 10 (.t 2) (.t 23)⟩])
(.ret))))) (.seq (.reg [⟨some 25,none,.mov (.t 0)⟩,⟨some 26,none,.call (.c (.func 156 [] [])) [.t 25,.c (j 1),.c (.str [108,97,98,101,108])]⟩,⟨some 24,none,.mov (.t 26)⟩])
(.cond (.t 24) (.seq (.reg [⟨some 27,none,.mov (.t 0)⟩,⟨some 28,none,.call (.c (.func 195 [] [])) [.t 27,.c (j 5)]⟩,⟨some 6,none,.mov (.t 28)⟩])
(.seq (.reg [⟨some 29,none,.mov (.t 0)⟩,⟨some 30,none,.call (.c (.func 196 [] [])) [.t 29,.c (j 4),.c (.str [124])]⟩])
(.seq (.reg [⟨some 31,none,.mov (.t 3)⟩,⟨some 32,none,.mov (.t 0)⟩,⟨some 33,none,.call (.c (.func 106 [] [])) [.t 32]⟩,⟨some 34,none,.bslF z0 1 [(0,10,.t 33)]⟩,⟨some 35,none,.call (.c (.func 193 [] [])) [.c (j 23),.t 31,.t 34]⟩,⟨some 7,none,.hole 10⟩,⟨some 7,none,.fill 10 ⟨.t 35, (some [])⟩⟩])
(.seq (.reg [⟨some 36,none,.mov (.t 6)⟩,⟨some 37,none,.faddr 1 (.t 7)⟩,⟨none,none,.store 1 (.t 37) (.t 36)⟩])
(.seq (.reg [⟨some 38,none,.load true 10 (.t 7)⟩,⟨none,none,.store 10 (.t 2) (.t 38)⟩])
(.ret)))))) (.skip))))))
(.seq (.reg [⟨some 39,none,.mov (.t 0)⟩,⟨some 40,none,.mov (.t 0)⟩,⟨some 41,none,.mkf 198 [.t 40] []⟩,⟨some 42,none,.call (.c (.func 197 [] [])) [.t 39,.c (.str [44]),.t 41]⟩,⟨some 43,none,.call (.c (.func 157 [] [])) [.c (j 28),.t 42]⟩,⟨none,none,.store 10 (.t 2) (.t 43)⟩])
(.ret)))), [.cell 2 true 10], none⟩
theorem amok155 : FnOk Tryz.prog 155 am155 := FnOk.mk' quiets Tryz.func155 (pols := [(3, 2, .hole),(3, 3, .hole),(4, 3, .frz),(4, 6, .res []),(4, 5, .hole),(5, 1, .frz),(10, 3, .frz),(10, 6, .res []),(10, 5, .hole)]) (keep := none) (by kernel_rfl) rfl
def am156 : AFunc := ⟨3, .seq (.reg [⟨some 6,none,.mov (.c (.bool false))⟩])
(.seq (.reg [⟨some 8,none,.mov (.t 0)⟩,⟨some 9,none,.mov (.t 1)⟩,⟨some 10,none,.mov (.t 2)⟩,⟨some 11,none,.call (.c (.func 154 [] [])) [.t 8,.t 9,.t 10]⟩,⟨some 7,none,.mov (.t 11)⟩])
(.seq (.seq (.reg [⟨some 12,none,.mov (.t 7)⟩])
(.cond (.t 12) (.reg [⟨some 13,none,.mov (.t 0)⟩,⟨some 14,none,.call (.c (.func 199 [] [])) [.t 13]⟩]) (.skip)))
(.seq (.reg [⟨some 15,none,.mov (.t 7)⟩,⟨some 6,none,.mov (.t 15)⟩])
(.ret)))), [.tmp 6], none⟩
theorem amok156 : FnOk Tryz.prog 156 am156 := FnOk.mk' quiets Tryz.func156 (pols := []) (keep := none) (by kernel_rfl) rfl
def am157 : AFunc := ⟨2, .seq (.reg [⟨some 4,none,.allocB z0 []⟩])
(.seq (.seq (.reg [⟨some 5,none,.mov (.t 1)⟩,⟨some 6,none,.len false (.t 5)⟩,⟨some 7,none,.bin .eql (.t 6) (.c (j 1))⟩])
(.cond (.t 7) (.seq (.reg [⟨some 8,none,.mov (.t 1)⟩,⟨some 9,none,.iaddr 10 (.t 8) (.c (j 0))⟩,⟨some 10,none,.load true 10 (.t 9)⟩,⟨none,none,.store 10 (.t 4) (.t 10)⟩])
(.ret)) (.skip)))
(.seq (.reg [⟨some 11,none,.mov (.t 0)⟩,⟨some 12,none,.mov (.t 1)⟩,⟨some 13,none,.mov (.t 1)⟩,⟨some 14,none,.iaddr 10 (.t 13) (.c (j 0))⟩,⟨some 15,none,.faddr 9 (.t 14)⟩,⟨some 16,none,.load false 1 (.t 15)⟩,⟨some 17,none,.build z0 [(0,1,.t 11),(6,1,.t 12),(9,1,.t 16)]⟩,⟨none,none,.store 10 (.t 4) (.t 17)⟩])
(.ret))), [.cell 4 true 10], none⟩
theorem amok157 : FnOk Tryz.prog 157 am157 := FnOk.mk' quiets Tryz.func157 (pols := []) (keep := none) (by kernel_rfl) rfl
def am158 : AFunc := ⟨2, .seq (.reg [⟨some 2,none,.boxB 10 (.t 0) []⟩,⟨some 3,none,.boxF 1 (.t 1)⟩,⟨some 4,none,.mov (.c (j 0))⟩])
(.seq (.seq (.reg [⟨some 7,none,.load false 1 (.t 3)⟩,⟨some 8,none,.bin .eql (.t 7) (.c (j 0))⟩])
(.cond (.t 8) (.seq (.reg [⟨some 4,none,.mov (.c (j 0))⟩])
(.ret)) (.skip)))
(.seq (.reg [⟨some 9,none,.faddr 7 (.t 2)⟩,⟨some 10,none,.load false 1 (.t 9)⟩,⟨some 11,none,.load false 1 (.t 3)⟩,⟨some 12,none,.bin .sub (.t 11) (.c (j 1))⟩,⟨some 13,none,.call (.c (.func 200 [] [])) [.t 10,.t 12]⟩,⟨some 5,none,.hole 1⟩,⟨some 5,none,.fill 1 ⟨.t 13, (some [])⟩⟩])
(.seq (.seq (.reg [⟨some 14,none,.load true 10 (.t 2)⟩,⟨some 15,none,.call (.c (.func 160 [] [])) [.t 14]⟩])
(.block 0 (.rangeF (.t 15) [16] (.reg [⟨some 6,none,.hole 10⟩,⟨some 6,none,.fill 10 ⟨.t 16, none⟩⟩]) (.block 1 (.dreg [(⟨some 17,none,.load false 1 (.t 5)⟩,0,5),(⟨some 18,none,.load true 10 (.t 6)⟩,1,0),(⟨some 19,none,.load false 1 (.t 3)⟩,2,0),(⟨some 20,none,.bin .sub (.t 19) (.c (j 1))⟩,0,0),(⟨some 21,none,.call (.c (.func 158 [] [])) [.t 18,.t 20]⟩,0,0),(⟨some 22,none,.maxs (.t 17) [.t 21]⟩,0,0),(⟨none,none,.store 1 (.t 5) (.t 22)⟩,0,0)])))))
(.seq (.reg [⟨some 23,none,.load false 1 (.t 5)⟩,⟨some 24,none,.bin .add (.t 23) (.c (j 1))⟩,⟨some 4,none,.mov (.t 24)⟩])
(.ret))))), [.tmp 4], none⟩
theorem amok158 : FnOk Tryz.prog 158 am158 := FnOk.mk' quiets Tryz.func158 (pols := [(0, 1, .frz),(3, 6, .res []),(3, 5, .hole),(5, 0, .hole),(5, 1, .hole)]) (keep := none) (by kernel_rfl) rfl
def am159 : AFunc := ⟨1, .seq (.reg [⟨some 2,none,.mov (.c (j 0))⟩])
(.seq (.seq (.reg [⟨some 3,none,.mov (.t 0)⟩,⟨some 4,none,.nilchk (.t 3)⟩,⟨some 5,none,.faddr 0 (.t 4)⟩,⟨some 6,none,.load false 1 (.t 5)⟩,⟨some 7,none,.len false (.t 6)⟩,⟨some 8,none,.bin .gtr (.t 7) (.c (j 0))⟩])
(.cond (.t 8) (.seq (.reg [⟨some 9,none,.mov (.t 0)⟩,⟨some 10,none,.nilchk (.t 9)⟩,⟨some 11,none,.faddr 0 (.t 10)⟩,⟨some 12,none,.load false 1 (.t 11)⟩,⟨some 13,none,.iaddr 6 (.t 12) (.c (j 0))⟩,⟨some 14,none,.faddr 5 (.t 13)⟩,⟨some 15,none,.load false 1 (.t 14)⟩,⟨some 2,none,.mov (.t 15)⟩])
(.ret)) (.skip)))
(.seq (.reg [⟨some 16,none,.mov (.t 0)⟩,⟨some 17,none,.nilchk (.t 16)⟩,⟨some 18,none,.faddr 1 (.t 17)⟩,⟨some 19,none,.load false 1 (.t 18)⟩,⟨some 2,none,.mov (.t 19)⟩])
(.ret))), [.tmp 2], none⟩
theorem amok159 : FnOk Tryz.prog 159 am159 := FnOk.mk' quiets Tryz.func159 (pols := []) (keep := none) (by kernel_rfl) rfl
def am160 : AFunc := ⟨1, .seq (.reg [⟨some 1,none,.boxB 10 (.t 0) []⟩,⟨some 2,none,.mov (.c (.nilf))⟩])
(.seq (.reg [⟨some 3,none,.mkf 201 [] [.t 1]⟩,⟨some 2,none,.mov (.t 3)⟩])
(.ret)), [.tmp 2], none⟩
theorem amok160 : FnOk Tryz.prog 160 am160 := FnOk.mk' quiets Tryz.func160 (pols := []) (keep := none) (by kernel_rfl) rfl
def am161 : AFunc := ⟨1, .seq (.reg [⟨some 2,none,.mov (.c (j 0))⟩])
(.seq (.block 0 (.seq (.reg [⟨some 4,none,.mov (.t 0)⟩,⟨some 5,none,.len false (.t 4)⟩,⟨some 6,none,.bin .gtr (.t 5) (.c (j 256))⟩,⟨some 3,none,.mov (.t 6)⟩])
(.cond (.t 3) (.seq (.reg [⟨some 2,none,.mov (.c (j 5))⟩])
(.ret)) (.seq (.reg [⟨some 8,none,.mov (.t 0)⟩,⟨some 9,none,.len false (.t 8)⟩,⟨some 10,none,.bin .gtr (.t 9) (.c (j 0))⟩,⟨some 11,none,.mov (.t 10)⟩,⟨some 12,some (11,true),.mov (.t 0)⟩,⟨some 13,some (11,true),.mov (.t 0)⟩,⟨some 14,some (11,true),.len false (.t 13)⟩,⟨some 15,some (11,true),.bin .sub (.t 14) (.c (j 1))⟩,⟨some 16,some (11,true),.iaddr 1 (.t 12) (.t 15)⟩,⟨some 17,some (11,true),.load false 1 (.t 16)⟩,⟨some 18,some (11,true),.bin .eql (.t 17) (.c (.int .u32 (.ofNat 0)))⟩,⟨some 19,none,.pick (.t 11) (.t 18) (.c (.bool false))⟩,⟨some 7,none,.mov (.t 19)⟩])
(.cond (.t 7) (.seq (.reg [⟨some 2,none,.mov (.c (j 9))⟩])
(.ret)) (.skip))))))
(.seq (.reg [⟨some 2,none,.mov (.c (j 0))⟩])
(.ret))), [.tmp 2], none⟩
theorem amok161 : FnOk Tryz.prog 161 am161 := FnOk.mk' quiets Tryz.func161 (pols := []) (keep := none) (by kernel_rfl) rfl
def am162 : AFunc := ⟨1, .seq (.reg [⟨some 1,none,.boxF 3 (.t 0)⟩,⟨some 2,none,.allocB z14 []⟩])
(.seq (.dreg [(⟨some 3,none,.faddr 0 (.t 1)⟩,0,0),(⟨some 4,none,.load false 1 (.t 3)⟩,1,5),(⟨some 5,none,.faddr 1 (.t 1)⟩,0,0),(⟨some 6,none,.load false 1 (.t 5)⟩,3,0),(⟨some 7,none,.call (.c (.func 207 [] [])) [.t 6]⟩,0,0),(⟨some 8,none,.faddr 2 (.t 1)⟩,0,0),(⟨some 9,none,.load false 1 (.t 8)⟩,4,0),(⟨some 10,none,.build z14 [(0,1,.t 4),(1,1,.t 7),(2,1,.t 9)]⟩,0,0),(⟨none,none,.store 3 (.t 2) (.t 10)⟩,0,0)])
(.ret)), [.cell 2 true 3], none⟩
theorem amok162 : FnOk Tryz.prog 162 am162 := FnOk.mk' quiets Tryz.func162 (pols := [(0, 0, .frz)]) (keep := none) (by kernel_rfl) rfl
def am163 : AFunc := ⟨1, .seq (.reg [⟨some 2,none,.mov (.c (.bool false))⟩])
(.seq (.reg [⟨some 3,none,.mov (.t 0)⟩,⟨some 4,none,.call (.c (.func 83 [] [])) [.t 3]⟩,⟨some 5,none,.mov (.t 4)⟩,⟨some 6,some (5,true),.mov (.t 0)⟩,⟨some 7,some (5,true),.len true (.t 6)⟩,⟨some 8,some (5,true),.bin .leq (.t 7) (.c (j 64))⟩,⟨some 9,none,.pick (.t 5) (.t 8) (.c (.bool false))⟩,⟨some 2,none,.mov (.t 9)⟩])
(.ret)), [.tmp 2], none⟩
theorem amok163 : FnOk Tryz.prog 163 am163 := FnOk.mk' quiets Tryz.func163 (pols := []) (keep := none) (by kernel_rfl) rfl
def am164 : AFunc := ⟨1, .seq (.reg [⟨some 2,none,.mov (.c (.bool false))⟩])
(.seq (.reg [⟨some 3,none,.mov (.t 0)⟩,⟨some 4,none,.call (.c (.func 163 [] [])) [.t 3]⟩,⟨some 5,none,.mov (.t 4)⟩,⟨some 6,some (5,true),.mov (.t 0)⟩,⟨some 7,some (5,true),.call (.c (.func 208 [] [])) [.t 6]⟩,⟨some 8,some (5,true),.un .not (.t 7)⟩,⟨some 9,none,.pick (.t 5) (.t 8) (.c (.bool false))⟩,⟨some 2,none,.mov (.t 9)⟩])
(.ret)), [.tmp 2], none⟩
theorem amok164 : FnOk Tryz.prog 164 am164 := FnOk.mk' quiets Tryz.func164 (pols := []) (keep := none) (by kernel_rfl) rfl
def am165 : AFunc := ⟨0, .seq (.reg [⟨some 0,none,.mov (.c (.nilsl))⟩])
(.seq (.reg [⟨some 1,none,.bslF z16 22 [(0,1,.c (.str [47,47])),(1,1,.c (.str [61])),(2,1,.c (.str [124,61])),(3,1,.c (.str [43,61])),(4,1,.c (.str [45,61])),(5,1,.c (.str [42,61])),(6,1,.c (.str [47,61])),(7,1,.c (.str [37,61])),(8,1,.c (.str [47,47,61])),(9,1,.c (.str [111,114])),(10,1,.c (.str [97,110,100])),(11,1,.c (.str [61,61])),(12,1,.c (.str [33,61])),(13,1,.c (.str [60])),(14,1,.c (.str [60,61])),(15,1,.c (.str [62])),(16,1,.c (.str [62,61])),(17,1,.c (.str [43])),(18,1,.c (.str [45])),(19,1,.c (.str [42])),(20,1,.c (.str [47])),(21,1,.c (.str [37]))]⟩,⟨some 0,none,.mov (.t 1)⟩])
(.ret)), [.tmp 0], none⟩
theorem amok165 : FnOk Tryz.prog 165 am165 := FnOk.mk' quiets Tryz.func165 (pols := [(1, 0, .frz)]) (keep := none) (by kernel_rfl) rfl
def am166 : AFunc := ⟨2, .seq (.reg [⟨some 4,none,.mov (.c (.bool false))⟩])
(.seq (.reg [⟨some 5,none,.mov (.t 1)⟩,⟨some 6,none,.mov (.t 0)⟩,⟨some 7,none,.len true (.t 6)⟩,⟨some 8,none,.bin .lss (.t 5) (.t 7)⟩,⟨some 9,none,.mov (.t 8)⟩,⟨some 10,some (9,true),.mov (.t 0)⟩,⟨some 11,some (9,true),.mov (.t 1)⟩,⟨some 12,some (9,true),.indexS (.t 10) (.t 11)⟩,⟨some 13,some (9,true),.bin .geq (.t 12) (.c (.int .u8 (.ofNat 48)))⟩,⟨some 14,none,.pick (.t 9) (.t 13) (.c (.bool false))⟩,⟨some 15,none,.mov (.t 14)⟩,⟨some 16,some (15,true),.mov (.t 0)⟩,⟨some 17,some (15,true),.mov (.t 1)⟩,⟨some 18,some (15,true),.indexS (.t 16) (.t 17)⟩,⟨some 19,some (15,true),.bin .leq (.t 18) (.c (.int .u8 (.ofNat 57)))⟩,⟨some 20,none,.pick (.t 15) (.t 19) (.c (.bool false))⟩,⟨some 4,none,.mov (.t 20)⟩])
(.ret)), [.tmp 4], none⟩
theorem amok166 : FnOk Tryz.prog 166 am166 := FnOk.mk' quiets Tryz.func166 (pols := []) (keep := none) (by kernel_rfl) rfl
def am167 : AFunc := ⟨1, .seq (.reg [⟨some 1,none,.boxB 3 (.t 0) []⟩,⟨some 2,none,.allocB z14 []⟩,⟨some 3,none,.mov (.c (j 0))⟩])
(.seq (.reg [⟨some 5,none,.faddr 1 (.t 1)⟩,⟨some 6,none,.load false 1 (.t 5)⟩,⟨some 7,none,.call (.c (.func 209 [] [])) [.t 6]⟩,⟨some 4,none,.mov (.t 7)⟩])
(.seq (.seq (.reg [⟨some 8,none,.mov (.t 4)⟩,⟨some 9,none,.len false (.t 8)⟩,⟨some 10,none,.bin .eql (.t 9) (.c (j 0))⟩])
(.cond (.t 10) (.seq (.reg [⟨some 11,none,.build z14 []⟩,⟨none,none,.store 3 (.t 2) (.t 11)⟩,⟨some 3,none,.mov (.c (j 0))⟩])
(.ret)) (.skip)))
(.seq (.block 0 (.loop (.seq (.seq (.reg [⟨some 12,none,.mov (.t 4)⟩,⟨some 13,none,.iaddr 1 (.t 12) (.c (j 0))⟩,⟨some 14,none,.load false 1 (.t 13)⟩,⟨some 15,none,.bin .eql (.t 14) (.c (j 0))⟩])
(.cond (.t 15) (.skip) (.exit 0)))
(.block 1 (.seq (.reg [⟨some 16,none,.mov (.t 4)⟩,⟨some 17,none,.sliceL 1 (.t 16) (some (.c (j 1))) none none⟩,⟨some 4,none,.mov (.t 17)⟩])
(.reg [⟨some 18,none,.faddr 2 (.t 1)⟩,⟨some 19,none,.load false 1 (.t 18)⟩,⟨some 20,none,.bin .add (.t 19) (.c (j 1))⟩,⟨some 21,none,.faddr 2 (.t 1)⟩,⟨none,none,.store 1 (.t 21) (.t 20)⟩]))))))
(.seq (.block 2 (.seq (.reg [⟨some 23,none,.mov (.t 4)⟩,⟨some 24,none,.len false (.t 23)⟩,⟨some 25,none,.bin .gtr (.t 24) (.c (j 300))⟩,⟨some 22,none,.mov (.t 25)⟩])
(.cond (.t 22) (.seq (.reg [⟨some 26,none,.build z14 []⟩,⟨none,none,.store 3 (.t 2) (.t 26)⟩,⟨some 3,none,.mov (.c (j 51))⟩])
(.ret)) (.seq (.reg [⟨some 28,none,.faddr 2 (.t 1)⟩,⟨some 29,none,.load false 1 (.t 28)⟩,⟨some 30,none,.bin .lss (.t 29) (.c (.int .i64 (.negSucc 999)))⟩,⟨some 31,none,.mov (.t 30)⟩,⟨some 32,some (31,false),.faddr 2 (.t 1)⟩,⟨some 33,some (31,false),.load false 1 (.t 32)⟩,⟨some 34,some (31,false),.bin .gtr (.t 33) (.c (j 1000))⟩,⟨some 35,none,.pick (.t 31) (.c (.bool true)) (.t 34)⟩,⟨some 27,none,.mov (.t 35)⟩])
(.cond (.t 27) (.seq (.reg [⟨some 36,none,.build z14 []⟩,⟨none,none,.store 3 (.t 2) (.t 36)⟩,⟨some 3,none,.mov (.c (j 52))⟩])
(.ret)) (.skip))))))
(.seq (.dreg [(⟨some 37,none,.faddr 0 (.t 1)⟩,0,0),(⟨some 38,none,.load false 1 (.t 37)⟩,1,4),(⟨some 39,none,.mov (.t 4)⟩,0,0),(⟨some 40,none,.call (.c (.func 210 [] [])) [.t 39]⟩,0,0),(⟨some 41,none,.faddr 2 (.t 1)⟩,0,0),(⟨some 42,none,.load false 1 (.t 41)⟩,3,0),(⟨some 43,none,.build z14 [(0,1,.t 38),(1,1,.t 40),(2,1,.t 42)]⟩,0,0),(⟨none,none,.store 3 (.t 2) (.t 43)⟩,0,0),(⟨some 3,none,.mov (.c (j 0))⟩,0,0)])
(.ret)))))), [.cell 2 true 3,.tmp 3], none⟩
theorem amok167 : FnOk Tryz.prog 167 am167 := FnOk.mk' quiets Tryz.func167 (pols := []) (keep := none) (by kernel_rfl) rfl
def am169 : AFunc := ⟨1, .seq (.reg [⟨some 2,none,.mov (.c (.nilsl))⟩])
(.seq (.block 0 (.seq (.reg [⟨some 4,none,.mov (.t 0)⟩,⟨some 5,none,.bin .lss (.t 4) (.c (j 128))⟩,⟨some 3,none,.mov (.t 5)⟩])
(.cond (.t 3) (.seq (.reg [⟨some 6,none,.mov (.t 0)⟩,⟨some 7,none,.convI .u8 (.t 6)⟩,⟨some 8,none,.bslF z12 1 [(0,1,.t 7)]⟩,⟨some 2,none,.mov (.t 8)⟩])
(.ret)) (.seq (.reg [⟨some 10,none,.mov (.t 0)⟩,⟨some 11,none,.bin .lss (.t 10) (.c (j 2048))⟩,⟨some 9,none,.mov (.t 11)⟩])
(.cond (.t 9) (.seq (.reg [⟨some 12,none,.mov (.t 0)⟩,⟨some 13,none,.bin .quo (.t 12) (.c (j 64))⟩,⟨some 14,none,.bin .add (.c (j 192)) (.t 13)⟩,⟨some 15,none,.convI .u8 (.t 14)⟩,⟨some 16,none,.mov (.t 0)⟩,⟨some 17,none,.bin .rem (.t 16) (.c (j 64))⟩,⟨some 18,none,.bin .add (.c (j 128)) (.t 17)⟩,⟨some 19,none,.convI .u8 (.t 18)⟩,⟨some 20,none,.bslF z17 2 [(0,1,.t 15),(1,1,.t 19)]⟩,⟨some 2,none,.mov (.t 20)⟩])
(.ret)) (.seq (.reg [⟨some 22,none,.mov (.t 0)⟩,⟨some 23,none,.bin .lss (.t 22) (.c (j 65536))⟩,⟨some 21,none,.mov (.t 23)⟩])
(.cond (.t 21) (.seq (.reg [⟨some 24,none,.mov (.t 0)⟩,⟨some 25,none,.bin .quo (.t 24) (.c (j 4096))⟩,⟨some 26,none,.bin .add (.c (j 224)) (.t 25)⟩,⟨some 27,none,.convI .u8 (.t 26)⟩,⟨some 28,none,.mov (.t 0)⟩,⟨some 29,none,.bin .quo (.t 28) (.c (j 64))⟩,⟨some 30,none,.bin .rem (.t 29) (.c (j 64))⟩,⟨some 31,none,.bin .add (.c (j 128)) (.t 30)⟩,⟨some 32,none,.convI .u8 (.t 31)⟩,⟨some 33,none,.mov (.t 0)⟩,⟨some 34,none,.bin .rem (.t 33) (.c (j 64))⟩,⟨some 35,none,.bin .add (.c (j 128)) (.t 34)⟩,⟨some 36,none,.convI .u8 (.t 35)⟩,⟨some 37,none,.bslF z18 3 [(0,1,.t 27),(1,1,.t 32),(2,1,.t 36)]⟩,⟨some 2,none,.mov (.t 37)⟩])
(.ret)) (.skip))))))))
(.seq (.reg [⟨some 38,none,.mov (.t 0)⟩,⟨some 39,none,.bin .quo (.t 38) (.c (j 262144))⟩,⟨some 40,none,.bin .add (.c (j 240)) (.t 39)⟩,⟨some 41,none,.convI .u8 (.t 40)⟩,⟨some 42,none,.mov (.t 0)⟩,⟨some 43,none,.bin .quo (.t 42) (.c (j 4096))⟩,⟨some 44,none,.bin .rem (.t 43) (.c (j 64))⟩,⟨some 45,none,.bin .add (.c (j 128)) (.t 44)⟩,⟨some 46,none,.convI .u8 (.t 45)⟩,⟨some 47,none,.mov (.t 0)⟩,⟨some 48,none,.bin .quo (.t 47) (.c (j 64))⟩,⟨some 49,none,.bin .rem (.t 48) (.c (j 64))⟩,⟨some 50,none,.bin .add (.c (j 128)) (.t 49)⟩,⟨some 51,none,.convI .u8 (.t 50)⟩,⟨some 52,none,.mov (.t 0)⟩,⟨some 53,none,.bin .rem (.t 52) (.c (j 64))⟩,⟨some 54,none,.bin .add (.c (j 128)) (.t 53)⟩,⟨some 55,none,.convI .u8 (.t 54)⟩,⟨some 56,none,.bslF z19 4 [(0,1,.t 41),(1,1,.t 46),(2,1,.t 51),(3,1,.t 55)]⟩,⟨some 2,none,.mov (.t 56)⟩])
(.ret))), [.tmp 2], none⟩
theorem amok169 : FnOk Tryz.prog 169 am169 := FnOk.mk' quiets Tryz.func169 (pols := [(2, 2, .frz),(4, 8, .frz),(6, 13, .frz),(7, 18, .frz)]) (keep := none) (by kernel_rfl) rfl
def am170 : AFunc := ⟨1, .seq (.reg [⟨some 2,none,.mov (.c (.bool false))⟩])
(.seq (.reg [⟨some 3,none,.mov (.t 0)⟩,⟨some 4,none,.bin .geq (.t 3) (.c (j 0))⟩,⟨some 5,none,.mov (.t 4)⟩,⟨some 6,some (5,true),.mov (.t 0)⟩,⟨some 7,some (5,true),.bin .leq (.t 6) (.c (j 1114111))⟩,⟨some 8,none,.pick (.t 5) (.t 7) (.c (.bool false))⟩,⟨some 9,none,.mov (.t 8)⟩,⟨some 10,some (9,true),.mov (.t 0)⟩,⟨some 11,some (9,true),.bin .lss (.t 10) (.c (j 55296))⟩,⟨some 12,some (9,true),.mov (.t 11)⟩,⟨some 13,some (12,false),.mov (.t 0)⟩,⟨some 14,some (12,false),.bin .gtr (.t 13) (.c (j 57343))⟩,⟨some 15,some (9,true),.pick (.t 12) (.c (.bool true)) (.t 14)⟩,⟨some 16,none,.pick (.t 9) (.t 15) (.c (.bool false))⟩,⟨some 2,none,.mov (.t 16)⟩])
(.ret)), [.tmp 2], none⟩
theorem amok170 : FnOk Tryz.prog 170 am170 := FnOk.mk' quiets Tryz.func170 (pols := []) (keep := none) (by kernel_rfl) rfl
def am171 : AFunc := ⟨1, .seq (.reg [⟨some 2,none,.mov (.c (.str []))⟩])
(.seq (.seq (.dreg [(⟨some 3,none,.mov (.t 0)⟩,0,0),(⟨some 4,none,.call (.c (.func 172 [] [])) [.t 3]⟩,0,0),(⟨some 5,none,.bin .eql (.t 4) (.c (j 1))⟩,0,0),(⟨some 6,none,.mov (.t 5)⟩,0,0),(⟨some 7,some (6,true),.mov (.t 0)⟩,0,0),(⟨some 8,some (6,true),.nilchk (.t 7)⟩,0,0),(⟨some 9,some (6,true),.faddr 0 (.t 8)⟩,0,0),(⟨some 10,some (6,true),.load false 1 (.t 9)⟩,7,0),(⟨some 11,some (6,true),.mov (.t 0)⟩,0,0),(⟨some 12,some (6,true),.nilchk (.t 11)⟩,0,0),(⟨some 13,some (6,true),.faddr 1 (.t 12)⟩,0,0),(⟨some 14,some (6,true),.load false 1 (.t 13)⟩,11,0),(⟨some 15,some (6,true),.iaddr 6 (.t 10) (.t 14)⟩,0,0),(⟨some 16,some (6,true),.faddr 1 (.t 15)⟩,0,0),(⟨some 17,some (6,true),.load false 1 (.t 16)⟩,14,0),(⟨some 18,some (6,true),.call (.c (.func 208 [] [])) [.t 17]⟩,0,0),(⟨some 19,none,.pick (.t 6) (.t 18) (.c (.bool false))⟩,0,0)])
(.cond (.t 19) (.reg [⟨some 20,none,.mov (.t 0)⟩,⟨some 21,none,.call (.c (.func 60 [] [])) [.t 20]⟩]) (.skip)))
(.seq (.reg [⟨some 22,none,.mov (.t 0)⟩,⟨some 23,none,.call (.c (.func 129 [] [])) [.t 22,.c (j 1)]⟩,⟨some 2,none,.mov (.t 23)⟩])
(.ret))), [.tmp 2], none⟩
theorem amok171 : FnOk Tryz.prog 171 am171 := FnOk.mk' quiets Tryz.func171 (pols := []) (keep := none) (by kernel_rfl) rfl
def am172 : AFunc := ⟨1, .seq (.reg [⟨some 2,none,.mov (.c (j 0))⟩])
(.seq (.seq (.dreg [(⟨some 3,none,.mov (.t 0)⟩,0,0),(⟨some 4,none,.nilchk (.t 3)⟩,0,0),(⟨some 5,none,.faddr 4 (.t 4)⟩,0,0),(⟨some 6,none,.load false 1 (.t 5)⟩,3,0),(⟨some 7,none,.bin .neq (.t 6) (.c (j 0))⟩,0,0),(⟨some 8,none,.mov (.t 7)⟩,0,0),(⟨some 9,some (8,false),.mov (.t 0)⟩,0,0),(⟨some 10,some (8,false),.nilchk (.t 9)⟩,0,0),(⟨some 11,some (8,false),.faddr 1 (.t 10)⟩,0,0),(⟨some 12,some (8,false),.load false 1 (.t 11)⟩,9,0),(⟨some 13,some (8,false),.mov (.t 0)⟩,0,0),(⟨some 14,some (8,false),.nilchk (.t 13)⟩,0,0),(⟨some 15,some (8,false),.faddr 0 (.t 14)⟩,0,0),(⟨some 16,some (8,false),.load false 1 (.t 15)⟩,13,0),(⟨some 17,some (8,false),.len false (.t 16)⟩,0,0),(⟨some 18,some (8,false),.bin .geq (.t 12) (.t 17)⟩,0,0),(⟨some 19,none,.pick (.t 8) (.c (.bool true)) (.t 18)⟩,0,0)])
(.cond (.t 19) (.seq (.reg [⟨some 2,none,.mov (.c (j 0))⟩])
(.ret)) (.skip)))
(.seq (.dreg [(⟨some 20,none,.mov (.t 0)⟩,0,0),(⟨some 21,none,.nilchk (.t 20)⟩,0,0),(⟨some 22,none,.faddr 0 (.t 21)⟩,0,0),(⟨some 23,none,.load false 1 (.t 22)⟩,3,0),(⟨some 24,none,.mov (.t 0)⟩,0,0),(⟨some 25,none,.nilchk (.t 24)⟩,0,0),(⟨some 26,none,.faddr 1 (.t 25)⟩,0,0),(⟨some 27,none,.load false 1 (.t 26)⟩,7,0),(⟨some 28,none,.iaddr 6 (.t 23) (.t 27)⟩,0,0),(⟨some 29,none,.faddr 0 (.t 28)⟩,0,0),(⟨some 30,none,.load false 1 (.t 29)⟩,10,0),(⟨some 2,none,.mov (.t 30)⟩,0,0)])
(.ret))), [.tmp 2], none⟩
theorem amok172 : FnOk Tryz.prog 172 am172 := FnOk.mk' quiets Tryz.func172 (pols := []) (keep := none) (by kernel_rfl) rfl
def am173 : AFunc := ⟨1, .seq (.reg [⟨some 2,none,.allocB z0 []⟩])
(.seq (.reg [⟨some 5,none,.mov (.t 0)⟩,⟨some 6,none,.call (.c (.func 211 [] [])) [.t 5]⟩,⟨some 3,none,.hole 10⟩,⟨some 3,none,.fill 10 ⟨.t 6, none⟩⟩])
(.seq (.reg [⟨some 7,none,.mov (.t 0)⟩,⟨some 8,none,.bslF z4 8 [(0,1,.c (.str [61])),(1,1,.c (.str [124,61])),(2,1,.c (.str [43,61])),(3,1,.c (.str [45,61])),(4,1,.c (.str [42,61])),(5,1,.c (.str [47,61])),(6,1,.c (.str [37,61])),(7,1,.c (.str [47,47,61]))]⟩,⟨some 9,none,.call (.c (.func 212 [] [])) [.t 7,.t 8]⟩,⟨some 4,none,.mov (.t 9)⟩])
(.seq (.seq (.reg [⟨some 10,none,.mov (.t 4)⟩,⟨some 11,none,.bin .eql (.t 10) (.c (.str []))⟩])
(.cond (.t 11) (.seq (.reg [⟨some 12,none,.load true 10 (.t 3)⟩,⟨none,none,.store 10 (.t 2) (.t 12)⟩])
(.ret)) (.skip)))
(.seq (.dreg [(⟨some 13,none,.mov (.t 4)⟩,0,0),(⟨some 14,none,.load true 10 (.t 3)⟩,1,4),(⟨some 15,none,.mov (.t 0)⟩,0,0),(⟨some 16,none,.call (.c (.func 211 [] [])) [.t 15]⟩,0,0),(⟨some 17,none,.call (.c (.func 174 [] [])) [.t 13,.t 14,.t 16]⟩,0,0),(⟨none,none,.store 10 (.t 2) (.t 17)⟩,0,0)])
(.ret))))), [.cell 2 true 10], none⟩
theorem amok173 : FnOk Tryz.prog 173 am173 := FnOk.mk' quiets Tryz.func173 (pols := [(1, 2, .hole),(1, 3, .hole),(2, 1, .frz)]) (keep := none) (by kernel_rfl) rfl
def am174 : AFunc := ⟨3, .seq (.reg [⟨some 4,none,.boxB 10 (.t 1) []⟩,⟨some 5,none,.boxB 10 (.t 2) []⟩,⟨some 6,none,.allocB z0 []⟩])
(.seq (.reg [⟨some 7,none,.mov (.t 0)⟩,⟨some 8,none,.load true 10 (.t 4)⟩,⟨some 9,none,.load true 10 (.t 5)⟩,⟨some 10,none,.bslF z20 2 [(0,10,.t 8),(10,10,.t 9)]⟩,⟨some 11,none,.faddr 9 (.t 4)⟩,⟨some 12,none,.load false 1 (.t 11)⟩,⟨some 13,none,.build z0 [(0,1,.c (j 29)),(1,1,.t 7),(6,1,.t 10),(9,1,.t 12)]⟩,⟨none,none,.store 10 (.t 6) (.t 13)⟩])
(.ret)), [.cell 6 true 10], none⟩
theorem amok174 : FnOk Tryz.prog 174 am174 := FnOk.mk' quiets Tryz.func174 (pols := [(1, 3, .frz)]) (keep := none) (by kernel_rfl) rfl
def am176 : AFunc := ⟨2, .seq (.reg [⟨some 4,none,.mov (.c (j 0))⟩])
(.seq (.seq (.reg [⟨some 6,none,.mov (.t 0)⟩,⟨some 7,none,.len false (.t 6)⟩,⟨some 8,none,.mov (.c (j 0))⟩])
(.block 0 (.loop (.seq (.reg [⟨some 9,none,.bin .lss (.t 8) (.t 7)⟩])
(.seq (.cond (.t 9) (.skip) (.exit 0))
(.seq (.block 1 (.seq (.reg [⟨some 10,none,.mov (.t 8)⟩,⟨some 5,none,.mov (.t 10)⟩])
(.seq (.reg [⟨some 11,none,.mov (.t 1)⟩,⟨some 12,none,.mov (.t 0)⟩,⟨some 13,none,.mov (.t 5)⟩,⟨some 14,none,.iaddr 1 (.t 12) (.t 13)⟩,⟨some 15,none,.load false 1 (.t 14)⟩,⟨some 16,none,.bin .eql (.t 11) (.t 15)⟩])
(.cond (.t 16) (.seq (.reg [⟨some 17,none,.mov (.t 5)⟩,⟨some 4,none,.mov (.t 17)⟩])
(.ret)) (.skip)))))
(.reg [⟨some 18,none,.bin .add (.t 8) (.c (j 1))⟩,⟨some 8,none,.mov (.t 18)⟩])))))))
(.seq (.reg [⟨some 4,none,.mov (.c (.int .i64 (.negSucc 0)))⟩])
(.ret))), [.tmp 4], none⟩
theorem amok176 : FnOk Tryz.prog 176 am176 := FnOk.mk' quiets Tryz.func176 (pols := []) (keep := none) (by kernel_rfl) rfl
def am177 : AFunc := ⟨1, .seq (.reg [⟨some 2,none,.allocB z21 []⟩,⟨some 3,none,.mov (.c (.bool false))⟩])
(.seq (.reg [⟨some 5,none,.mov (.t 0)⟩,⟨some 6,none,.build z22 [(0,1,.t 5),(1,1,.c (.bool true))]⟩,⟨some 7,none,.boxB 2 (.t 6) []⟩,⟨some 4,none,.mov (.t 7)⟩])
(.seq (.reg [⟨some 8,none,.mov (.t 4)⟩,⟨some 9,none,.call (.c (.func 213 [] [])) [.t 8,.c (.str [45])]⟩,⟨some 10,none,.faddr 0 (.t 2)⟩,⟨none,none,.store 1 (.t 10) (.t 9)⟩])
(.seq (.reg [⟨some 11,none,.mov (.t 4)⟩,⟨some 12,none,.call (.c (.func 214 [] [])) [.t 11]⟩,⟨some 13,none,.faddr 2 (.t 2)⟩,⟨none,none,.store 1 (.t 13) (.t 12)⟩])
(.seq (.seq (.reg [⟨some 14,none,.mov (.t 4)⟩,⟨some 15,none,.call (.c (.func 213 [] [])) [.t 14,.c (.str [46])]⟩])
(.cond (.t 15) (.reg [⟨some 16,none,.mov (.t 4)⟩,⟨some 17,none,.call (.c (.func 214 [] [])) [.t 16]⟩,⟨some 18,none,.faddr 3 (.t 2)⟩,⟨none,none,.store 1 (.t 18) (.t 17)⟩]) (.skip)))
(.seq (.seq (.reg [⟨some 19,none,.mov (.t 4)⟩,⟨some 20,none,.call (.c (.func 213 [] [])) [.t 19,.c (.str [101,69])]⟩])
(.cond (.t 20) (.seq (.reg [⟨some 21,none,.mov (.t 4)⟩,⟨some 22,none,.nilchk (.t 21)⟩,⟨some 23,none,.faddr 0 (.t 22)⟩,⟨some 24,none,.load false 1 (.t 23)⟩,⟨some 25,none,.bin .neq (.t 24) (.c (.str []))⟩,⟨some 26,none,.mov (.t 25)⟩,⟨some 27,some (26,true),.mov (.t 4)⟩,⟨some 28,some (26,true),.nilchk (.t 27)⟩,⟨some 29,some (26,true),.faddr 0 (.t 28)⟩,⟨some 30,some (26,true),.load false 1 (.t 29)⟩,⟨some 31,some (26,true),.indexS (.t 30) (.c (j 0))⟩,⟨some 32,some (26,true),.bin .eql (.t 31) (.c (.int .u8 (.ofNat 45)))⟩,⟨some 33,none,.pick (.t 26) (.t 32) (.c (.bool false))⟩,⟨some 34,none,.faddr 1 (.t 2)⟩,⟨none,none,.store 1 (.t 34) (.t 33)⟩])
(.seq (.reg [⟨some 35,none,.mov (.t 4)⟩,⟨some 36,none,.call (.c (.func 213 [] [])) [.t 35,.c (.str [43,45])]⟩])
(.reg [⟨some 37,none,.mov (.t 4)⟩,⟨some 38,none,.call (.c (.func 214 [] [])) [.t 37]⟩,⟨some 39,none,.faddr 4 (.t 2)⟩,⟨none,none,.store 1 (.t 39) (.t 38)⟩]))) (.skip)))
(.seq (.dreg [(⟨some 40,none,.load true 5 (.t 2)⟩,0,0),(⟨some 41,none,.mov (.t 4)⟩,0,0),(⟨some 42,none,.nilchk (.t 41)⟩,0,0),(⟨some 43,none,.faddr 1 (.t 42)⟩,0,0),(⟨some 44,none,.load false 1 (.t 43)⟩,4,0),(⟨some 45,none,.mov (.t 44)⟩,0,0),(⟨some 46,some (45,true),.mov (.t 4)⟩,0,0),(⟨some 47,some (45,true),.nilchk (.t 46)⟩,0,0),(⟨some 48,some (45,true),.faddr 0 (.t 47)⟩,0,0),(⟨some 49,some (45,true),.load false 1 (.t 48)⟩,9,0),(⟨some 50,some (45,true),.bin .eql (.t 49) (.c (.str []))⟩,0,0),(⟨some 51,none,.pick (.t 45) (.t 50) (.c (.bool false))⟩,0,0),(⟨some 52,none,.mov (.t 51)⟩,0,0),(⟨some 53,some (52,true),.faddr 2 (.t 2)⟩,0,0),(⟨some 54,some (52,true),.load false 1 (.t 53)⟩,14,0),(⟨some 55,some (52,true),.len true (.t 54)⟩,0,0),(⟨some 56,some (52,true),.bin .eql (.t 55) (.c (j 1))⟩,0,0),(⟨some 57,some (52,true),.mov (.t 56)⟩,0,0),(⟨some 58,some (57,false),.faddr 2 (.t 2)⟩,0,0),(⟨some 59,some (57,false),.load false 1 (.t 58)⟩,19,0),(⟨some 60,some (57,false),.indexS (.t 59) (.c (j 0))⟩,0,0),(⟨some 61,some (57,false),.bin .neq (.t 60) (.c (.int .u8 (.ofNat 48)))⟩,0,0),(⟨some 62,some (52,true),.pick (.t 57) (.c (.bool true)) (.t 61)⟩,0,0),(⟨some 63,none,.pick (.t 52) (.t 62) (.c (.bool false))⟩,0,0),(⟨none,none,.store 5 (.t 2) (.t 40)⟩,0,0),(⟨some 3,none,.mov (.t 63)⟩,0,0)])
(.ret))))))), [.cell 2 true 5,.tmp 3], none⟩
theorem amok177 : FnOk Tryz.prog 177 am177 := FnOk.mk' quiets Tryz.func177 (pols := []) (keep := none) (by kernel_rfl) rfl
def am178 : AFunc := ⟨2, .seq (.reg [⟨some 4,none,.mov (.c (j 0))⟩,⟨some 5,none,.mov (.c (.bool false))⟩])
(.seq (.reg [⟨some 9,none,.mov (.t 0)⟩,⟨some 10,none,.call (.c (.func 215 [] [])) [.t 9,.c (.str [48])]⟩,⟨some 0,none,.mov (.t 10)⟩])
(.seq (.seq (.reg [⟨some 11,none,.mov (.t 0)⟩,⟨some 12,none,.len true (.t 11)⟩,⟨some 13,none,.bin .gtr (.t 12) (.c (j 6))⟩])
(.cond (.t 13) (.seq (.reg [⟨some 4,none,.mov (.c (j 0))⟩,⟨some 5,none,.mov (.c (.bool false))⟩])
(.ret)) (.skip)))
(.seq (.reg [⟨some 6,none,.mov (.c (j 0))⟩])
(.seq (.seq (.reg [⟨some 14,none,.mov (.t 0)⟩,⟨some 15,none,.convSB (.t 14)⟩,⟨some 16,none,.len false (.t 15)⟩,⟨some 17,none,.mov (.c (j 0))⟩])
(.block 0 (.loop (.seq (.reg [⟨some 18,none,.bin .lss (.t 17) (.t 16)⟩])
(.seq (.cond (.t 18) (.skip) (.exit 0))
(.seq (.block 1 (.seq (.reg [⟨some 19,none,.iaddr 1 (.t 15) (.t 17)⟩,⟨some 20,none,.load false 1 (.t 19)⟩,⟨some 8,none,.mov (.t 20)⟩])
(.reg [⟨some 21,none,.mov (.t 6)⟩,⟨some 22,none,.bin .mul (.c (j 10)) (.t 21)⟩,⟨some 23,none,.mov (.t 8)⟩,⟨some 24,none,.bin .sub (.t 23) (.c (.int .u8 (.ofNat 48)))⟩,⟨some 25,none,.convI .i64 (.t 24)⟩,⟨some 26,none,.bin .add (.t 22) (.t 25)⟩,⟨some 6,none,.mov (.t 26)⟩])))
(.reg [⟨some 27,none,.bin .add (.t 17) (.c (j 1))⟩,⟨some 17,none,.mov (.t 27)⟩])))))))
(.seq (.seq (.reg [⟨some 28,none,.mov (.t 1)⟩])
(.cond (.t 28) (.reg [⟨some 29,none,.mov (.t 6)⟩,⟨some 30,none,.un .neg (.t 29)⟩,⟨some 6,none,.mov (.t 30)⟩]) (.skip)))
(.seq (.reg [⟨some 31,none,.mov (.t 6)⟩,⟨some 4,none,.mov (.t 31)⟩,⟨some 5,none,.mov (.c (.bool true))⟩])
(.ret))))))), [.tmp 4,.tmp 5], none⟩
theorem amok178 : FnOk Tryz.prog 178 am178 := FnOk.mk' quiets Tryz.func178 (pols := []) (keep := none) (by kernel_rfl) rfl
def am179 : AFunc := ⟨2, .seq (.reg [⟨some 4,none,.mov (.c (.nilsl))⟩])
(.seq (.reg [⟨some 5,none,.mov (.t 0)⟩,⟨some 4,none,.mov (.t 5)⟩])
(.ret)), [.tmp 4], none⟩
theorem amok179 : FnOk Tryz.prog 179 am179 := FnOk.mk' quiets Tryz.func179 (pols := []) (keep := none) (by kernel_rfl) rfl
def am180 : AFunc := ⟨1, .seq (.reg [⟨some 2,none,.mov (.c (.nilsl))⟩,⟨some 3,none,.mov (.c (j 0))⟩])
(.seq (.block 0 (.seq (.reg [⟨some 7,none,.mov (.t 0)⟩,⟨some 8,none,.len true (.t 7)⟩,⟨some 9,none,.bin .eql (.t 8) (.c (j 0))⟩,⟨some 6,none,.mov (.t 9)⟩])
(.cond (.t 6) (.seq (.reg [⟨some 2,none,.mov (.c (.nilsl))⟩,⟨some 3,none,.mov (.c (j 8))⟩])
(.ret)) (.seq (.reg [⟨some 11,none,.mov (.t 0)⟩,⟨some 12,none,.len true (.t 11)⟩,⟨some 13,none,.bin .gtr (.t 12) (.c (j 2400))⟩,⟨some 10,none,.mov (.t 13)⟩])
(.cond (.t 10) (.seq (.reg [⟨some 2,none,.mov (.c (.nilsl))⟩,⟨some 3,none,.mov (.c (j 5))⟩])
(.ret)) (.seq (.reg [⟨some 15,none,.mov (.t 0)⟩,⟨some 16,none,.convSB (.t 15)⟩,⟨some 17,none,.call (.c (.func 188 [] [])) [.t 16,.c (.func 216 [] [])]⟩,⟨some 14,none,.mov (.t 17)⟩])
(.cond (.t 14) (.seq (.reg [⟨some 2,none,.mov (.c (.nilsl))⟩,⟨some 3,none,.mov (.c (j 32))⟩])
(.ret)) (.skip))))))))
(.seq (.reg [⟨some 4,none,.mov (.c (.nilsl))⟩])
(.seq (.block 1 (.loop (.seq (.seq (.reg [⟨some 18,none,.mov (.t 0)⟩,⟨some 19,none,.bin .neq (.t 18) (.c (.str []))⟩])
(.cond (.t 19) (.skip) (.exit 1)))
(.block 2 (.seq (.reg [⟨some 20,none,.mov (.t 0)⟩,⟨some 21,none,.len true (.t 20)⟩,⟨some 22,none,.bin .sub (.t 21) (.c (j 1))⟩,⟨some 23,none,.bin .rem (.t 22) (.c (j 9))⟩,⟨some 24,none,.bin .add (.t 23) (.c (j 1))⟩,⟨some 5,none,.mov (.t 24)⟩])
(.seq (.dreg [(⟨some 25,none,.mov (.t 4)⟩,0,0),(⟨some 26,none,.bslF z23 1 [(0,1,.c (.int .u32 (.ofNat 1000000000)))]⟩,0,0),(⟨some 27,none,.call (.c (.func 217 [] [])) [.t 25,.t 26]⟩,0,0),(⟨some 28,none,.mov (.t 0)⟩,0,0),(⟨some 29,none,.mov (.t 5)⟩,0,0),(⟨some 30,none,.sliceS (.t 28) none (some (.t 29))⟩,0,0),(⟨some 31,none,.call (.c (.func 219 [] [])) [.t 30]⟩,0,0),(⟨some 32,none,.bslF z23 1 [(0,1,.t 31)]⟩,0,0),(⟨some 33,none,.call (.c (.func 220 [] [])) [.t 32]⟩,0,0),(⟨some 34,none,.call (.c (.func 218 [] [])) [.t 27,.t 33]⟩,0,0),(⟨some 4,none,.mov (.t 34)⟩,0,0)])
(.reg [⟨some 35,none,.mov (.t 0)⟩,⟨some 36,none,.mov (.t 5)⟩,⟨some 37,none,.sliceS (.t 35) (some (.t 36)) none⟩,⟨some 0,none,.mov (.t 37)⟩])))))))
(.seq (.reg [⟨some 38,none,.mov (.t 4)⟩,⟨some 2,none,.mov (.t 38)⟩,⟨some 3,none,.mov (.c (j 0))⟩])
(.ret))))), [.tmp 2,.tmp 3], none⟩
theorem amok180 : FnOk Tryz.prog 180 am180 := FnOk.mk' quiets Tryz.func180 (pols := [(10, 1, .frz),(10, 7, .frz)]) (keep := none) (by kernel_rfl) rfl
def am181 : AFunc := ⟨1, .seq (.reg [⟨some 1,none,.boxB 3 (.t 0) []⟩,⟨some 2,none,.allocB z14 []⟩,⟨some 3,none,.mov (.c (j 0))⟩])
(.seq (.seq (.reg [⟨some 4,none,.load true 3 (.t 1)⟩,⟨some 5,none,.call (.c (.func 221 [] [])) [.t 4]⟩])
(.cond (.t 5) (.seq (.reg [⟨some 6,none,.build z14 []⟩,⟨none,none,.store 3 (.t 2) (.t 6)⟩,⟨some 3,none,.mov (.c (j 0))⟩])
(.ret)) (.skip)))
(.seq (.reg [⟨some 7,none,.load true 3 (.t 1)⟩,⟨some 8,none,.call (.c (.func 222 [] [])) [.t 7]⟩,⟨none,none,.store 3 (.t 1) (.t 8)⟩])
(.seq (.block 0 (.seq (.reg [⟨some 10,none,.faddr 0 (.t 1)⟩,⟨some 11,none,.faddr 1 (.t 10)⟩,⟨some 12,none,.load false 1 (.t 11)⟩,⟨some 13,none,.call (.c (.func 223 [] [])) [.t 12]⟩,⟨some 14,none,.bin .gtr (.t 13) (.c (j 300))⟩,⟨some 9,none,.mov (.t 14)⟩])
(.cond (.t 9) (.seq (.reg [⟨some 15,none,.build z14 []⟩,⟨none,none,.store 3 (.t 2) (.t 15)⟩,⟨some 3,none,.mov (.c (j 51))⟩])
(.ret)) (.seq (.reg [⟨some 17,none,.faddr 0 (.t 1)⟩,⟨some 18,none,.faddr 2 (.t 17)⟩,⟨some 19,none,.load false 1 (.t 18)⟩,⟨some 20,none,.bin .lss (.t 19) (.c (.int .i64 (.negSucc 999)))⟩,⟨some 21,none,.mov (.t 20)⟩,⟨some 22,some (21,false),.faddr 0 (.t 1)⟩,⟨some 23,some (21,false),.faddr 2 (.t 22)⟩,⟨some 24,some (21,false),.load false 1 (.t 23)⟩,⟨some 25,some (21,false),.bin .gtr (.t 24) (.c (j 1000))⟩,⟨some 26,none,.pick (.t 21) (.c (.bool true)) (.t 25)⟩,⟨some 16,none,.mov (.t 26)⟩])
(.cond (.t 16) (.seq (.reg [⟨some 27,none,.build z14 []⟩,⟨none,none,.store 3 (.t 2) (.t 27)⟩,⟨some 3,none,.mov (.c (j 52))⟩])
(.ret)) (.skip))))))
(.seq (.reg [⟨some 28,none,.faddr 0 (.t 1)⟩,⟨some 29,none,.load true 3 (.t 28)⟩,⟨none,none,.store 3 (.t 2) (.t 29)⟩,⟨some 3,none,.mov (.c (j 0))⟩])
(.ret))))), [.cell 2 true 3,.tmp 3], none⟩
theorem amok181 : FnOk Tryz.prog 181 am181 := FnOk.mk' quiets Tryz.func181 (pols := []) (keep := none) (by kernel_rfl) rfl
def am183 : AFunc := ⟨2, .seq (.reg [⟨some 4,none,.mov (.c (.nilsl))⟩])
(.seq (.dreg [(⟨some 8,none,.mov (.t 0)⟩,0,0),(⟨some 9,none,.nilchk (.t 8)⟩,0,0),(⟨some 10,none,.faddr 0 (.t 9)⟩,0,0),(⟨some 11,none,.load false 1 (.t 10)⟩,3,0),(⟨some 12,none,.mov (.t 0)⟩,0,0),(⟨some 13,none,.nilchk (.t 12)⟩,0,0),(⟨some 14,none,.faddr 1 (.t 13)⟩,0,0),(⟨some 15,none,.load false 1 (.t 14)⟩,7,0),(⟨some 16,none,.sliceS (.t 11) (some (.t 15)) none⟩,0,0),(⟨some 17,none,.call (.c (.func 225 [] [])) [.t 16]⟩,0,0),(⟨some 7,none,.mov (.t 17)⟩,0,0),(⟨some 18,none,.extract (.t 7) 0⟩,0,0),(⟨some 19,none,.extract (.t 7) 1⟩,0,0),(⟨some 5,none,.mov (.t 18)⟩,0,0),(⟨some 6,none,.mov (.t 19)⟩,0,0)])
(.seq (.reg [⟨some 20,none,.mov (.t 5)⟩,⟨some 21,none,.bin .neq (.t 20) (.c (.int .i32 (.ofNat 65533)))⟩,⟨some 22,none,.mov (.t 21)⟩,⟨some 23,some (22,false),.mov (.t 6)⟩,⟨some 24,some (22,false),.bin .gtr (.t 23) (.c (j 1))⟩,⟨some 25,none,.pick (.t 22) (.c (.bool true)) (.t 24)⟩,⟨some 26,none,.mov (.t 0)⟩,⟨some 27,none,.nilchk (.t 26)⟩,⟨some 28,none,.faddr 1 (.t 27)⟩,⟨some 29,none,.load false 1 (.t 28)⟩,⟨some 30,none,.call (.c (.func 104 [] [])) [.t 25,.t 29,.c (j 61)]⟩])
(.seq (.reg [⟨some 31,none,.mov (.t 5)⟩,⟨some 32,none,.bin .geq (.t 31) (.c (.int .i32 (.ofNat 32)))⟩,⟨some 33,none,.mov (.t 0)⟩,⟨some 34,none,.nilchk (.t 33)⟩,⟨some 35,none,.faddr 1 (.t 34)⟩,⟨some 36,none,.load false 1 (.t 35)⟩,⟨some 37,none,.call (.c (.func 104 [] [])) [.t 32,.t 36,.c (j 32)]⟩])
(.seq (.reg [⟨some 38,none,.mov (.t 0)⟩,⟨some 39,none,.nilchk (.t 38)⟩,⟨some 40,none,.faddr 1 (.t 39)⟩,⟨some 41,none,.load false 1 (.t 40)⟩,⟨some 42,none,.mov (.t 6)⟩,⟨some 43,none,.bin .add (.t 41) (.t 42)⟩,⟨some 44,none,.nilchk (.t 38)⟩,⟨some 45,none,.faddr 1 (.t 44)⟩,⟨none,none,.store 1 (.t 45) (.t 43)⟩])
(.seq (.reg [⟨some 46,none,.mov (.t 1)⟩,⟨some 47,none,.mov (.t 5)⟩,⟨some 48,none,.call (.c (.func 226 [] [])) [.t 46,.t 47]⟩,⟨some 4,none,.mov (.t 48)⟩])
(.ret)))))), [.tmp 4], (some 0)⟩
theorem amok183 : FnOk Tryz.prog 183 am183 := FnOk.mk' quiets Tryz.func183 (pols := []) (keep := some 0) (by kernel_rfl) rfl
def am187 : AFunc := ⟨2, .seq (.reg [⟨some 4,none,.mov (.c (.bool false))⟩])
(.seq (.reg [⟨some 5,none,.mov (.t 0)⟩,⟨some 6,none,.len true (.t 5)⟩,⟨some 7,none,.mov (.t 1)⟩,⟨some 8,none,.len true (.t 7)⟩,⟨some 9,none,.bin .geq (.t 6) (.t 8)⟩,⟨some 10,none,.mov (.t 9)⟩,⟨some 11,some (10,true),.mov (.t 0)⟩,⟨some 12,some (10,true),.mov (.t 1)⟩,⟨some 13,some (10,true),.len true (.t 12)⟩,⟨some 14,some (10,true),.sliceS (.t 11) none (some (.t 13))⟩,⟨some 15,some (10,true),.mov (.t 1)⟩,⟨some 16,some (10,true),.bin .eql (.t 14) (.t 15)⟩,⟨some 17,none,.pick (.t 10) (.t 16) (.c (.bool false))⟩,⟨some 4,none,.mov (.t 17)⟩])
(.ret)), [.tmp 4], none⟩
theorem amok187 : FnOk Tryz.prog 187 am187 := FnOk.mk' quiets Tryz.func187 (pols := []) (keep := none) (by kernel_rfl) rfl
def am188 : AFunc := ⟨2, .seq (.reg [⟨some 4,none,.mov (.c (.bool false))⟩])
(.seq (.reg [⟨some 5,none,.mov (.t 0)⟩,⟨some 6,none,.mov (.t 1)⟩,⟨some 7,none,.call (.c (.func 231 [] [])) [.t 5,.t 6]⟩,⟨some 8,none,.bin .geq (.t 7) (.c (j 0))⟩,⟨some 4,none,.mov (.t 8)⟩])
(.ret)), [.tmp 4], none⟩
theorem amok188 : FnOk Tryz.prog 188 am188 := FnOk.mk' quiets Tryz.func188 (pols := []) (keep := none) (by kernel_rfl) rfl
def am189 : AFunc := ⟨1, .seq (.reg [⟨some 2,none,.mov (.c (.bool false))⟩])
(.seq (.reg [⟨some 3,none,.mov (.t 0)⟩,⟨some 4,none,.call (.c (.func 141 [] [])) [.t 3]⟩,⟨some 5,none,.un .not (.t 4)⟩,⟨some 2,none,.mov (.t 5)⟩])
(.ret)), [.tmp 2], none⟩
theorem amok189 : FnOk Tryz.prog 189 am189 := FnOk.mk' quiets Tryz.func189 (pols := []) (keep := none) (by kernel_rfl) rfl
def am190 : AFunc := ⟨1, .seq (.reg [⟨some 1,none,.boxF 1 (.t 0)⟩,⟨some 2,none,.mov (.c (.nilf))⟩])
(.seq (.reg [⟨some 3,none,.mkf 232 [] [.t 1]⟩,⟨some 2,none,.mov (.t 3)⟩])
(.ret)), [.tmp 2], none⟩
theorem amok190 : FnOk Tryz.prog 190 am190 := FnOk.mk' quiets Tryz.func190 (pols := [(0, 0, .frz)]) (keep := none) (by kernel_rfl) rfl
def am191 : AFunc := ⟨1, .seq (.reg [⟨some 2,none,.mov (.c (j 0))⟩])
(.seq (.seq (.reg [⟨some 3,none,.mov (.t 0)⟩,⟨some 4,none,.nilchk (.t 3)⟩,⟨some 5,none,.faddr 0 (.t 4)⟩,⟨some 6,none,.load false 1 (.t 5)⟩,⟨some 7,none,.len false (.t 6)⟩,⟨some 8,none,.bin .eql (.t 7) (.c (j 0))⟩])
(.cond (.t 8) (.seq (.reg [⟨some 2,none,.mov (.c (j 0))⟩])
(.ret)) (.skip)))
(.seq (.reg [⟨some 9,none,.mov (.t 0)⟩,⟨some 10,none,.nilchk (.t 9)⟩,⟨some 11,none,.faddr 0 (.t 10)⟩,⟨some 12,none,.load false 1 (.t 11)⟩,⟨some 13,none,.iaddr 6 (.t 12) (.c (j 0))⟩,⟨some 14,none,.faddr 0 (.t 13)⟩,⟨some 15,none,.load false 1 (.t 14)⟩,⟨some 2,none,.mov (.t 15)⟩])
(.ret))), [.tmp 2], none⟩
theorem amok191 : FnOk Tryz.prog 191 am191 := FnOk.mk' quiets Tryz.func191 (pols := []) (keep := none) (by kernel_rfl) rfl
def am192 : AFunc := ⟨1, .seq (.reg [⟨some 2,none,.allocB z1 []⟩])
(.seq (.reg [⟨some 4,none,.mov (.t 0)⟩,⟨some 5,none,.call (.c (.func 233 [] [])) [.t 4]⟩,⟨some 6,none,.build z1 [(0,1,.t 5)]⟩,⟨some 3,none,.hole 12⟩,⟨some 3,none,.fill 12 ⟨.t 6, (some [])⟩⟩])
(.seq (.seq (.reg [⟨some 7,none,.mov (.t 0)⟩,⟨some 8,none,.call (.c (.func 156 [] [])) [.t 7,.c (j 4),.c (.str [40])]⟩])
(.cond (.t 8) (.seq (.reg [⟨some 9,none,.mov (.t 0)⟩,⟨some 10,none,.mov (.t 0)⟩,⟨some 11,none,.mov (.t 0)⟩,⟨some 12,none,.mkf 236 [.t 11] []⟩,⟨some 13,none,.call (.c (.func 235 [] [])) [.t 10,.t 12]⟩,⟨some 14,none,.call (.c (.func 234 [] [])) [.t 9,.c (.str [59]),.t 13]⟩,⟨some 15,none,.faddr 1 (.t 3)⟩,⟨none,none,.store 1 (.t 15) (.t 14)⟩])
(.reg [⟨some 16,none,.mov (.t 0)⟩,⟨some 17,none,.call (.c (.func 196 [] [])) [.t 16,.c (j 4),.c (.str [41])]⟩])) (.skip)))
(.seq (.reg [⟨some 18,none,.mov (.t 0)⟩,⟨some 19,none,.call (.c (.func 196 [] [])) [.t 18,.c (j 4),.c (.str [58])]⟩])
(.seq (.reg [⟨some 20,none,.mov (.t 0)⟩,⟨some 21,none,.call (.c (.func 106 [] [])) [.t 20]⟩,⟨some 22,none,.faddr 2 (.t 3)⟩,⟨none,none,.store 10 (.t 22) (.t 21)⟩])
(.seq (.reg [⟨some 23,none,.mov (.t 0)⟩,⟨some 24,none,.call (.c (.func 196 [] [])) [.t 23,.c (j 4),.c (.str [59])]⟩])
(.seq (.reg [⟨some 25,none,.load true 12 (.t 3)⟩,⟨none,none,.store 12 (.t 2) (.t 25)⟩])
(.ret))))))), [.cell 2 true 12], none⟩
theorem amok192 : FnOk Tryz.prog 192 am192 := FnOk.mk' quiets Tryz.func192 (pols := [(1, 4, .res []),(1, 3, .hole)]) (keep := none) (by kernel_rfl) rfl
def am193 : AFunc := ⟨3, .seq (.reg [⟨some 6,none,.allocB z0 []⟩])
(.seq (.reg [⟨some 7,none,.mov (.t 0)⟩,⟨some 8,none,.mov (.t 2)⟩,⟨some 9,none,.mov (.t 1)⟩,⟨some 10,none,.build z0 [(0,1,.t 7),(6,1,.t 8),(9,1,.t 9)]⟩,⟨none,none,.store 10 (.t 6) (.t 10)⟩])
(.ret)), [.cell 6 true 10], none⟩
theorem amok193 : FnOk Tryz.prog 193 am193 := FnOk.mk' quiets Tryz.func193 (pols := []) (keep := none) (by kernel_rfl) rfl
def am194 : AFunc := ⟨1, .seq (.reg [⟨some 2,none,.allocB z0 []⟩])
(.seq (.seq (.reg [⟨some 3,none,.mov (.t 0)⟩,⟨some 4,none,.nilchk (.t 3)⟩,⟨some 5,none,.faddr 0 (.t 4)⟩,⟨some 6,none,.load false 1 (.t 5)⟩,⟨some 7,none,.len false (.t 6)⟩,⟨some 8,none,.bin .eql (.t 7) (.c (j 0))⟩])
(.cond (.t 8) (.seq (.reg [⟨some 9,none,.mov (.t 0)⟩,⟨some 10,none,.nilchk (.t 9)⟩,⟨some 11,none,.faddr 1 (.t 10)⟩,⟨some 12,none,.load false 1 (.t 11)⟩,⟨some 13,none,.build z0 [(0,1,.c (j 1)),(9,1,.t 12)]⟩,⟨none,none,.store 10 (.t 2) (.t 13)⟩])
(.ret)) (.skip)))
(.seq (.reg [⟨some 14,none,.mov (.t 0)⟩,⟨some 15,none,.call (.c (.func 106 [] [])) [.t 14]⟩,⟨none,none,.store 10 (.t 2) (.t 15)⟩])
(.ret))), [.cell 2 true 10], none⟩
theorem amok194 : FnOk Tryz.prog 194 am194 := FnOk.mk' quiets Tryz.func194 (pols := []) (keep := none) (by kernel_rfl) rfl
def am195 : AFunc := ⟨2, .seq (.reg [⟨some 4,none,.mov (.c (.str []))⟩])
(.seq (.seq (.reg [⟨some 5,none,.mov (.t 0)⟩,⟨some 6,none,.call (.c (.func 191 [] [])) [.t 5]⟩,⟨some 7,none,.mov (.t 1)⟩,⟨some 8,none,.bin .neq (.t 6) (.t 7)⟩])
(.cond (.t 8) (.reg [⟨some 9,none,.mov (.t 0)⟩,⟨some 10,none,.call (.c (.func 107 [] [])) [.t 9]⟩]) (.skip)))
(.seq (.reg [⟨some 11,none,.mov (.t 0)⟩,⟨some 12,none,.call (.c (.func 199 [] [])) [.t 11]⟩,⟨some 13,none,.field false 1 1 (.t 12)⟩,⟨some 4,none,.mov (.t 13)⟩])
(.ret))), [.tmp 4], none⟩
theorem amok195 : FnOk Tryz.prog 195 am195 := FnOk.mk' quiets Tryz.func195 (pols := []) (keep := none) (by kernel_rfl) rfl
def am196 : AFunc := ⟨3, .seq (.reg [⟨some 6,none,.mov (.t 0)⟩,⟨some 7,none,.mov (.t 1)⟩,⟨some 8,none,.mov (.t 2)⟩,⟨some 9,none,.call (.c (.func 156 [] [])) [.t 6,.t 7,.t 8]⟩,⟨some 10,none,.un .not (.t 9)⟩])
(.cond (.t 10) (.reg [⟨some 11,none,.mov (.t 0)⟩,⟨some 12,none,.call (.c (.func 107 [] [])) [.t 11]⟩]) (.skip)), [], none⟩
theorem amok196 : FnOk Tryz.prog 196 am196 := FnOk.mk' quiets Tryz.func196 (pols := []) (keep := none) (by kernel_rfl) rfl
def am197 : AFunc := ⟨3, .seq (.reg [⟨some 6,none,.resv 10⟩])
(.seq (.reg [⟨some 8,none,.mov (.t 2)⟩,⟨some 9,none,.call (.t 8) []⟩,⟨some 10,none,.bslR 10 z0 1 [(0,10,.t 9)]⟩,⟨some 7,none,.mov (.t 10)⟩])
(.seq (.block 0 (.loop (.seq (.seq (.reg [⟨some 11,none,.mov (.t 0)⟩,⟨some 12,none,.mov (.t 1)⟩,⟨some 13,none,.call (.c (.func 156 [] [])) [.t 11,.c (j 4),.t 12]⟩])
(.cond (.t 13) (.skip) (.exit 0)))
(.block 1 (.reg [⟨some 14,none,.mov (.t 7)⟩,⟨some 15,none,.mov (.t 2)⟩,⟨some 16,none,.call (.t 15) []⟩,⟨some 17,none,.bslF z0 1 [(0,10,.t 16)]⟩,⟨some 18,none,.append 10 160 (.t 14) (.t 17)⟩,⟨some 7,none,.mov (.t 18)⟩])))))
(.seq (.reg [⟨some 19,none,.mov (.t 7)⟩,⟨some 6,none,.mov (.t 19)⟩])
(.ret)))), [.tmp 6], none⟩
theorem amok197 : FnOk Tryz.prog 197 am197 := FnOk.mk' quiets Tryz.func197 (pols := [(0, 0, .res [(0,10)]),(3, 3, .frz)]) (keep := none) (by kernel_rfl) rfl
def am198 : AFunc := ⟨1, .seq (.reg [⟨some 2,none,.allocB z0 []⟩])
(.seq (.reg [⟨some 7,none,.mov (.t 0)⟩,⟨some 8,none,.mov (.t 0)⟩,⟨some 9,none,.mkf 237 [.t 8] []⟩,⟨some 10,none,.call (.c (.func 197 [] [])) [.t 7,.c (.str [47,47]),.t 9]⟩,⟨some 3,none,.mov (.t 10)⟩])
(.seq (.reg [⟨some 11,none,.mov (.t 3)⟩,⟨some 12,none,.mov (.t 3)⟩,⟨some 13,none,.len false (.t 12)⟩,⟨some 14,none,.bin .sub (.t 13) (.c (j 1))⟩,⟨some 15,none,.iaddr 10 (.t 11) (.t 14)⟩,⟨some 16,none,.load true 10 (.t 15)⟩,⟨some 4,none,.hole 10⟩,⟨some 4,none,.fill 10 ⟨.t 16, (some [])⟩⟩])
(.seq (.seq (.reg [⟨some 17,none,.mov (.t 3)⟩,⟨some 18,none,.mov (.t 3)⟩,⟨some 19,none,.len false (.t 18)⟩,⟨some 20,none,.bin .sub (.t 19) (.c (j 1))⟩,⟨some 21,none,.sliceL 10 (.t 17) none (some (.t 20)) none⟩,⟨some 22,none,.call (.c (.func 238 [] [])) [.t 21]⟩])
(.block 0 (.rangeF (.t 22) [23,24] (.reg [⟨some 6,none,.hole 10⟩,⟨some 6,none,.fill 10 ⟨.t 24, none⟩⟩]) (.block 1 (.reg [⟨some 25,none,.load true 10 (.t 6)⟩,⟨some 26,none,.load true 10 (.t 4)⟩,⟨some 27,none,.call (.c (.func 239 [] [])) [.c (.str [47,47]),.t 25,.t 26]⟩,⟨none,none,.store 10 (.t 4) (.t 27)⟩])))))
(.seq (.reg [⟨some 28,none,.load true 10 (.t 4)⟩,⟨none,none,.store 10 (.t 2) (.t 28)⟩])
(.ret))))), [.cell 2 true 10], none⟩
theorem amok198 : FnOk Tryz.prog 198 am198 := FnOk.mk' quiets Tryz.func198 (pols := [(2, 7, .res []),(2, 6, .hole),(4, 0, .hole),(4, 1, .hole)]) (keep := none) (by kernel_rfl) rfl
def am199 : AFunc := ⟨1, .seq (.reg [⟨some 2,none,.allocB z13 []⟩])
(.seq (.reg [⟨some 4,none,.mov (.t 0)⟩,⟨some 5,none,.nilchk (.t 4)⟩,⟨some 6,none,.faddr 0 (.t 5)⟩,⟨some 7,none,.load false 1 (.t 6)⟩,⟨some 8,none,.iaddr 6 (.t 7) (.c (j 0))⟩,⟨some 9,none,.load true 6 (.t 8)⟩,⟨some 3,none,.hole 6⟩,⟨some 3,none,.fill 6 ⟨.t 9, none⟩⟩])
(.seq (.dreg [(⟨some 10,none,.mov (.t 0)⟩,0,0),(⟨some 11,none,.mov (.t 0)⟩,0,0),(⟨some 12,none,.mov (.t 0)⟩,0,0),(⟨some 13,none,.nilchk (.t 12)⟩,0,0),(⟨some 14,none,.faddr 0 (.t 13)⟩,0,0),(⟨some 15,none,.load false 1 (.t 14)⟩,5,0),(⟨some 16,none,.sliceL 6 (.t 15) (some (.c (j 1))) none none⟩,0,0),(⟨some 17,none,.faddr 0 (.t 3)⟩,0,0),(⟨some 18,none,.load false 1 (.t 17)⟩,8,12),(⟨some 19,none,.nilchk (.t 10)⟩,0,0),(⟨some 20,none,.faddr 0 (.t 19)⟩,0,0),(⟨none,none,.store 1 (.t 20) (.t 16)⟩,0,0),(⟨some 21,none,.nilchk (.t 11)⟩,0,0),(⟨some 22,none,.faddr 3 (.t 21)⟩,0,0),(⟨none,none,.store 1 (.t 22) (.t 18)⟩,0,0)])
(.seq (.reg [⟨some 23,none,.load true 6 (.t 3)⟩,⟨none,none,.store 6 (.t 2) (.t 23)⟩])
(.ret)))), [.cell 2 true 6], none⟩
theorem amok199 : FnOk Tryz.prog 199 am199 := FnOk.mk' quiets Tryz.func199 (pols := [(1, 6, .hole),(1, 7, .hole)]) (keep := none) (by kernel_rfl) rfl
def am200 : AFunc := ⟨2, .seq (.reg [⟨some 4,none,.mov (.c (j 0))⟩])
(.seq (.reg [⟨some 5,none,.mov (.c (j 0))⟩])
(.seq (.seq (.reg [⟨some 8,none,.mov (.t 0)⟩,⟨some 9,none,.len false (.t 8)⟩,⟨some 10,none,.mov (.c (j 0))⟩])
(.block 0 (.loop (.seq (.reg [⟨some 11,none,.bin .lss (.t 10) (.t 9)⟩])
(.seq (.cond (.t 11) (.skip) (.exit 0))
(.seq (.block 1 (.seq (.reg [⟨some 12,none,.iaddr 4 (.t 8) (.t 10)⟩,⟨some 13,none,.load true 4 (.t 12)⟩,⟨some 7,none,.hole 4⟩,⟨some 7,none,.fill 4 ⟨.t 13, none⟩⟩])
(.seq (.reg [⟨some 14,none,.mov (.t 1)⟩,⟨some 15,none,.bin .gtr (.t 14) (.c (j 0))⟩])
(.cond (.t 15) (.reg [⟨some 16,none,.mov (.t 5)⟩,⟨some 17,none,.faddr 3 (.t 7)⟩,⟨some 18,none,.load false 1 (.t 17)⟩,⟨some 19,none,.mov (.t 1)⟩,⟨some 20,none,.bin .sub (.t 19) (.c (j 1))⟩,⟨some 21,none,.call (.c (.func 200 [] [])) [.t 18,.t 20]⟩,⟨some 22,none,.bin .add (.c (j 1)) (.t 21)⟩,⟨some 23,none,.maxs (.t 16) [.t 22]⟩,⟨some 5,none,.mov (.t 23)⟩]) (.skip)))))
(.reg [⟨some 24,none,.bin .add (.t 10) (.c (j 1))⟩,⟨some 10,none,.mov (.t 24)⟩])))))))
(.seq (.reg [⟨some 25,none,.mov (.t 5)⟩,⟨some 4,none,.mov (.t 25)⟩])
(.ret)))), [.tmp 4], none⟩
theorem amok200 : FnOk Tryz.prog 200 am200 := FnOk.mk' quiets Tryz.func200 (pols := [(4, 2, .hole),(4, 3, .hole)]) (keep := none) (by kernel_rfl) rfl
def am201 : AFunc := ⟨2, .seq (.reg [⟨some 2,none,.boxB 1 (.t 0) []⟩])
(.seq (.reg [⟨some 6,none,.mkf 202 [] [.t 2]⟩,⟨some 3,none,.mov (.t 6)⟩])
(.seq (.seq (.reg [⟨some 7,none,.faddr 6 (.t 1)⟩,⟨some 8,none,.load false 1 (.t 7)⟩,⟨some 9,none,.mov (.t 3)⟩,⟨some 10,none,.call (.c (.func 203 [] [])) [.t 8,.t 9]⟩,⟨some 11,none,.mov (.t 10)⟩,⟨some 12,some (11,false),.faddr 7 (.t 1)⟩,⟨some 13,some (11,false),.load false 1 (.t 12)⟩,⟨some 14,some (11,false),.mkf 205 [] [.t 2]⟩,⟨some 15,some (11,false),.call (.c (.func 204 [] [])) [.t 13,.t 14]⟩,⟨some 16,none,.pick (.t 11) (.c (.bool true)) (.t 15)⟩])
(.cond (.t 16) (.ret) (.skip)))
(.seq (.reg [⟨some 17,none,.faddr 8 (.t 1)⟩,⟨some 18,none,.load false 1 (.t 17)⟩,⟨some 19,none,.len false (.t 18)⟩,⟨some 20,none,.mov (.c (j 0))⟩])
(.block 0 (.loop (.seq (.reg [⟨some 21,none,.bin .lss (.t 20) (.t 19)⟩])
(.seq (.cond (.t 21) (.skip) (.exit 0))
(.seq (.block 1 (.seq (.reg [⟨some 22,none,.iaddr 12 (.t 18) (.t 20)⟩,⟨some 23,none,.load true 12 (.t 22)⟩,⟨some 5,none,.hole 12⟩,⟨some 5,none,.fill 12 ⟨.t 23, none⟩⟩])
(.seq (.reg [⟨some 24,none,.mov (.t 3)⟩,⟨some 25,none,.faddr 2 (.t 5)⟩,⟨some 26,none,.load true 10 (.t 25)⟩,⟨some 27,none,.call (.t 24) [.t 26]⟩])
(.cond (.t 27) (.ret) (.skip)))))
(.reg [⟨some 28,none,.bin .add (.t 20) (.c (j 1))⟩,⟨some 20,none,.mov (.t 28)⟩]))))))))), [], none⟩
theorem amok201 : FnOk Tryz.prog 201 am201 := FnOk.mk' quiets Tryz.func201 (pols := [(5, 2, .hole),(5, 3, .hole)]) (keep := none) (by kernel_rfl) rfl
def am202 : AFunc := ⟨2, .seq (.reg [⟨some 2,none,.boxB 10 (.t 0) []⟩,⟨some 3,none,.mov (.c (.bool false))⟩])
(.seq (.reg [⟨some 4,none,.load false 1 (.t 1)⟩,⟨some 5,none,.load true 10 (.t 2)⟩,⟨some 6,none,.call (.t 4) [.t 5]⟩,⟨some 7,none,.un .not (.t 6)⟩,⟨some 3,none,.mov (.t 7)⟩])
(.ret)), [.tmp 3], none⟩
theorem amok202 : FnOk Tryz.prog 202 am202 := FnOk.mk' quiets Tryz.func202 (pols := []) (keep := none) (by kernel_rfl) rfl
def am203 : AFunc := ⟨2, .seq (.reg [⟨some 4,none,.mov (.c (.bool false))⟩])
(.seq (.reg [⟨some 5,none,.mov (.t 0)⟩,⟨some 6,none,.mov (.t 1)⟩,⟨some 7,none,.call (.c (.func 240 [] [])) [.t 5,.t 6]⟩,⟨some 8,none,.bin .geq (.t 7) (.c (j 0))⟩,⟨some 4,none,.mov (.t 8)⟩])
(.ret)), [.tmp 4], none⟩
theorem amok203 : FnOk Tryz.prog 203 am203 := FnOk.mk' quiets Tryz.func203 (pols := []) (keep := none) (by kernel_rfl) rfl
def am204 : AFunc := ⟨2, .seq (.reg [⟨some 4,none,.mov (.c (.bool false))⟩])
(.seq (.reg [⟨some 5,none,.mov (.t 0)⟩,⟨some 6,none,.mov (.t 1)⟩,⟨some 7,none,.call (.c (.func 241 [] [])) [.t 5,.t 6]⟩,⟨some 8,none,.bin .geq (.t 7) (.c (j 0))⟩,⟨some 4,none,.mov (.t 8)⟩])
(.ret)), [.tmp 4], none⟩
theorem amok204 : FnOk Tryz.prog 204 am204 := FnOk.mk' quiets Tryz.func204 (pols := []) (keep := none) (by kernel_rfl) rfl
def am205 : AFunc := ⟨2, .seq (.reg [⟨some 2,none,.boxF 4 (.t 0)⟩,⟨some 3,none,.mov (.c (.bool false))⟩])
(.seq (.reg [⟨some 4,none,.load true 4 (.t 2)⟩,⟨some 5,none,.load false 1 (.t 1)⟩,⟨some 6,none,.call (.c (.func 206 [] [])) [.t 4,.t 5]⟩,⟨some 7,none,.un .not (.t 6)⟩,⟨some 3,none,.mov (.t 7)⟩])
(.ret)), [.tmp 3], none⟩
theorem amok205 : FnOk Tryz.prog 205 am205 := FnOk.mk' quiets Tryz.func205 (pols := [(0, 0, .frz)]) (keep := none) (by kernel_rfl) rfl
def am206 : AFunc := ⟨2, .seq (.reg [⟨some 2,none,.boxF 4 (.t 0)⟩,⟨some 3,none,.boxB 1 (.t 1) []⟩,⟨some 4,none,.mov (.c (.bool false))⟩])
(.seq (.reg [⟨some 5,none,.faddr 2 (.t 2)⟩,⟨some 6,none,.load false 1 (.t 5)⟩,⟨some 7,none,.mkf 242 [] [.t 3]⟩,⟨some 8,none,.call (.c (.func 203 [] [])) [.t 6,.t 7]⟩,⟨some 9,none,.un .not (.t 8)⟩,⟨some 10,none,.mov (.t 9)⟩,⟨some 11,some (10,true),.faddr 3 (.t 2)⟩,⟨some 12,some (10,true),.load false 1 (.t 11)⟩,⟨some 13,some (10,true),.mkf 243 [] [.t 3]⟩,⟨some 14,some (10,true),.call (.c (.func 204 [] [])) [.t 12,.t 13]⟩,⟨some 15,some (10,true),.un .not (.t 14)⟩,⟨some 16,none,.pick (.t 10) (.t 15) (.c (.bool false))⟩,⟨some 4,none,.mov (.t 16)⟩])
(.ret)), [.tmp 4], none⟩
theorem amok206 : FnOk Tryz.prog 206 am206 := FnOk.mk' quiets Tryz.func206 (pols := [(0, 0, .frz)]) (keep := none) (by kernel_rfl) rfl
def am207 : AFunc := ⟨1, .seq (.reg [⟨some 2,none,.mov (.c (.nilsl))⟩])
(.seq (.reg [⟨some 3,none,.mov (.c (.nilsl))⟩])
(.seq (.seq (.reg [⟨some 5,none,.mov (.t 0)⟩,⟨some 6,none,.len false (.t 5)⟩,⟨some 7,none,.bin .sub (.t 6) (.c (j 1))⟩,⟨some 4,none,.mov (.t 7)⟩])
(.block 0 (.loop (.seq (.seq (.reg [⟨some 8,none,.mov (.t 4)⟩,⟨some 9,none,.bin .geq (.t 8) (.c (j 0))⟩])
(.cond (.t 9) (.skip) (.exit 0)))
(.seq (.block 1 (.reg [⟨some 12,none,.mov (.t 3)⟩,⟨some 13,none,.mov (.t 0)⟩,⟨some 14,none,.mov (.t 4)⟩,⟨some 15,none,.iaddr 1 (.t 13) (.t 14)⟩,⟨some 16,none,.load false 1 (.t 15)⟩,⟨some 17,none,.convI .i64 (.t 16)⟩,⟨some 18,none,.call (.c (.func 244 [] [])) [.t 12,.c (j 4294967296),.t 17]⟩,⟨some 3,none,.mov (.t 18)⟩]))
(.reg [⟨some 10,none,.mov (.t 4)⟩,⟨some 11,none,.bin .sub (.t 10) (.c (j 1))⟩,⟨some 4,none,.mov (.t 11)⟩]))))))
(.seq (.reg [⟨some 19,none,.mov (.t 3)⟩,⟨some 2,none,.mov (.t 19)⟩])
(.ret)))), [.tmp 2], none⟩
theorem amok207 : FnOk Tryz.prog 207 am207 := FnOk.mk' quiets Tryz.func207 (pols := []) (keep := none) (by kernel_rfl) rfl
def am208 : AFunc := ⟨1, .seq (.reg [⟨some 2,none,.mov (.c (.bool false))⟩])
(.seq (.reg [⟨some 5,none,.bslF z24 15 [(0,1,.c (.str [100,101,102])),(1,1,.c (.str [105,102])),(2,1,.c (.str [116,104,101,110])),(3,1,.c (.str [101,108,105,102])),(4,1,.c (.str [101,108,115,101])),(5,1,.c (.str [101,110,100])),(6,1,.c (.str [97,115])),(7,1,.c (.str [116,114,121])),(8,1,.c (.str [99,97,116,99,104])),(9,1,.c (.str [114,101,100,117,99,101])),(10,1,.c (.str [102,111,114,101,97,99,104])),(11,1,.c (.str [108,97,98,101,108])),(12,1,.c (.str [98,114,101,97,107])),(13,1,.c (.str [111,114])),(14,1,.c (.str [97,110,100]))]⟩,⟨some 3,none,.mov (.t 5)⟩])
(.seq (.seq (.reg [⟨some 4,none,.mov (.c (j 0))⟩])
(.block 0 (.loop (.seq (.seq (.reg [⟨some 6,none,.mov (.t 4)⟩,⟨some 7,none,.mov (.t 3)⟩,⟨some 8,none,.len false (.t 7)⟩,⟨some 9,none,.bin .lss (.t 6) (.t 8)⟩])
(.cond (.t 9) (.skip) (.exit 0)))
(.seq (.block 1 (.seq (.reg [⟨some 12,none,.mov (.t 3)⟩,⟨some 13,none,.mov (.t 4)⟩,⟨some 14,none,.iaddr 1 (.t 12) (.t 13)⟩,⟨some 15,none,.load false 1 (.t 14)⟩,⟨some 16,none,.mov (.t 0)⟩,⟨some 17,none,.bin .eql (.t 15) (.t 16)⟩])
(.cond (.t 17) (.seq (.reg [⟨some 2,none,.mov (.c (.bool true))⟩])
(.ret)) (.skip))))
(.reg [⟨some 10,none,.mov (.t 4)⟩,⟨some 11,none,.bin .add (.t 10) (.c (j 1))⟩,⟨some 4,none,.mov (.t 11)⟩]))))))
(.seq (.reg [⟨some 2,none,.mov (.c (.bool false))⟩])
(.ret)))), [.tmp 2], none⟩
theorem amok208 : FnOk Tryz.prog 208 am208 := FnOk.mk' quiets Tryz.func208 (pols := [(1, 0, .frz)]) (keep := none) (by kernel_rfl) rfl
def am209 : AFunc := ⟨1, .seq (.reg [⟨some 2,none,.mov (.c (.nilsl))⟩])
(.seq (.reg [⟨some 4,none,.mov (.t 0)⟩,⟨some 5,none,.len false (.t 4)⟩,⟨some 3,none,.mov (.t 5)⟩])
(.seq (.block 0 (.loop (.seq (.seq (.reg [⟨some 6,none,.mov (.t 3)⟩,⟨some 7,none,.bin .gtr (.t 6) (.c (j 0))⟩,⟨some 8,none,.mov (.t 7)⟩,⟨some 9,some (8,true),.mov (.t 0)⟩,⟨some 10,some (8,true),.mov (.t 3)⟩,⟨some 11,some (8,true),.bin .sub (.t 10) (.c (j 1))⟩,⟨some 12,some (8,true),.iaddr 1 (.t 9) (.t 11)⟩,⟨some 13,some (8,true),.load false 1 (.t 12)⟩,⟨some 14,some (8,true),.bin .eql (.t 13) (.c (j 0))⟩,⟨some 15,none,.pick (.t 8) (.t 14) (.c (.bool false))⟩])
(.cond (.t 15) (.skip) (.exit 0)))
(.block 1 (.reg [⟨some 16,none,.mov (.t 3)⟩,⟨some 17,none,.bin .sub (.t 16) (.c (j 1))⟩,⟨some 3,none,.mov (.t 17)⟩])))))
(.seq (.reg [⟨some 18,none,.mov (.t 0)⟩,⟨some 19,none,.mov (.t 3)⟩,⟨some 20,none,.sliceL 1 (.t 18) none (some (.t 19)) none⟩,⟨some 2,none,.mov (.t 20)⟩])
(.ret)))), [.tmp 2], none⟩
theorem amok209 : FnOk Tryz.prog 209 am209 := FnOk.mk' quiets Tryz.func209 (pols := []) (keep := none) (by kernel_rfl) rfl
def am210 : AFunc := ⟨1, .seq (.reg [⟨some 2,none,.resv 1⟩])
(.seq (.reg [⟨some 3,none,.resv 1⟩])
(.seq (.reg [⟨some 4,none,.resv 1⟩])
(.seq (.reg [⟨some 7,none,.mov (.t 4)⟩,⟨some 8,none,.mov (.t 0)⟩,⟨some 9,none,.append 1 8 (.t 7) (.t 8)⟩,⟨some 4,none,.mov (.t 9)⟩])
(.seq (.block 0 (.loop (.seq (.seq (.reg [⟨some 10,none,.mov (.t 4)⟩,⟨some 11,none,.len false (.t 10)⟩,⟨some 12,none,.bin .gtr (.t 11) (.c (j 0))⟩])
(.cond (.t 12) (.skip) (.exit 0)))
(.block 1 (.seq (.reg [⟨some 5,none,.mov (.c (j 0))⟩])
(.seq (.seq (.reg [⟨some 13,none,.mov (.t 4)⟩,⟨some 14,none,.len false (.t 13)⟩,⟨some 15,none,.bin .sub (.t 14) (.c (j 1))⟩,⟨some 6,none,.mov (.t 15)⟩])
(.block 2 (.loop (.seq (.seq (.reg [⟨some 16,none,.mov (.t 6)⟩,⟨some 17,none,.bin .geq (.t 16) (.c (j 0))⟩])
(.cond (.t 17) (.skip) (.exit 2)))
(.seq (.block 3 (.seq (.reg [⟨some 20,none,.mov (.t 5)⟩,⟨some 21,none,.bin .mul (.t 20) (.c (j 10))⟩,⟨some 22,none,.mov (.t 4)⟩,⟨some 23,none,.mov (.t 6)⟩,⟨some 24,none,.iaddr 1 (.t 22) (.t 23)⟩,⟨some 25,none,.load false 1 (.t 24)⟩,⟨some 26,none,.bin .add (.t 21) (.t 25)⟩,⟨some 5,none,.mov (.t 26)⟩])
(.seq (.reg [⟨some 27,none,.mov (.t 4)⟩,⟨some 28,none,.mov (.t 6)⟩,⟨some 29,none,.mov (.t 5)⟩,⟨some 30,none,.bin .shr (.t 29) (.c (.int .u64 (.ofNat 32)))⟩,⟨some 31,none,.iaddr 1 (.t 27) (.t 28)⟩,⟨none,none,.store 1 (.t 31) (.t 30)⟩])
(.reg [⟨some 32,none,.mov (.t 5)⟩,⟨some 33,none,.mov (.t 4)⟩,⟨some 34,none,.mov (.t 6)⟩,⟨some 35,none,.iaddr 1 (.t 33) (.t 34)⟩,⟨some 36,none,.load false 1 (.t 35)⟩,⟨some 37,none,.bin .shl (.t 36) (.c (.int .u64 (.ofNat 32)))⟩,⟨some 38,none,.bin .sub (.t 32) (.t 37)⟩,⟨some 5,none,.mov (.t 38)⟩]))))
(.reg [⟨some 18,none,.mov (.t 6)⟩,⟨some 19,none,.bin .sub (.t 18) (.c (j 1))⟩,⟨some 6,none,.mov (.t 19)⟩]))))))
(.seq (.reg [⟨some 39,none,.mov (.t 3)⟩,⟨some 40,none,.mov (.t 5)⟩,⟨some 41,none,.convI .u32 (.t 40)⟩,⟨some 42,none,.bslF z23 1 [(0,1,.t 41)]⟩,⟨some 43,none,.append 1 4 (.t 39) (.t 42)⟩,⟨some 3,none,.mov (.t 43)⟩])
(.reg [⟨some 44,none,.mov (.t 4)⟩,⟨some 45,none,.call (.c (.func 245 [] [])) [.t 44]⟩,⟨some 4,none,.mov (.t 45)⟩]))))))))
(.seq (.reg [⟨some 46,none,.mov (.t 3)⟩,⟨some 2,none,.mov (.t 46)⟩])
(.ret)))))), [.tmp 2], none⟩
theorem amok210 : FnOk Tryz.prog 210 am210 := FnOk.mk' quiets Tryz.func210 (pols := [(0, 0, .res [(0,1)]),(1, 0, .res [(0,1)]),(2, 0, .res [(0,1)]),(12, 3, .frz)]) (keep := none) (by kernel_rfl) rfl
def am211 : AFunc := ⟨1, .seq (.reg [⟨some 2,none,.allocB z0 []⟩])
(.seq (.reg [⟨some 4,none,.mov (.t 0)⟩,⟨some 5,none,.call (.c (.func 246 [] [])) [.t 4]⟩,⟨some 3,none,.hole 10⟩,⟨some 3,none,.fill 10 ⟨.t 5, (some [])⟩⟩])
(.seq (.block 0 (.loop (.seq (.seq (.reg [⟨some 6,none,.mov (.t 0)⟩,⟨some 7,none,.call (.c (.func 91 [] [])) [.t 6,.c (j 1),.c (.str [111,114])]⟩])
(.cond (.t 7) (.skip) (.exit 0)))
(.block 1 (.dreg [(⟨some 8,none,.load true 10 (.t 3)⟩,0,3),(⟨some 9,none,.mov (.t 0)⟩,0,0),(⟨some 10,none,.call (.c (.func 246 [] [])) [.t 9]⟩,0,0),(⟨some 11,none,.call (.c (.func 174 [] [])) [.c (.str [111,114]),.t 8,.t 10]⟩,0,0),(⟨none,none,.store 10 (.t 3) (.t 11)⟩,0,0)])))))
(.seq (.reg [⟨some 12,none,.load true 10 (.t 3)⟩,⟨none,none,.store 10 (.t 2) (.t 12)⟩])
(.ret)))), [.cell 2 true 10], none⟩
theorem amok211 : FnOk Tryz.prog 211 am211 := FnOk.mk' quiets Tryz.func211 (pols := [(1, 3, .res []),(1, 2, .hole)]) (keep := none) (by kernel_rfl) rfl
def am212 : AFunc := ⟨2, .seq (.reg [⟨some 4,none,.mov (.c (.str []))⟩])
(.seq (.seq (.reg [⟨some 5,none,.mov (.c (j 0))⟩])
(.block 0 (.loop (.seq (.seq (.reg [⟨some 6,none,.mov (.t 5)⟩,⟨some 7,none,.mov (.t 1)⟩,⟨some 8,none,.len false (.t 7)⟩,⟨some 9,none,.bin .lss (.t 6) (.t 8)⟩])
(.cond (.t 9) (.skip) (.exit 0)))
(.seq (.block 1 (.seq (.reg [⟨some 12,none,.mov (.t 0)⟩,⟨some 13,none,.mov (.t 1)⟩,⟨some 14,none,.mov (.t 5)⟩,⟨some 15,none,.iaddr 1 (.t 13) (.t 14)⟩,⟨some 16,none,.load false 1 (.t 15)⟩,⟨some 17,none,.call (.c (.func 91 [] [])) [.t 12,.c (j 4),.t 16]⟩])
(.cond (.t 17) (.seq (.reg [⟨some 18,none,.mov (.t 1)⟩,⟨some 19,none,.mov (.t 5)⟩,⟨some 20,none,.iaddr 1 (.t 18) (.t 19)⟩,⟨some 21,none,.load false 1 (.t 20)⟩,⟨some 4,none,.mov (.t 21)⟩])
(.ret)) (.skip))))
(.reg [⟨some 10,none,.mov (.t 5)⟩,⟨some 11,none,.bin .add (.t 10) (.c (j 1))⟩,⟨some 5,none,.mov (.t 11)⟩]))))))
(.seq (.reg [⟨some 4,none,.mov (.c (.str []))⟩])
(.ret))), [.tmp 4], none⟩
theorem amok212 : FnOk Tryz.prog 212 am212 := FnOk.mk' quiets Tryz.func212 (pols := []) (keep := none) (by kernel_rfl) rfl
def am213 : AFunc := ⟨2, .seq (.reg [⟨some 4,none,.mov (.c (.bool false))⟩])
(.seq (.seq (.reg [⟨some 5,none,.mov (.t 0)⟩,⟨some 6,none,.nilchk (.t 5)⟩,⟨some 7,none,.faddr 0 (.t 6)⟩,⟨some 8,none,.load false 1 (.t 7)⟩,⟨some 9,none,.bin .neq (.t 8) (.c (.str []))⟩,⟨some 10,none,.mov (.t 9)⟩,⟨some 11,some (10,true),.mov (.t 1)⟩,⟨some 12,some (10,true),.mov (.t 0)⟩,⟨some 13,some (10,true),.nilchk (.t 12)⟩,⟨some 14,some (10,true),.faddr 0 (.t 13)⟩,⟨some 15,some (10,true),.load false 1 (.t 14)⟩,⟨some 16,some (10,true),.indexS (.t 15) (.c (j 0))⟩,⟨some 17,some (10,true),.call (.c (.func 95 [] [])) [.t 11,.t 16]⟩,⟨some 18,some (10,true),.bin .geq (.t 17) (.c (j 0))⟩,⟨some 19,none,.pick (.t 10) (.t 18) (.c (.bool false))⟩])
(.cond (.t 19) (.seq (.reg [⟨some 20,none,.mov (.t 0)⟩,⟨some 21,none,.mov (.t 0)⟩,⟨some 22,none,.nilchk (.t 21)⟩,⟨some 23,none,.faddr 0 (.t 22)⟩,⟨some 24,none,.load false 1 (.t 23)⟩,⟨some 25,none,.sliceS (.t 24) (some (.c (j 1))) none⟩,⟨some 26,none,.nilchk (.t 20)⟩,⟨some 27,none,.faddr 0 (.t 26)⟩,⟨none,none,.store 1 (.t 27) (.t 25)⟩])
(.seq (.reg [⟨some 4,none,.mov (.c (.bool true))⟩])
(.ret))) (.skip)))
(.seq (.reg [⟨some 4,none,.mov (.c (.bool false))⟩])
(.ret))), [.tmp 4], none⟩
theorem amok213 : FnOk Tryz.prog 213 am213 := FnOk.mk' quiets Tryz.func213 (pols := []) (keep := none) (by kernel_rfl) rfl
def am214 : AFunc := ⟨1, .seq (.reg [⟨some 2,none,.mov (.c (.str []))⟩])
(.seq (.reg [⟨some 3,none,.mov (.c (j 0))⟩])
(.seq (.block 0 (.loop (.seq (.seq (.reg [⟨some 5,none,.mov (.t 3)⟩,⟨some 6,none,.mov (.t 0)⟩,⟨some 7,none,.nilchk (.t 6)⟩,⟨some 8,none,.faddr 0 (.t 7)⟩,⟨some 9,none,.load false 1 (.t 8)⟩,⟨some 10,none,.len true (.t 9)⟩,⟨some 11,none,.bin .lss (.t 5) (.t 10)⟩,⟨some 12,none,.mov (.t 11)⟩,⟨some 13,some (12,true),.mov (.t 0)⟩,⟨some 14,some (12,true),.nilchk (.t 13)⟩,⟨some 15,some (12,true),.faddr 0 (.t 14)⟩,⟨some 16,some (12,true),.load false 1 (.t 15)⟩,⟨some 17,some (12,true),.mov (.t 3)⟩,⟨some 18,some (12,true),.indexS (.t 16) (.t 17)⟩,⟨some 19,some (12,true),.bin .geq (.t 18) (.c (.int .u8 (.ofNat 48)))⟩,⟨some 20,none,.pick (.t 12) (.t 19) (.c (.bool false))⟩,⟨some 21,none,.mov (.t 20)⟩,⟨some 22,some (21,true),.mov (.t 0)⟩,⟨some 23,some (21,true),.nilchk (.t 22)⟩,⟨some 24,some (21,true),.faddr 0 (.t 23)⟩,⟨some 25,some (21,true),.load false 1 (.t 24)⟩,⟨some 26,some (21,true),.mov (.t 3)⟩,⟨some 27,some (21,true),.indexS (.t 25) (.t 26)⟩,⟨some 28,some (21,true),.bin .leq (.t 27) (.c (.int .u8 (.ofNat 57)))⟩,⟨some 29,none,.pick (.t 21) (.t 28) (.c (.bool false))⟩])
(.cond (.t 29) (.skip) (.exit 0)))
(.block 1 (.reg [⟨some 30,none,.mov (.t 3)⟩,⟨some 31,none,.bin .add (.t 30) (.c (j 1))⟩,⟨some 3,none,.mov (.t 31)⟩])))))
(.seq (.reg [⟨some 32,none,.mov (.t 0)⟩,⟨some 33,none,.nilchk (.t 32)⟩,⟨some 34,none,.faddr 0 (.t 33)⟩,⟨some 35,none,.load false 1 (.t 34)⟩,⟨some 36,none,.mov (.t 3)⟩,⟨some 37,none,.sliceS (.t 35) none (some (.t 36))⟩,⟨some 4,none,.mov (.t 37)⟩])
(.seq (.reg [⟨some 38,none,.mov (.t 0)⟩,⟨some 39,none,.mov (.t 0)⟩,⟨some 40,none,.nilchk (.t 39)⟩,⟨some 41,none,.faddr 0 (.t 40)⟩,⟨some 42,none,.load false 1 (.t 41)⟩,⟨some 43,none,.mov (.t 3)⟩,⟨some 44,none,.sliceS (.t 42) (some (.t 43)) none⟩,⟨some 45,none,.nilchk (.t 38)⟩,⟨some 46,none,.faddr 0 (.t 45)⟩,⟨none,none,.store 1 (.t 46) (.t 44)⟩])
(.seq (.reg [⟨some 47,none,.mov (.t 0)⟩,⟨some 48,none,.mov (.t 0)⟩,⟨some 49,none,.nilchk (.t 48)⟩,⟨some 50,none,.faddr 1 (.t 49)⟩,⟨some 51,none,.load false 1 (.t 50)⟩,⟨some 52,none,.mov (.t 51)⟩,⟨some 53,some (52,true),.mov (.t 3)⟩,⟨some 54,some (52,true),.bin .gtr (.t 53) (.c (j 0))⟩,⟨some 55,none,.pick (.t 52) (.t 54) (.c (.bool false))⟩,⟨some 56,none,.nilchk (.t 47)⟩,⟨some 57,none,.faddr 1 (.t 56)⟩,⟨none,none,.store 1 (.t 57) (.t 55)⟩])
(.seq (.reg [⟨some 58,none,.mov (.t 4)⟩,⟨some 2,none,.mov (.t 58)⟩])
(.ret))))))), [.tmp 2], none⟩
theorem amok214 : FnOk Tryz.prog 214 am214 := FnOk.mk' quiets Tryz.func214 (pols := []) (keep := none) (by kernel_rfl) rfl
end Go.AM.T
