/- The functions of the abstract machine are the program's. -/
import Derived.Test.YtmmgmcihiilfbaaGreatDoorProg
import Derived.Test.YtmmgmcihiilfbaaGreatDoorTZs
import Derived.Test.YtmmgmcihiilfbaaGreatDoorTQuiet
import Derived.KernelRfl
set_option linter.unusedVariables false
set_option maxRecDepth 100000
namespace Go.AM.T
open Go.Proofs
def am79 : AFunc := ⟨1, .seq (.reg [⟨some 7,none,.mov (.t 0)⟩,⟨some 8,none,.nilchk (.t 7)⟩,⟨some 9,none,.faddr 1 (.t 8)⟩,⟨some 10,none,.load false 1 (.t 9)⟩,⟨some 2,none,.mov (.t 10)⟩])
(.seq (.reg [⟨some 12,none,.mov (.t 0)⟩,⟨some 13,none,.nilchk (.t 12)⟩,⟨some 14,none,.faddr 0 (.t 13)⟩,⟨some 15,none,.load false 1 (.t 14)⟩,⟨some 16,none,.mov (.t 2)⟩,⟨some 17,none,.call (.c (.func 120 [] [])) [.t 15,.t 16]⟩,⟨some 11,none,.mov (.t 17)⟩,⟨some 18,none,.extract (.t 11) 0⟩,⟨some 19,none,.extract (.t 11) 1⟩,⟨some 3,none,.mov (.t 18)⟩,⟨some 4,none,.mov (.t 19)⟩])
(.seq (.seq (.reg [⟨some 20,none,.mov (.t 4)⟩,⟨some 21,none,.un .not (.t 20)⟩,⟨some 22,none,.mov (.t 21)⟩,⟨some 23,some (22,false),.mov (.t 3)⟩,⟨some 24,some (22,false),.mov (.t 0)⟩,⟨some 25,some (22,false),.nilchk (.t 24)⟩,⟨some 26,some (22,false),.faddr 0 (.t 25)⟩,⟨some 27,some (22,false),.load false 1 (.t 26)⟩,⟨some 28,some (22,false),.len true (.t 27)⟩,⟨some 29,some (22,false),.bin .lss (.t 23) (.t 28)⟩,⟨some 30,some (22,false),.mov (.t 29)⟩,⟨some 31,some (30,true),.mov (.t 0)⟩,⟨some 32,some (30,true),.nilchk (.t 31)⟩,⟨some 33,some (30,true),.faddr 0 (.t 32)⟩,⟨some 34,some (30,true),.load false 1 (.t 33)⟩,⟨some 35,some (30,true),.mov (.t 3)⟩,⟨some 36,some (30,true),.indexS (.t 34) (.t 35)⟩,⟨some 37,some (30,true),.call (.c (.func 121 [] [])) [.t 36]⟩,⟨some 38,some (30,true),.mov (.t 37)⟩,⟨some 39,some (38,false),.mov (.t 0)⟩,⟨some 40,some (38,false),.nilchk (.t 39)⟩,⟨some 41,some (38,false),.faddr 0 (.t 40)⟩,⟨some 42,some (38,false),.load false 1 (.t 41)⟩,⟨some 43,some (38,false),.mov (.t 3)⟩,⟨some 44,some (38,false),.indexS (.t 42) (.t 43)⟩,⟨some 45,some (38,false),.bin .eql (.t 44) (.c (.int .u8 (.ofNat 46)))⟩,⟨some 46,some (30,true),.pick (.t 38) (.c (.bool true)) (.t 45)⟩,⟨some 47,some (22,false),.pick (.t 30) (.t 46) (.c (.bool false))⟩,⟨some 48,none,.pick (.t 22) (.c (.bool true)) (.t 47)⟩])
(.cond (.t 48) (.seq (.reg [⟨some 49,none,.mov (.t 0)⟩,⟨some 50,none,.mov (.t 2)⟩,⟨some 51,none,.call (.c (.func 57 [] [])) [.t 49,.t 50,.c (j 32)]⟩])
(.ret)) (.skip)))
(.seq (.reg [⟨some 53,none,.mov (.t 0)⟩,⟨some 54,none,.nilchk (.t 53)⟩,⟨some 55,none,.faddr 0 (.t 54)⟩,⟨some 56,none,.load false 1 (.t 55)⟩,⟨some 57,none,.mov (.t 2)⟩,⟨some 58,none,.mov (.t 3)⟩,⟨some 59,none,.sliceS (.t 56) (some (.t 57)) (some (.t 58))⟩,⟨some 60,none,.call (.c (.func 122 [] [])) [.t 59]⟩,⟨some 52,none,.mov (.t 60)⟩,⟨some 61,none,.extract (.t 52) 0⟩,⟨some 62,none,.extract (.t 52) 1⟩,⟨some 5,none,.hole 3⟩,⟨some 5,none,.fill 3 ⟨.t 61, none⟩⟩,⟨some 6,none,.mov (.t 62)⟩])
(.seq (.seq (.reg [⟨some 63,none,.mov (.t 6)⟩,⟨some 64,none,.bin .neq (.t 63) (.c (j 0))⟩])
(.cond (.t 64) (.seq (.reg [⟨some 65,none,.mov (.t 0)⟩,⟨some 66,none,.mov (.t 2)⟩,⟨some 67,none,.mov (.t 6)⟩,⟨some 68,none,.call (.c (.func 57 [] [])) [.t 65,.t 66,.t 67]⟩])
(.ret)) (.skip)))
(.seq (.reg [⟨some 69,none,.mov (.t 0)⟩,⟨some 70,none,.mov (.t 3)⟩,⟨some 71,none,.nilchk (.t 69)⟩,⟨some 72,none,.faddr 1 (.t 71)⟩,⟨none,none,.store 1 (.t 72) (.t 70)⟩])
(.dreg [(⟨some 73,none,.mov (.t 0)⟩,0,0),(⟨some 74,none,.mov (.t 0)⟩,0,0),(⟨some 75,none,.nilchk (.t 74)⟩,0,0),(⟨some 76,none,.faddr 0 (.t 75)⟩,0,0),(⟨some 77,none,.load false 1 (.t 76)⟩,4,0),(⟨some 78,none,.mov (.t 2)⟩,0,0),(⟨some 79,none,.mov (.t 3)⟩,0,0),(⟨some 80,none,.sliceS (.t 77) (some (.t 78)) (some (.t 79))⟩,0,0),(⟨some 81,none,.load true 3 (.t 5)⟩,8,0),(⟨some 82,none,.mov (.t 2)⟩,0,0),(⟨some 83,none,.build z9 [(0,1,.c (j 3)),(1,1,.t 80),(2,3,.t 81),(5,1,.t 82)]⟩,0,0),(⟨some 84,none,.call (.c (.func 80 [] [])) [.t 73,.t 83]⟩,0,0)])))))), [], none⟩
theorem amok79 : FnOk Tryz.prog 79 am79 := FnOk.mk' quiets Tryz.func79 (pols := [(4, 11, .hole),(4, 12, .hole)]) (keep := none) (by kernel_rfl) rfl
def am80 : AFunc := ⟨2, .seq (.reg [⟨some 3,none,.boxF 6 (.t 1)⟩])
(.seq (.seq (.reg [⟨some 4,none,.mov (.t 0)⟩,⟨some 5,none,.nilchk (.t 4)⟩,⟨some 6,none,.faddr 5 (.t 5)⟩,⟨some 7,none,.load false 1 (.t 6)⟩,⟨some 8,none,.bin .eql (.t 7) (.c (j 0))⟩,⟨some 9,none,.mov (.t 8)⟩,⟨some 10,some (9,true),.mov (.t 0)⟩,⟨some 11,some (9,true),.nilchk (.t 10)⟩,⟨some 12,some (9,true),.faddr 2 (.t 11)⟩,⟨some 13,some (9,true),.load false 1 (.t 12)⟩,⟨some 14,some (9,true),.len false (.t 13)⟩,⟨some 15,some (9,true),.bin .eql (.t 14) (.c (j 8192))⟩,⟨some 16,none,.pick (.t 9) (.t 15) (.c (.bool false))⟩])
(.cond (.t 16) (.reg [⟨some 17,none,.mov (.t 0)⟩,⟨some 18,none,.faddr 5 (.t 3)⟩,⟨some 19,none,.load false 1 (.t 18)⟩,⟨some 20,none,.call (.c (.func 57 [] [])) [.t 17,.t 19,.c (j 3)]⟩]) (.skip)))
(.seq (.reg [⟨some 21,none,.mov (.t 0)⟩,⟨some 22,none,.nilchk (.t 21)⟩,⟨some 23,none,.faddr 5 (.t 22)⟩,⟨some 24,none,.load false 1 (.t 23)⟩,⟨some 25,none,.bin .eql (.t 24) (.c (j 0))⟩])
(.cond (.t 25) (.dreg [(⟨some 26,none,.mov (.t 0)⟩,0,0),(⟨some 27,none,.mov (.t 0)⟩,0,0),(⟨some 28,none,.nilchk (.t 27)⟩,0,0),(⟨some 29,none,.faddr 2 (.t 28)⟩,0,0),(⟨some 30,none,.load false 1 (.t 29)⟩,4,0),(⟨some 31,none,.load true 6 (.t 3)⟩,5,0),(⟨some 32,none,.bslF z9 1 [(0,6,.t 31)]⟩,0,0),(⟨some 33,none,.append 6 72 (.t 30) (.t 32)⟩,0,0),(⟨some 34,none,.nilchk (.t 26)⟩,0,0),(⟨some 35,none,.faddr 2 (.t 34)⟩,0,0),(⟨none,none,.store 1 (.t 35) (.t 33)⟩,0,0)]) (.skip)))), [], none⟩
theorem amok80 : FnOk Tryz.prog 80 am80 := FnOk.mk' quiets Tryz.func80 (pols := [(0, 0, .frz),(4, 6, .frz)]) (keep := none) (by kernel_rfl) rfl
def am81 : AFunc := ⟨1, .seq (.reg [⟨some 7,none,.mov (.t 0)⟩,⟨some 8,none,.nilchk (.t 7)⟩,⟨some 9,none,.faddr 1 (.t 8)⟩,⟨some 10,none,.load false 1 (.t 9)⟩,⟨some 2,none,.mov (.t 10)⟩])
(.seq (.reg [⟨some 3,none,.resv 1⟩])
(.block 0 (.loop (.seq (.seq (.reg [⟨some 11,none,.mov (.t 0)⟩,⟨some 12,none,.nilchk (.t 11)⟩,⟨some 13,none,.faddr 5 (.t 12)⟩,⟨some 14,none,.load false 1 (.t 13)⟩,⟨some 15,none,.bin .eql (.t 14) (.c (j 0))⟩])
(.cond (.t 15) (.skip) (.exit 0)))
(.block 1 (.seq (.reg [⟨some 16,none,.mov (.t 0)⟩,⟨some 17,none,.mov (.t 0)⟩,⟨some 18,none,.nilchk (.t 17)⟩,⟨some 19,none,.faddr 1 (.t 18)⟩,⟨some 20,none,.load false 1 (.t 19)⟩,⟨some 21,none,.call (.c (.func 76 [] [])) [.t 16,.t 20]⟩,⟨some 4,none,.mov (.t 21)⟩])
(.block 2 (.seq (.dreg [(⟨some 81,none,.mov (.t 0)⟩,0,0),(⟨some 82,none,.nilchk (.t 81)⟩,0,0),(⟨some 83,none,.faddr 1 (.t 82)⟩,0,0),(⟨some 84,none,.load false 1 (.t 83)⟩,3,0),(⟨some 85,none,.mov (.t 0)⟩,0,0),(⟨some 86,none,.nilchk (.t 85)⟩,0,0),(⟨some 87,none,.faddr 0 (.t 86)⟩,0,0),(⟨some 88,none,.load false 1 (.t 87)⟩,7,0),(⟨some 89,none,.len true (.t 88)⟩,0,0),(⟨some 90,none,.bin .geq (.t 84) (.t 89)⟩,0,0),(⟨some 80,none,.mov (.t 90)⟩,0,0)])
(.cond (.t 80) (.reg [⟨some 91,none,.mov (.t 0)⟩,⟨some 92,none,.mov (.t 0)⟩,⟨some 93,none,.nilchk (.t 92)⟩,⟨some 94,none,.faddr 0 (.t 93)⟩,⟨some 95,none,.load false 1 (.t 94)⟩,⟨some 96,none,.len true (.t 95)⟩,⟨some 97,none,.call (.c (.func 57 [] [])) [.t 91,.t 96,.c (j 8)]⟩]) (.seq (.reg [⟨some 99,none,.mov (.t 4)⟩,⟨some 100,none,.bin .eql (.t 99) (.c (.int .u8 (.ofNat 34)))⟩,⟨some 98,none,.mov (.t 100)⟩])
(.cond (.t 98) (.seq (.reg [⟨some 101,none,.mov (.t 0)⟩,⟨some 102,none,.mov (.t 3)⟩,⟨some 103,none,.mov (.t 2)⟩,⟨some 104,none,.call (.c (.func 123 [] [])) [.t 101,.t 102,.t 103]⟩])
(.seq (.reg [⟨some 105,none,.mov (.t 0)⟩,⟨some 106,none,.mov (.t 0)⟩,⟨some 107,none,.nilchk (.t 106)⟩,⟨some 108,none,.faddr 1 (.t 107)⟩,⟨some 109,none,.load false 1 (.t 108)⟩,⟨some 110,none,.build z9 [(0,1,.c (j 11)),(5,1,.t 109)]⟩,⟨some 111,none,.call (.c (.func 80 [] [])) [.t 105,.t 110]⟩])
(.seq (.reg [⟨some 112,none,.mov (.t 0)⟩,⟨some 113,none,.nilchk (.t 112)⟩,⟨some 114,none,.faddr 1 (.t 113)⟩,⟨some 115,none,.load false 1 (.t 114)⟩,⟨some 116,none,.bin .add (.t 115) (.c (j 1))⟩,⟨some 117,none,.nilchk (.t 112)⟩,⟨some 118,none,.faddr 1 (.t 117)⟩,⟨none,none,.store 1 (.t 118) (.t 116)⟩])
(.seq (.reg [⟨some 119,none,.mov (.t 0)⟩,⟨some 120,none,.nilchk (.t 119)⟩,⟨some 121,none,.faddr 4 (.t 120)⟩,⟨some 122,none,.load false 1 (.t 121)⟩,⟨some 123,none,.bin .sub (.t 122) (.c (j 1))⟩,⟨some 124,none,.nilchk (.t 119)⟩,⟨some 125,none,.faddr 4 (.t 124)⟩,⟨none,none,.store 1 (.t 125) (.t 123)⟩])
(.ret))))) (.seq (.reg [⟨some 127,none,.mov (.t 4)⟩,⟨some 128,none,.bin .eql (.t 127) (.c (.int .u8 (.ofNat 92)))⟩,⟨some 129,none,.mov (.t 128)⟩,⟨some 130,some (129,true),.mov (.t 0)⟩,⟨some 131,some (129,true),.mov (.t 0)⟩,⟨some 132,some (129,true),.nilchk (.t 131)⟩,⟨some 133,some (129,true),.faddr 1 (.t 132)⟩,⟨some 134,some (129,true),.load false 1 (.t 133)⟩,⟨some 135,some (129,true),.bin .add (.t 134) (.c (j 1))⟩,⟨some 136,some (129,true),.call (.c (.func 76 [] [])) [.t 130,.t 135]⟩,⟨some 137,some (129,true),.bin .eql (.t 136) (.c (.int .u8 (.ofNat 40)))⟩,⟨some 138,none,.pick (.t 129) (.t 137) (.c (.bool false))⟩,⟨some 126,none,.mov (.t 138)⟩])
(.cond (.t 126) (.seq (.reg [⟨some 139,none,.mov (.t 0)⟩,⟨some 140,none,.mov (.t 3)⟩,⟨some 141,none,.mov (.t 2)⟩,⟨some 142,none,.call (.c (.func 123 [] [])) [.t 139,.t 140,.t 141]⟩])
(.seq (.seq (.reg [⟨some 143,none,.mov (.t 0)⟩,⟨some 144,none,.nilchk (.t 143)⟩,⟨some 145,none,.faddr 3 (.t 144)⟩,⟨some 146,none,.load false 1 (.t 145)⟩,⟨some 147,none,.len false (.t 146)⟩,⟨some 148,none,.bin .eql (.t 147) (.c (j 48))⟩])
(.cond (.t 148) (.reg [⟨some 149,none,.mov (.t 0)⟩,⟨some 150,none,.mov (.t 0)⟩,⟨some 151,none,.nilchk (.t 150)⟩,⟨some 152,none,.faddr 1 (.t 151)⟩,⟨some 153,none,.load false 1 (.t 152)⟩,⟨some 154,none,.call (.c (.func 57 [] [])) [.t 149,.t 153,.c (j 42)]⟩]) (.skip)))
(.seq (.reg [⟨some 155,none,.mov (.t 0)⟩,⟨some 156,none,.mov (.t 0)⟩,⟨some 157,none,.nilchk (.t 156)⟩,⟨some 158,none,.faddr 1 (.t 157)⟩,⟨some 159,none,.load false 1 (.t 158)⟩,⟨some 160,none,.build z9 [(0,1,.c (j 9)),(5,1,.t 159)]⟩,⟨some 161,none,.call (.c (.func 80 [] [])) [.t 155,.t 160]⟩])
(.seq (.reg [⟨some 162,none,.mov (.t 0)⟩,⟨some 163,none,.mov (.t 0)⟩,⟨some 164,none,.nilchk (.t 163)⟩,⟨some 165,none,.faddr 1 (.t 164)⟩,⟨some 166,none,.load false 1 (.t 165)⟩,⟨some 167,none,.bin .add (.t 166) (.c (j 2))⟩,⟨some 168,none,.nilchk (.t 162)⟩,⟨some 169,none,.faddr 1 (.t 168)⟩,⟨none,none,.store 1 (.t 169) (.t 167)⟩])
(.seq (.reg [⟨some 170,none,.mov (.t 0)⟩,⟨some 171,none,.mov (.t 0)⟩,⟨some 172,none,.nilchk (.t 171)⟩,⟨some 173,none,.faddr 3 (.t 172)⟩,⟨some 174,none,.load false 1 (.t 173)⟩,⟨some 175,none,.bslF [j 0] 1 [(0,1,.c (j 0))]⟩,⟨some 176,none,.append 1 8 (.t 174) (.t 175)⟩,⟨some 177,none,.nilchk (.t 170)⟩,⟨some 178,none,.faddr 3 (.t 177)⟩,⟨none,none,.store 1 (.t 178) (.t 176)⟩])
(.ret)))))) (.seq (.reg [⟨some 180,none,.mov (.t 4)⟩,⟨some 181,none,.bin .eql (.t 180) (.c (.int .u8 (.ofNat 92)))⟩,⟨some 179,none,.mov (.t 181)⟩])
(.cond (.t 179) (.reg [⟨some 182,none,.mov (.t 3)⟩,⟨some 183,none,.mov (.t 0)⟩,⟨some 184,none,.call (.c (.func 124 [] [])) [.t 183]⟩,⟨some 185,none,.append 1 1 (.t 182) (.t 184)⟩,⟨some 3,none,.mov (.t 185)⟩]) (.seq (.reg [⟨some 187,none,.mov (.t 4)⟩,⟨some 188,none,.bin .lss (.t 187) (.c (.int .u8 (.ofNat 32)))⟩,⟨some 186,none,.mov (.t 188)⟩])
(.cond (.t 186) (.reg [⟨some 189,none,.mov (.t 0)⟩,⟨some 190,none,.mov (.t 0)⟩,⟨some 191,none,.nilchk (.t 190)⟩,⟨some 192,none,.faddr 1 (.t 191)⟩,⟨some 193,none,.load false 1 (.t 192)⟩,⟨some 194,none,.call (.c (.func 57 [] [])) [.t 189,.t 193,.c (j 32)]⟩]) (.seq (.dreg [(⟨some 23,none,.mov (.t 0)⟩,0,0),(⟨some 24,none,.nilchk (.t 23)⟩,0,0),(⟨some 25,none,.faddr 0 (.t 24)⟩,0,0),(⟨some 26,none,.load false 1 (.t 25)⟩,3,0),(⟨some 27,none,.mov (.t 0)⟩,0,0),(⟨some 28,none,.nilchk (.t 27)⟩,0,0),(⟨some 29,none,.faddr 1 (.t 28)⟩,0,0),(⟨some 30,none,.load false 1 (.t 29)⟩,7,0),(⟨some 31,none,.mov (.t 0)⟩,0,0),(⟨some 32,none,.nilchk (.t 31)⟩,0,0),(⟨some 33,none,.faddr 0 (.t 32)⟩,0,0),(⟨some 34,none,.load false 1 (.t 33)⟩,11,0),(⟨some 35,none,.len true (.t 34)⟩,0,0),(⟨some 36,none,.mov (.t 0)⟩,0,0),(⟨some 37,none,.nilchk (.t 36)⟩,0,0),(⟨some 38,none,.faddr 1 (.t 37)⟩,0,0),(⟨some 39,none,.load false 1 (.t 38)⟩,16,0),(⟨some 40,none,.bin .add (.t 39) (.c (j 4))⟩,0,0),(⟨some 41,none,.mins (.t 35) [.t 40]⟩,0,0),(⟨some 42,none,.sliceS (.t 26) (some (.t 30)) (some (.t 41))⟩,0,0),(⟨some 43,none,.call (.c (.func 125 [] [])) [.t 42]⟩,0,0),(⟨some 22,none,.mov (.t 43)⟩,0,0),(⟨some 44,none,.extract (.t 22) 0⟩,0,0),(⟨some 45,none,.extract (.t 22) 1⟩,0,0),(⟨some 5,none,.mov (.t 44)⟩,0,0),(⟨some 6,none,.mov (.t 45)⟩,0,0)])
(.seq (.seq (.reg [⟨some 46,none,.mov (.t 6)⟩,⟨some 47,none,.bin .eql (.t 46) (.c (j 0))⟩])
(.cond (.t 47) (.reg [⟨some 48,none,.mov (.t 0)⟩,⟨some 49,none,.mov (.t 0)⟩,⟨some 50,none,.nilchk (.t 49)⟩,⟨some 51,none,.faddr 1 (.t 50)⟩,⟨some 52,none,.load false 1 (.t 51)⟩,⟨some 53,none,.call (.c (.func 57 [] [])) [.t 48,.t 52,.c (j 61)]⟩]) (.skip)))
(.seq (.dreg [(⟨some 54,none,.mov (.t 3)⟩,0,0),(⟨some 55,none,.mov (.t 0)⟩,0,0),(⟨some 56,none,.nilchk (.t 55)⟩,0,0),(⟨some 57,none,.faddr 0 (.t 56)⟩,0,0),(⟨some 58,none,.load false 1 (.t 57)⟩,4,0),(⟨some 59,none,.mov (.t 0)⟩,0,0),(⟨some 60,none,.nilchk (.t 59)⟩,0,0),(⟨some 61,none,.faddr 1 (.t 60)⟩,0,0),(⟨some 62,none,.load false 1 (.t 61)⟩,8,0),(⟨some 63,none,.mov (.t 0)⟩,0,0),(⟨some 64,none,.nilchk (.t 63)⟩,0,0),(⟨some 65,none,.faddr 1 (.t 64)⟩,0,0),(⟨some 66,none,.load false 1 (.t 65)⟩,12,0),(⟨some 67,none,.mov (.t 6)⟩,0,0),(⟨some 68,none,.bin .add (.t 66) (.t 67)⟩,0,0),(⟨some 69,none,.sliceS (.t 58) (some (.t 62)) (some (.t 68))⟩,0,0),(⟨some 70,none,.appendS 1 (.t 54) (.t 69)⟩,0,0),(⟨some 3,none,.mov (.t 70)⟩,0,0)])
(.reg [⟨some 71,none,.mov (.t 0)⟩,⟨some 72,none,.mov (.t 0)⟩,⟨some 73,none,.nilchk (.t 72)⟩,⟨some 74,none,.faddr 1 (.t 73)⟩,⟨some 75,none,.load false 1 (.t 74)⟩,⟨some 76,none,.mov (.t 6)⟩,⟨some 77,none,.bin .add (.t 75) (.t 76)⟩,⟨some 78,none,.nilchk (.t 71)⟩,⟨some 79,none,.faddr 1 (.t 78)⟩,⟨none,none,.store 1 (.t 79) (.t 77)⟩]))))))))))))))))))))), [], none⟩
theorem amok81 : FnOk Tryz.prog 81 am81 := FnOk.mk' quiets Tryz.func81 (pols := [(1, 0, .res [(0,1)]),(22, 5, .frz)]) (keep := none) (by kernel_rfl) rfl
def am82 : AFunc := ⟨1, .seq (.reg [⟨some 4,none,.call (.c (.func 85 [] [])) []⟩,⟨some 2,none,.mov (.t 4)⟩])
(.seq (.seq (.reg [⟨some 3,none,.mov (.c (j 0))⟩])
(.block 0 (.loop (.seq (.seq (.reg [⟨some 5,none,.mov (.t 3)⟩,⟨some 6,none,.mov (.t 2)⟩,⟨some 7,none,.len false (.t 6)⟩,⟨some 8,none,.bin .lss (.t 5) (.t 7)⟩])
(.cond (.t 8) (.skip) (.exit 0)))
(.seq (.block 1 (.seq (.dreg [(⟨some 11,none,.mov (.t 0)⟩,0,0),(⟨some 12,none,.nilchk (.t 11)⟩,0,0),(⟨some 13,none,.faddr 0 (.t 12)⟩,0,0),(⟨some 14,none,.load false 1 (.t 13)⟩,3,0),(⟨some 15,none,.len true (.t 14)⟩,0,0),(⟨some 16,none,.mov (.t 0)⟩,0,0),(⟨some 17,none,.nilchk (.t 16)⟩,0,0),(⟨some 18,none,.faddr 1 (.t 17)⟩,0,0),(⟨some 19,none,.load false 1 (.t 18)⟩,8,0),(⟨some 20,none,.bin .sub (.t 15) (.t 19)⟩,0,0),(⟨some 21,none,.mov (.t 2)⟩,0,0),(⟨some 22,none,.mov (.t 3)⟩,0,0),(⟨some 23,none,.iaddr 1 (.t 21) (.t 22)⟩,0,0),(⟨some 24,none,.load false 1 (.t 23)⟩,13,0),(⟨some 25,none,.len true (.t 24)⟩,0,0),(⟨some 26,none,.bin .geq (.t 20) (.t 25)⟩,0,0),(⟨some 27,none,.mov (.t 26)⟩,0,0),(⟨some 28,some (27,true),.mov (.t 0)⟩,0,0),(⟨some 29,some (27,true),.nilchk (.t 28)⟩,0,0),(⟨some 30,some (27,true),.faddr 0 (.t 29)⟩,0,0),(⟨some 31,some (27,true),.load false 1 (.t 30)⟩,20,0),(⟨some 32,some (27,true),.mov (.t 0)⟩,0,0),(⟨some 33,some (27,true),.nilchk (.t 32)⟩,0,0),(⟨some 34,some (27,true),.faddr 1 (.t 33)⟩,0,0),(⟨some 35,some (27,true),.load false 1 (.t 34)⟩,24,0),(⟨some 36,some (27,true),.mov (.t 0)⟩,0,0),(⟨some 37,some (27,true),.nilchk (.t 36)⟩,0,0),(⟨some 38,some (27,true),.faddr 1 (.t 37)⟩,0,0),(⟨some 39,some (27,true),.load false 1 (.t 38)⟩,28,0),(⟨some 40,some (27,true),.mov (.t 2)⟩,0,0),(⟨some 41,some (27,true),.mov (.t 3)⟩,0,0),(⟨some 42,some (27,true),.iaddr 1 (.t 40) (.t 41)⟩,0,0),(⟨some 43,some (27,true),.load false 1 (.t 42)⟩,32,0),(⟨some 44,some (27,true),.len true (.t 43)⟩,0,0),(⟨some 45,some (27,true),.bin .add (.t 39) (.t 44)⟩,0,0),(⟨some 46,some (27,true),.sliceS (.t 31) (some (.t 35)) (some (.t 45))⟩,0,0),(⟨some 47,some (27,true),.mov (.t 2)⟩,0,0),(⟨some 48,some (27,true),.mov (.t 3)⟩,0,0),(⟨some 49,some (27,true),.iaddr 1 (.t 47) (.t 48)⟩,0,0),(⟨some 50,some (27,true),.load false 1 (.t 49)⟩,39,0),(⟨some 51,some (27,true),.bin .eql (.t 46) (.t 50)⟩,0,0),(⟨some 52,none,.pick (.t 27) (.t 51) (.c (.bool false))⟩,0,0)])
(.cond (.t 52) (.seq (.dreg [(⟨some 53,none,.mov (.t 0)⟩,0,0),(⟨some 54,none,.mov (.t 2)⟩,0,0),(⟨some 55,none,.mov (.t 3)⟩,0,0),(⟨some 56,none,.iaddr 1 (.t 54) (.t 55)⟩,0,0),(⟨some 57,none,.load false 1 (.t 56)⟩,4,0),(⟨some 58,none,.mov (.t 0)⟩,0,0),(⟨some 59,none,.nilchk (.t 58)⟩,0,0),(⟨some 60,none,.faddr 1 (.t 59)⟩,0,0),(⟨some 61,none,.load false 1 (.t 60)⟩,8,0),(⟨some 62,none,.build z9 [(0,1,.c (j 4)),(1,1,.t 57),(5,1,.t 61)]⟩,0,0),(⟨some 63,none,.call (.c (.func 80 [] [])) [.t 53,.t 62]⟩,0,0)])
(.seq (.dreg [(⟨some 64,none,.mov (.t 0)⟩,0,0),(⟨some 65,none,.mov (.t 0)⟩,0,0),(⟨some 66,none,.nilchk (.t 65)⟩,0,0),(⟨some 67,none,.faddr 1 (.t 66)⟩,0,0),(⟨some 68,none,.load false 1 (.t 67)⟩,4,0),(⟨some 69,none,.mov (.t 2)⟩,0,0),(⟨some 70,none,.mov (.t 3)⟩,0,0),(⟨some 71,none,.iaddr 1 (.t 69) (.t 70)⟩,0,0),(⟨some 72,none,.load false 1 (.t 71)⟩,8,0),(⟨some 73,none,.len true (.t 72)⟩,0,0),(⟨some 74,none,.bin .add (.t 68) (.t 73)⟩,0,0),(⟨some 75,none,.nilchk (.t 64)⟩,0,0),(⟨some 76,none,.faddr 1 (.t 75)⟩,0,0),(⟨none,none,.store 1 (.t 76) (.t 74)⟩,0,0)])
(.ret))) (.skip))))
(.reg [⟨some 9,none,.mov (.t 3)⟩,⟨some 10,none,.bin .add (.t 9) (.c (j 1))⟩,⟨some 3,none,.mov (.t 10)⟩]))))))
(.reg [⟨some 77,none,.mov (.t 0)⟩,⟨some 78,none,.mov (.t 0)⟩,⟨some 79,none,.nilchk (.t 78)⟩,⟨some 80,none,.faddr 1 (.t 79)⟩,⟨some 81,none,.load false 1 (.t 80)⟩,⟨some 82,none,.call (.c (.func 57 [] [])) [.t 77,.t 81,.c (j 32)]⟩])), [], none⟩
theorem amok82 : FnOk Tryz.prog 82 am82 := FnOk.mk' quiets Tryz.func82 (pols := []) (keep := none) (by kernel_rfl) rfl
def am83 : AFunc := ⟨1, .seq (.reg [⟨some 2,none,.mov (.c (.bool false))⟩])
(.seq (.seq (.reg [⟨some 3,none,.mov (.c (j 0))⟩])
(.block 0 (.loop (.seq (.seq (.reg [⟨some 4,none,.mov (.t 3)⟩,⟨some 5,none,.mov (.t 0)⟩,⟨some 6,none,.len true (.t 5)⟩,⟨some 7,none,.bin .lss (.t 4) (.t 6)⟩])
(.cond (.t 7) (.skip) (.exit 0)))
(.seq (.block 1 (.seq (.reg [⟨some 10,none,.mov (.t 0)⟩,⟨some 11,none,.mov (.t 3)⟩,⟨some 12,none,.indexS (.t 10) (.t 11)⟩,⟨some 13,none,.call (.c (.func 121 [] [])) [.t 12]⟩,⟨some 14,none,.un .not (.t 13)⟩,⟨some 15,none,.mov (.t 14)⟩,⟨some 16,some (15,false),.mov (.t 3)⟩,⟨some 17,some (15,false),.bin .eql (.t 16) (.c (j 0))⟩,⟨some 18,some (15,false),.mov (.t 17)⟩,⟨some 19,some (18,true),.mov (.t 0)⟩,⟨some 20,some (18,true),.mov (.t 3)⟩,⟨some 21,some (18,true),.indexS (.t 19) (.t 20)⟩,⟨some 22,some (18,true),.call (.c (.func 77 [] [])) [.t 21]⟩,⟨some 23,some (18,true),.un .not (.t 22)⟩,⟨some 24,some (15,false),.pick (.t 18) (.t 23) (.c (.bool false))⟩,⟨some 25,none,.pick (.t 15) (.c (.bool true)) (.t 24)⟩])
(.cond (.t 25) (.seq (.reg [⟨some 2,none,.mov (.c (.bool false))⟩])
(.ret)) (.skip))))
(.reg [⟨some 8,none,.mov (.t 3)⟩,⟨some 9,none,.bin .add (.t 8) (.c (j 1))⟩,⟨some 3,none,.mov (.t 9)⟩]))))))
(.seq (.reg [⟨some 26,none,.mov (.t 0)⟩,⟨some 27,none,.len true (.t 26)⟩,⟨some 28,none,.bin .gtr (.t 27) (.c (j 0))⟩,⟨some 2,none,.mov (.t 28)⟩])
(.ret))), [.tmp 2], none⟩
theorem amok83 : FnOk Tryz.prog 83 am83 := FnOk.mk' quiets Tryz.func83 (pols := []) (keep := none) (by kernel_rfl) rfl
def am85 : AFunc := ⟨0, .seq (.reg [⟨some 0,none,.mov (.c (.nilsl))⟩])
(.seq (.reg [⟨some 1,none,.bslF z11 34 [(0,1,.c (.str [63,47,47])),(1,1,.c (.str [47,47,61])),(2,1,.c (.str [46,46])),(3,1,.c (.str [124,61])),(4,1,.c (.str [43,61])),(5,1,.c (.str [45,61])),(6,1,.c (.str [42,61])),(7,1,.c (.str [47,61])),(8,1,.c (.str [37,61])),(9,1,.c (.str [61,61])),(10,1,.c (.str [33,61])),(11,1,.c (.str [60,61])),(12,1,.c (.str [62,61])),(13,1,.c (.str [47,47])),(14,1,.c (.str [46])),(15,1,.c (.str [91])),(16,1,.c (.str [93])),(17,1,.c (.str [40])),(18,1,.c (.str [41])),(19,1,.c (.str [123])),(20,1,.c (.str [125])),(21,1,.c (.str [124])),(22,1,.c (.str [44])),(23,1,.c (.str [58])),(24,1,.c (.str [59])),(25,1,.c (.str [61])),(26,1,.c (.str [60])),(27,1,.c (.str [62])),(28,1,.c (.str [43])),(29,1,.c (.str [45])),(30,1,.c (.str [42])),(31,1,.c (.str [47])),(32,1,.c (.str [37])),(33,1,.c (.str [63]))]⟩,⟨some 0,none,.mov (.t 1)⟩])
(.ret)), [.tmp 0], none⟩
theorem amok85 : FnOk Tryz.prog 85 am85 := FnOk.mk' quiets Tryz.func85 (pols := [(1, 0, .frz)]) (keep := none) (by kernel_rfl) rfl
def am86 : AFunc := ⟨1, .seq (.reg [⟨some 2,none,.mov (.c (j 0))⟩,⟨some 3,none,.mov (.c (j 0))⟩])
(.seq (.seq (.reg [⟨some 4,none,.mov (.c (j 0))⟩])
(.block 0 (.loop (.seq (.seq (.reg [⟨some 7,none,.mov (.t 4)⟩,⟨some 8,none,.mov (.t 0)⟩,⟨some 9,none,.len true (.t 8)⟩,⟨some 10,none,.bin .lss (.t 7) (.t 9)⟩])
(.cond (.t 10) (.skip) (.exit 0)))
(.block 1 (.seq (.reg [⟨some 12,none,.mov (.t 0)⟩,⟨some 13,none,.mov (.t 4)⟩,⟨some 14,none,.sliceS (.t 12) (some (.t 13)) none⟩,⟨some 15,none,.call (.c (.func 125 [] [])) [.t 14]⟩,⟨some 11,none,.mov (.t 15)⟩,⟨some 16,none,.extract (.t 11) 0⟩,⟨some 17,none,.extract (.t 11) 1⟩,⟨some 5,none,.mov (.t 16)⟩,⟨some 6,none,.mov (.t 17)⟩])
(.seq (.seq (.reg [⟨some 18,none,.mov (.t 6)⟩,⟨some 19,none,.bin .eql (.t 18) (.c (j 0))⟩])
(.cond (.t 19) (.seq (.reg [⟨some 20,none,.mov (.t 4)⟩,⟨some 2,none,.mov (.t 20)⟩,⟨some 3,none,.mov (.c (j 61))⟩])
(.ret)) (.skip)))
(.reg [⟨some 21,none,.mov (.t 4)⟩,⟨some 22,none,.mov (.t 6)⟩,⟨some 23,none,.bin .add (.t 21) (.t 22)⟩,⟨some 4,none,.mov (.t 23)⟩]))))))))
(.seq (.reg [⟨some 24,none,.mov (.t 0)⟩,⟨some 25,none,.len true (.t 24)⟩,⟨some 2,none,.mov (.t 25)⟩,⟨some 3,none,.mov (.c (j 0))⟩])
(.ret))), [.tmp 2,.tmp 3], none⟩
theorem amok86 : FnOk Tryz.prog 86 am86 := FnOk.mk' quiets Tryz.func86 (pols := []) (keep := none) (by kernel_rfl) rfl
def am87 : AFunc := ⟨1, .seq (.reg [⟨some 2,none,.mov (.c (.bool false))⟩])
(.seq (.seq (.reg [⟨some 3,none,.mov (.t 0)⟩,⟨some 4,none,.nilchk (.t 3)⟩,⟨some 5,none,.faddr 4 (.t 4)⟩,⟨some 6,none,.load false 1 (.t 5)⟩,⟨some 7,none,.bin .eql (.t 6) (.c (j 0))⟩,⟨some 8,none,.mov (.t 7)⟩,⟨some 9,some (8,true),.mov (.t 0)⟩,⟨some 10,some (8,true),.nilchk (.t 9)⟩,⟨some 11,some (8,true),.faddr 3 (.t 10)⟩,⟨some 12,some (8,true),.load false 1 (.t 11)⟩,⟨some 13,some (8,true),.bin .eql (.t 12) (.c (j 200))⟩,⟨some 14,none,.pick (.t 8) (.t 13) (.c (.bool false))⟩])
(.cond (.t 14) (.seq (.dreg [(⟨some 15,none,.mov (.t 0)⟩,0,0),(⟨some 16,none,.nilchk (.t 15)⟩,0,0),(⟨some 17,none,.faddr 1 (.t 16)⟩,0,0),(⟨some 18,none,.load false 1 (.t 17)⟩,3,0),(⟨some 19,none,.mov (.t 0)⟩,0,0),(⟨some 20,none,.nilchk (.t 19)⟩,0,0),(⟨some 21,none,.faddr 0 (.t 20)⟩,0,0),(⟨some 22,none,.load false 1 (.t 21)⟩,7,0),(⟨some 23,none,.len false (.t 22)⟩,0,0),(⟨some 24,none,.bin .lss (.t 18) (.t 23)⟩,0,0)])
(.cond (.t 24) (.reg [⟨some 25,none,.mov (.t 0)⟩,⟨some 26,none,.call (.c (.func 61 [] [])) [.t 25,.c (j 42)]⟩]) (.reg [⟨some 27,none,.mov (.t 0)⟩,⟨some 28,none,.call (.c (.func 61 [] [])) [.t 27,.c (j 8)]⟩]))) (.skip)))
(.seq (.reg [⟨some 29,none,.mov (.t 0)⟩,⟨some 30,none,.nilchk (.t 29)⟩,⟨some 31,none,.faddr 3 (.t 30)⟩,⟨some 32,none,.load false 1 (.t 31)⟩,⟨some 33,none,.bin .add (.t 32) (.c (j 1))⟩,⟨some 34,none,.nilchk (.t 29)⟩,⟨some 35,none,.faddr 3 (.t 34)⟩,⟨none,none,.store 1 (.t 35) (.t 33)⟩])
(.seq (.reg [⟨some 36,none,.mov (.t 0)⟩,⟨some 37,none,.nilchk (.t 36)⟩,⟨some 38,none,.faddr 4 (.t 37)⟩,⟨some 39,none,.load false 1 (.t 38)⟩,⟨some 40,none,.bin .eql (.t 39) (.c (j 0))⟩,⟨some 2,none,.mov (.t 40)⟩])
(.ret)))), [.tmp 2], none⟩
theorem amok87 : FnOk Tryz.prog 87 am87 := FnOk.mk' quiets Tryz.func87 (pols := []) (keep := none) (by kernel_rfl) rfl
def am88 : AFunc := ⟨1, .seq (.reg [⟨some 2,none,.mov (.c (j 0))⟩])
(.seq (.seq (.dreg [(⟨some 3,none,.mov (.t 0)⟩,0,0),(⟨some 4,none,.nilchk (.t 3)⟩,0,0),(⟨some 5,none,.faddr 1 (.t 4)⟩,0,0),(⟨some 6,none,.load false 1 (.t 5)⟩,3,0),(⟨some 7,none,.mov (.t 0)⟩,0,0),(⟨some 8,none,.nilchk (.t 7)⟩,0,0),(⟨some 9,none,.faddr 0 (.t 8)⟩,0,0),(⟨some 10,none,.load false 1 (.t 9)⟩,7,0),(⟨some 11,none,.len false (.t 10)⟩,0,0),(⟨some 12,none,.bin .lss (.t 6) (.t 11)⟩,0,0)])
(.cond (.t 12) (.seq (.dreg [(⟨some 13,none,.mov (.t 0)⟩,0,0),(⟨some 14,none,.nilchk (.t 13)⟩,0,0),(⟨some 15,none,.faddr 0 (.t 14)⟩,0,0),(⟨some 16,none,.load false 1 (.t 15)⟩,3,0),(⟨some 17,none,.mov (.t 0)⟩,0,0),(⟨some 18,none,.nilchk (.t 17)⟩,0,0),(⟨some 19,none,.faddr 1 (.t 18)⟩,0,0),(⟨some 20,none,.load false 1 (.t 19)⟩,7,0),(⟨some 21,none,.iaddr 6 (.t 16) (.t 20)⟩,0,0),(⟨some 22,none,.faddr 5 (.t 21)⟩,0,0),(⟨some 23,none,.load false 1 (.t 22)⟩,10,0),(⟨some 2,none,.mov (.t 23)⟩,0,0)])
(.ret)) (.skip)))
(.seq (.reg [⟨some 24,none,.mov (.t 0)⟩,⟨some 25,none,.nilchk (.t 24)⟩,⟨some 26,none,.faddr 2 (.t 25)⟩,⟨some 27,none,.load false 1 (.t 26)⟩,⟨some 2,none,.mov (.t 27)⟩])
(.ret))), [.tmp 2], none⟩
theorem amok88 : FnOk Tryz.prog 88 am88 := FnOk.mk' quiets Tryz.func88 (pols := []) (keep := none) (by kernel_rfl) rfl
def am89 : AFunc := ⟨3, .seq (.reg [⟨some 6,none,.mov (.c (.bool false))⟩])
(.seq (.dreg [(⟨some 7,none,.mov (.t 0)⟩,0,0),(⟨some 8,none,.nilchk (.t 7)⟩,0,0),(⟨some 9,none,.faddr 4 (.t 8)⟩,0,0),(⟨some 10,none,.load false 1 (.t 9)⟩,3,0),(⟨some 11,none,.bin .eql (.t 10) (.c (j 0))⟩,0,0),(⟨some 12,none,.mov (.t 11)⟩,0,0),(⟨some 13,some (12,true),.mov (.t 0)⟩,0,0),(⟨some 14,some (12,true),.nilchk (.t 13)⟩,0,0),(⟨some 15,some (12,true),.faddr 1 (.t 14)⟩,0,0),(⟨some 16,some (12,true),.load false 1 (.t 15)⟩,9,0),(⟨some 17,some (12,true),.mov (.t 0)⟩,0,0),(⟨some 18,some (12,true),.nilchk (.t 17)⟩,0,0),(⟨some 19,some (12,true),.faddr 0 (.t 18)⟩,0,0),(⟨some 20,some (12,true),.load false 1 (.t 19)⟩,13,0),(⟨some 21,some (12,true),.len false (.t 20)⟩,0,0),(⟨some 22,some (12,true),.bin .lss (.t 16) (.t 21)⟩,0,0),(⟨some 23,none,.pick (.t 12) (.t 22) (.c (.bool false))⟩,0,0),(⟨some 24,none,.mov (.t 23)⟩,0,0),(⟨some 25,some (24,true),.mov (.t 0)⟩,0,0),(⟨some 26,some (24,true),.nilchk (.t 25)⟩,0,0),(⟨some 27,some (24,true),.faddr 0 (.t 26)⟩,0,0),(⟨some 28,some (24,true),.load false 1 (.t 27)⟩,21,0),(⟨some 29,some (24,true),.mov (.t 0)⟩,0,0),(⟨some 30,some (24,true),.nilchk (.t 29)⟩,0,0),(⟨some 31,some (24,true),.faddr 1 (.t 30)⟩,0,0),(⟨some 32,some (24,true),.load false 1 (.t 31)⟩,25,0),(⟨some 33,some (24,true),.iaddr 6 (.t 28) (.t 32)⟩,0,0),(⟨some 34,some (24,true),.faddr 0 (.t 33)⟩,0,0),(⟨some 35,some (24,true),.load false 1 (.t 34)⟩,28,0),(⟨some 36,some (24,true),.mov (.t 1)⟩,0,0),(⟨some 37,some (24,true),.bin .eql (.t 35) (.t 36)⟩,0,0),(⟨some 38,none,.pick (.t 24) (.t 37) (.c (.bool false))⟩,0,0),(⟨some 39,none,.mov (.t 38)⟩,0,0),(⟨some 40,some (39,true),.mov (.t 0)⟩,0,0),(⟨some 41,some (39,true),.nilchk (.t 40)⟩,0,0),(⟨some 42,some (39,true),.faddr 0 (.t 41)⟩,0,0),(⟨some 43,some (39,true),.load false 1 (.t 42)⟩,36,0),(⟨some 44,some (39,true),.mov (.t 0)⟩,0,0),(⟨some 45,some (39,true),.nilchk (.t 44)⟩,0,0),(⟨some 46,some (39,true),.faddr 1 (.t 45)⟩,0,0),(⟨some 47,some (39,true),.load false 1 (.t 46)⟩,40,0),(⟨some 48,some (39,true),.iaddr 6 (.t 43) (.t 47)⟩,0,0),(⟨some 49,some (39,true),.faddr 1 (.t 48)⟩,0,0),(⟨some 50,some (39,true),.load false 1 (.t 49)⟩,43,0),(⟨some 51,some (39,true),.mov (.t 2)⟩,0,0),(⟨some 52,some (39,true),.bin .eql (.t 50) (.t 51)⟩,0,0),(⟨some 53,none,.pick (.t 39) (.t 52) (.c (.bool false))⟩,0,0),(⟨some 6,none,.mov (.t 53)⟩,0,0)])
(.ret)), [.tmp 6], none⟩
theorem amok89 : FnOk Tryz.prog 89 am89 := FnOk.mk' quiets Tryz.func89 (pols := []) (keep := none) (by kernel_rfl) rfl
def am90 : AFunc := ⟨1, .seq (.reg [⟨some 2,none,.allocB z1 []⟩])
(.seq (.reg [⟨some 7,none,.mov (.t 0)⟩,⟨some 8,none,.call (.c (.func 88 [] [])) [.t 7]⟩,⟨some 3,none,.mov (.t 8)⟩])
(.seq (.block 0 (.seq (.reg [⟨some 10,none,.mov (.t 0)⟩,⟨some 11,none,.call (.c (.func 91 [] [])) [.t 10,.c (j 1),.c (.str [100,101,102])]⟩,⟨some 9,none,.mov (.t 11)⟩])
(.cond (.t 9) (.seq (.reg [⟨some 12,none,.mov (.t 0)⟩,⟨some 13,none,.call (.c (.func 127 [] [])) [.t 12]⟩,⟨some 4,none,.hole 12⟩,⟨some 4,none,.fill 12 ⟨.t 13, none⟩⟩])
(.seq (.dreg [(⟨some 14,none,.load true 12 (.t 4)⟩,0,4),(⟨some 15,none,.bslF z0 1 [(0,12,.t 14)]⟩,0,0),(⟨some 16,none,.mov (.t 0)⟩,0,0),(⟨some 17,none,.call (.c (.func 128 [] [])) [.t 16]⟩,0,0),(⟨some 18,none,.bslF z1 1 [(0,10,.t 17)]⟩,0,0),(⟨some 19,none,.mov (.t 3)⟩,0,0),(⟨some 20,none,.build z1 [(0,1,.c (j 25)),(8,1,.t 15),(6,1,.t 18),(9,1,.t 19)]⟩,0,0),(⟨none,none,.store 10 (.t 2) (.t 20)⟩,0,0)])
(.ret))) (.seq (.reg [⟨some 22,none,.mov (.t 0)⟩,⟨some 23,none,.call (.c (.func 91 [] [])) [.t 22,.c (j 1),.c (.str [108,97,98,101,108])]⟩,⟨some 21,none,.mov (.t 23)⟩])
(.cond (.t 21) (.seq (.reg [⟨some 24,none,.mov (.t 0)⟩,⟨some 25,none,.call (.c (.func 129 [] [])) [.t 24,.c (j 5)]⟩,⟨some 5,none,.mov (.t 25)⟩])
(.seq (.reg [⟨some 26,none,.mov (.t 0)⟩,⟨some 27,none,.call (.c (.func 130 [] [])) [.t 26,.c (j 4),.c (.str [124])]⟩])
(.seq (.reg [⟨some 28,none,.mov (.t 5)⟩,⟨some 29,none,.mov (.t 0)⟩,⟨some 30,none,.call (.c (.func 59 [] [])) [.t 29]⟩,⟨some 31,none,.bslF z1 1 [(0,10,.t 30)]⟩,⟨some 32,none,.mov (.t 3)⟩,⟨some 33,none,.build z1 [(0,1,.c (j 23)),(1,1,.t 28),(6,1,.t 31),(9,1,.t 32)]⟩,⟨none,none,.store 10 (.t 2) (.t 33)⟩])
(.ret)))) (.skip))))))
(.seq (.reg [⟨some 34,none,.mov (.t 0)⟩,⟨some 35,none,.call (.c (.func 131 [] [])) [.t 34]⟩,⟨some 36,none,.bslR 10 z1 1 [(0,10,.t 35)]⟩,⟨some 6,none,.mov (.t 36)⟩])
(.seq (.block 1 (.loop (.seq (.seq (.reg [⟨some 37,none,.mov (.t 0)⟩,⟨some 38,none,.call (.c (.func 91 [] [])) [.t 37,.c (j 4),.c (.str [44])]⟩])
(.cond (.t 38) (.skip) (.exit 1)))
(.block 2 (.reg [⟨some 39,none,.mov (.t 6)⟩,⟨some 40,none,.mov (.t 0)⟩,⟨some 41,none,.call (.c (.func 131 [] [])) [.t 40]⟩,⟨some 42,none,.bslF z1 1 [(0,10,.t 41)]⟩,⟨some 43,none,.append 10 160 (.t 39) (.t 42)⟩,⟨some 6,none,.mov (.t 43)⟩])))))
(.seq (.reg [⟨some 44,none,.mov (.t 6)⟩,⟨some 45,none,.mov (.t 3)⟩,⟨some 46,none,.call (.c (.func 92 [] [])) [.c (j 28),.t 44,.t 45]⟩,⟨none,none,.store 10 (.t 2) (.t 46)⟩])
(.ret)))))), [.cell 2 true 10], none⟩
theorem amok90 : FnOk Tryz.prog 90 am90 := FnOk.mk' quiets Tryz.func90 (pols := [(3, 2, .hole),(3, 3, .hole),(4, 1, .frz),(4, 4, .frz),(8, 3, .frz),(11, 3, .frz)]) (keep := none) (by kernel_rfl) rfl
def am91 : AFunc := ⟨3, .seq (.reg [⟨some 6,none,.mov (.c (.bool false))⟩])
(.seq (.seq (.reg [⟨some 7,none,.mov (.t 0)⟩,⟨some 8,none,.mov (.t 1)⟩,⟨some 9,none,.mov (.t 2)⟩,⟨some 10,none,.call (.c (.func 89 [] [])) [.t 7,.t 8,.t 9]⟩])
(.cond (.t 10) (.seq (.reg [⟨some 11,none,.mov (.t 0)⟩,⟨some 12,none,.nilchk (.t 11)⟩,⟨some 13,none,.faddr 1 (.t 12)⟩,⟨some 14,none,.load false 1 (.t 13)⟩,⟨some 15,none,.bin .add (.t 14) (.c (j 1))⟩,⟨some 16,none,.nilchk (.t 11)⟩,⟨some 17,none,.faddr 1 (.t 16)⟩,⟨none,none,.store 1 (.t 17) (.t 15)⟩])
(.seq (.reg [⟨some 6,none,.mov (.c (.bool true))⟩])
(.ret))) (.skip)))
(.seq (.reg [⟨some 6,none,.mov (.c (.bool false))⟩])
(.ret))), [.tmp 6], none⟩
theorem amok91 : FnOk Tryz.prog 91 am91 := FnOk.mk' quiets Tryz.func91 (pols := []) (keep := none) (by kernel_rfl) rfl
def am92 : AFunc := ⟨3, .seq (.reg [⟨some 6,none,.allocB z1 []⟩])
(.seq (.seq (.reg [⟨some 7,none,.mov (.t 1)⟩,⟨some 8,none,.len false (.t 7)⟩,⟨some 9,none,.bin .eql (.t 8) (.c (j 1))⟩])
(.cond (.t 9) (.seq (.reg [⟨some 10,none,.mov (.t 1)⟩,⟨some 11,none,.iaddr 10 (.t 10) (.c (j 0))⟩,⟨some 12,none,.load true 10 (.t 11)⟩,⟨none,none,.store 10 (.t 6) (.t 12)⟩])
(.ret)) (.skip)))
(.seq (.reg [⟨some 13,none,.mov (.t 0)⟩,⟨some 14,none,.mov (.t 1)⟩,⟨some 15,none,.mov (.t 1)⟩,⟨some 16,none,.iaddr 10 (.t 15) (.c (j 0))⟩,⟨some 17,none,.faddr 9 (.t 16)⟩,⟨some 18,none,.load false 1 (.t 17)⟩,⟨some 19,none,.build z1 [(0,1,.t 13),(6,1,.t 14),(9,1,.t 18)]⟩,⟨none,none,.store 10 (.t 6) (.t 19)⟩])
(.ret))), [.cell 6 true 10], none⟩
theorem amok92 : FnOk Tryz.prog 92 am92 := FnOk.mk' quiets Tryz.func92 (pols := []) (keep := none) (by kernel_rfl) rfl
def am95 : AFunc := ⟨2, .seq (.reg [⟨some 4,none,.mov (.c (j 0))⟩])
(.seq (.reg [⟨some 5,none,.mov (.t 0)⟩,⟨some 6,none,.mov (.t 1)⟩,⟨some 7,none,.call (.c (.func 134 [] [])) [.t 5,.t 6]⟩,⟨some 4,none,.mov (.t 7)⟩])
(.ret)), [.tmp 4], none⟩
theorem amok95 : FnOk Tryz.prog 95 am95 := FnOk.mk' quiets Tryz.func95 (pols := []) (keep := none) (by kernel_rfl) rfl
def am97 : AFunc := ⟨1, .seq (.reg [⟨some 2,none,.mov (.c (.bool false))⟩])
(.seq (.reg [⟨some 3,none,.mov (.t 0)⟩,⟨some 4,none,.bin .or (.t 3) (.c (.int .u8 (.ofNat 32)))⟩,⟨some 5,none,.bin .geq (.t 4) (.c (.int .u8 (.ofNat 97)))⟩,⟨some 6,none,.mov (.t 5)⟩,⟨some 7,some (6,true),.mov (.t 0)⟩,⟨some 8,some (6,true),.bin .or (.t 7) (.c (.int .u8 (.ofNat 32)))⟩,⟨some 9,some (6,true),.bin .leq (.t 8) (.c (.int .u8 (.ofNat 122)))⟩,⟨some 10,none,.pick (.t 6) (.t 9) (.c (.bool false))⟩,⟨some 11,none,.mov (.t 10)⟩,⟨some 12,some (11,true),.mov (.t 0)⟩,⟨some 13,some (11,true),.bin .lss (.t 12) (.c (.int .u8 (.ofNat 128)))⟩,⟨some 14,none,.pick (.t 11) (.t 13) (.c (.bool false))⟩,⟨some 15,none,.mov (.t 14)⟩,⟨some 16,some (15,false),.mov (.t 0)⟩,⟨some 17,some (15,false),.bin .eql (.t 16) (.c (.int .u8 (.ofNat 95)))⟩,⟨some 18,none,.pick (.t 15) (.c (.bool true)) (.t 17)⟩,⟨some 2,none,.mov (.t 18)⟩])
(.ret)), [.tmp 2], none⟩
theorem amok97 : FnOk Tryz.prog 97 am97 := FnOk.mk' quiets Tryz.func97 (pols := []) (keep := none) (by kernel_rfl) rfl
def am98 : AFunc := ⟨3, .seq (.reg [⟨some 8,none,.mov (.t 0)⟩,⟨some 9,none,.nilchk (.t 8)⟩,⟨some 10,none,.faddr 1 (.t 9)⟩,⟨some 11,none,.load false 1 (.t 10)⟩,⟨some 6,none,.mov (.t 11)⟩])
(.seq (.reg [⟨some 12,none,.mov (.t 0)⟩,⟨some 13,none,.nilchk (.t 12)⟩,⟨some 14,none,.faddr 1 (.t 13)⟩,⟨some 15,none,.load false 1 (.t 14)⟩,⟨some 16,none,.mov (.t 2)⟩,⟨some 17,none,.bin .add (.t 15) (.t 16)⟩,⟨some 18,none,.nilchk (.t 12)⟩,⟨some 19,none,.faddr 1 (.t 18)⟩,⟨none,none,.store 1 (.t 19) (.t 17)⟩])
(.seq (.reg [⟨some 20,none,.mov (.t 0)⟩,⟨some 21,none,.call (.c (.func 135 [] [])) [.t 20]⟩,⟨some 7,none,.mov (.t 21)⟩])
(.seq (.reg [⟨some 22,none,.mov (.t 7)⟩,⟨some 23,none,.len true (.t 22)⟩,⟨some 24,none,.bin .leq (.t 23) (.c (j 64))⟩,⟨some 25,none,.mov (.t 24)⟩,⟨some 26,some (25,true),.mov (.t 1)⟩,⟨some 27,some (25,true),.bin .neq (.t 26) (.c (j 6))⟩,⟨some 28,some (25,true),.mov (.t 27)⟩,⟨some 29,some (28,false),.call (.c (.func 137 [] [])) []⟩,⟨some 30,some (28,false),.mov (.t 7)⟩,⟨some 31,some (28,false),.call (.c (.func 136 [] [])) [.t 29,.t 30]⟩,⟨some 32,some (25,true),.pick (.t 28) (.c (.bool true)) (.t 31)⟩,⟨some 33,none,.pick (.t 25) (.t 32) (.c (.bool false))⟩,⟨some 34,none,.mov (.t 6)⟩,⟨some 35,none,.call (.c (.func 104 [] [])) [.t 33,.t 34,.c (j 31)]⟩])
(.reg [⟨some 36,none,.mov (.t 0)⟩,⟨some 37,none,.mov (.t 1)⟩,⟨some 38,none,.mov (.t 7)⟩,⟨some 39,none,.mov (.t 6)⟩,⟨some 40,none,.build z9 [(0,1,.t 37),(1,1,.t 38),(5,1,.t 39)]⟩,⟨some 41,none,.call (.c (.func 138 [] [])) [.t 36,.t 40]⟩])))), [], none⟩
theorem amok98 : FnOk Tryz.prog 98 am98 := FnOk.mk' quiets Tryz.func98 (pols := []) (keep := none) (by kernel_rfl) rfl
def am99 : AFunc := ⟨2, .seq (.reg [⟨some 4,none,.mov (.c (.int .u8 (.ofNat 0)))⟩])
(.seq (.seq (.dreg [(⟨some 5,none,.mov (.t 0)⟩,0,0),(⟨some 6,none,.nilchk (.t 5)⟩,0,0),(⟨some 7,none,.faddr 1 (.t 6)⟩,0,0),(⟨some 8,none,.load false 1 (.t 7)⟩,3,0),(⟨some 9,none,.mov (.t 1)⟩,0,0),(⟨some 10,none,.bin .add (.t 8) (.t 9)⟩,0,0),(⟨some 11,none,.mov (.t 0)⟩,0,0),(⟨some 12,none,.nilchk (.t 11)⟩,0,0),(⟨some 13,none,.faddr 0 (.t 12)⟩,0,0),(⟨some 14,none,.load false 1 (.t 13)⟩,9,0),(⟨some 15,none,.len true (.t 14)⟩,0,0),(⟨some 16,none,.bin .lss (.t 10) (.t 15)⟩,0,0)])
(.cond (.t 16) (.seq (.dreg [(⟨some 17,none,.mov (.t 0)⟩,0,0),(⟨some 18,none,.nilchk (.t 17)⟩,0,0),(⟨some 19,none,.faddr 0 (.t 18)⟩,0,0),(⟨some 20,none,.load false 1 (.t 19)⟩,3,0),(⟨some 21,none,.mov (.t 0)⟩,0,0),(⟨some 22,none,.nilchk (.t 21)⟩,0,0),(⟨some 23,none,.faddr 1 (.t 22)⟩,0,0),(⟨some 24,none,.load false 1 (.t 23)⟩,7,0),(⟨some 25,none,.mov (.t 1)⟩,0,0),(⟨some 26,none,.bin .add (.t 24) (.t 25)⟩,0,0),(⟨some 27,none,.indexS (.t 20) (.t 26)⟩,0,0),(⟨some 4,none,.mov (.t 27)⟩,0,0)])
(.ret)) (.skip)))
(.seq (.reg [⟨some 4,none,.mov (.c (.int .u8 (.ofNat 0)))⟩])
(.ret))), [.tmp 4], none⟩
theorem amok99 : FnOk Tryz.prog 99 am99 := FnOk.mk' quiets Tryz.func99 (pols := []) (keep := none) (by kernel_rfl) rfl
def am100 : AFunc := ⟨1, .seq (.reg [⟨some 7,none,.mov (.t 0)⟩,⟨some 8,none,.nilchk (.t 7)⟩,⟨some 9,none,.faddr 1 (.t 8)⟩,⟨some 10,none,.load false 1 (.t 9)⟩,⟨some 2,none,.mov (.t 10)⟩])
(.seq (.reg [⟨some 11,none,.mov (.t 0)⟩,⟨some 12,none,.call (.c (.func 139 [] [])) [.t 11,.c (.str [48])]⟩,⟨some 13,none,.mov (.t 12)⟩,⟨some 14,some (13,false),.mov (.t 0)⟩,⟨some 15,some (13,false),.call (.c (.func 140 [] [])) [.t 14]⟩,⟨some 16,none,.pick (.t 13) (.c (.bool true)) (.t 15)⟩,⟨some 3,none,.mov (.t 16)⟩])
(.seq (.seq (.reg [⟨some 17,none,.mov (.t 0)⟩,⟨some 18,none,.call (.c (.func 139 [] [])) [.t 17,.c (.str [46])]⟩])
(.cond (.t 18) (.reg [⟨some 19,none,.mov (.t 0)⟩,⟨some 20,none,.call (.c (.func 140 [] [])) [.t 19]⟩,⟨some 21,none,.mov (.t 20)⟩,⟨some 22,some (21,true),.mov (.t 3)⟩,⟨some 23,none,.pick (.t 21) (.t 22) (.c (.bool false))⟩,⟨some 3,none,.mov (.t 23)⟩]) (.skip)))
(.seq (.seq (.reg [⟨some 24,none,.mov (.t 3)⟩,⟨some 25,none,.mov (.t 24)⟩,⟨some 26,some (25,true),.mov (.t 0)⟩,⟨some 27,some (25,true),.call (.c (.func 139 [] [])) [.t 26,.c (.str [101,69])]⟩,⟨some 28,none,.pick (.t 25) (.t 27) (.c (.bool false))⟩])
(.cond (.t 28) (.seq (.reg [⟨some 29,none,.mov (.t 0)⟩,⟨some 30,none,.call (.c (.func 139 [] [])) [.t 29,.c (.str [43,45])]⟩])
(.reg [⟨some 31,none,.mov (.t 0)⟩,⟨some 32,none,.call (.c (.func 140 [] [])) [.t 31]⟩,⟨some 3,none,.mov (.t 32)⟩])) (.skip)))
(.seq (.reg [⟨some 33,none,.mov (.t 3)⟩,⟨some 34,none,.mov (.t 33)⟩,⟨some 35,some (34,true),.mov (.t 0)⟩,⟨some 36,some (34,true),.call (.c (.func 99 [] [])) [.t 35,.c (j 0)]⟩,⟨some 37,some (34,true),.call (.c (.func 141 [] [])) [.t 36]⟩,⟨some 38,some (34,true),.un .not (.t 37)⟩,⟨some 39,none,.pick (.t 34) (.t 38) (.c (.bool false))⟩,⟨some 40,none,.mov (.t 39)⟩,⟨some 41,some (40,true),.mov (.t 0)⟩,⟨some 42,some (40,true),.call (.c (.func 99 [] [])) [.t 41,.c (j 0)]⟩,⟨some 43,some (40,true),.bin .neq (.t 42) (.c (.int .u8 (.ofNat 46)))⟩,⟨some 44,none,.pick (.t 40) (.t 43) (.c (.bool false))⟩,⟨some 45,none,.mov (.t 2)⟩,⟨some 46,none,.call (.c (.func 104 [] [])) [.t 44,.t 45,.c (j 32)]⟩])
(.seq (.dreg [(⟨some 47,none,.mov (.t 0)⟩,0,0),(⟨some 48,none,.nilchk (.t 47)⟩,0,0),(⟨some 49,none,.faddr 0 (.t 48)⟩,0,0),(⟨some 50,none,.load false 1 (.t 49)⟩,3,0),(⟨some 51,none,.mov (.t 2)⟩,0,0),(⟨some 52,none,.mov (.t 0)⟩,0,0),(⟨some 53,none,.nilchk (.t 52)⟩,0,0),(⟨some 54,none,.faddr 1 (.t 53)⟩,0,0),(⟨some 55,none,.load false 1 (.t 54)⟩,8,0),(⟨some 56,none,.sliceS (.t 50) (some (.t 51)) (some (.t 55))⟩,0,0),(⟨some 4,none,.mov (.t 56)⟩,0,0)])
(.seq (.reg [⟨some 58,none,.mov (.t 4)⟩,⟨some 59,none,.call (.c (.func 142 [] [])) [.t 58]⟩,⟨some 57,none,.mov (.t 59)⟩,⟨some 60,none,.extract (.t 57) 0⟩,⟨some 61,none,.extract (.t 57) 1⟩,⟨some 5,none,.hole 3⟩,⟨some 5,none,.fill 3 ⟨.t 60, none⟩⟩,⟨some 6,none,.mov (.t 61)⟩])
(.seq (.reg [⟨some 62,none,.mov (.t 6)⟩,⟨some 63,none,.bin .eql (.t 62) (.c (j 0))⟩,⟨some 64,none,.mov (.t 2)⟩,⟨some 65,none,.mov (.t 6)⟩,⟨some 66,none,.call (.c (.func 104 [] [])) [.t 63,.t 64,.t 65]⟩])
(.reg [⟨some 67,none,.mov (.t 0)⟩,⟨some 68,none,.mov (.t 4)⟩,⟨some 69,none,.load true 3 (.t 5)⟩,⟨some 70,none,.mov (.t 2)⟩,⟨some 71,none,.build z9 [(0,1,.c (j 3)),(1,1,.t 68),(2,3,.t 69),(5,1,.t 70)]⟩,⟨some 72,none,.call (.c (.func 138 [] [])) [.t 67,.t 71]⟩])))))))), [], none⟩
theorem amok100 : FnOk Tryz.prog 100 am100 := FnOk.mk' quiets Tryz.func100 (pols := [(9, 5, .hole),(9, 6, .hole)]) (keep := none) (by kernel_rfl) rfl
def am101 : AFunc := ⟨2, .seq (.reg [⟨some 4,none,.mov (.t 0)⟩,⟨some 5,none,.mov (.t 0)⟩,⟨some 6,none,.nilchk (.t 5)⟩,⟨some 7,none,.faddr 1 (.t 6)⟩,⟨some 8,none,.load false 1 (.t 7)⟩,⟨some 9,none,.build z9 [(0,1,.c (j 7)),(5,1,.t 8)]⟩,⟨some 10,none,.call (.c (.func 138 [] [])) [.t 4,.t 9]⟩])
(.seq (.reg [⟨some 11,none,.mov (.t 0)⟩,⟨some 12,none,.nilchk (.t 11)⟩,⟨some 13,none,.faddr 1 (.t 12)⟩,⟨some 14,none,.load false 1 (.t 13)⟩,⟨some 15,none,.bin .add (.t 14) (.c (j 1))⟩,⟨some 16,none,.nilchk (.t 11)⟩,⟨some 17,none,.faddr 1 (.t 16)⟩,⟨none,none,.store 1 (.t 17) (.t 15)⟩])
(.seq (.seq (.reg [⟨some 18,none,.mov (.t 0)⟩,⟨some 19,none,.call (.c (.func 143 [] [])) [.t 18]⟩])
(.block 0 (.loop (.seq (.seq (.dreg [(⟨some 20,none,.mov (.t 0)⟩,0,0),(⟨some 21,none,.nilchk (.t 20)⟩,0,0),(⟨some 22,none,.faddr 0 (.t 21)⟩,0,0),(⟨some 23,none,.load false 1 (.t 22)⟩,3,0),(⟨some 24,none,.mov (.t 0)⟩,0,0),(⟨some 25,none,.nilchk (.t 24)⟩,0,0),(⟨some 26,none,.faddr 1 (.t 25)⟩,0,0),(⟨some 27,none,.load false 1 (.t 26)⟩,7,0),(⟨some 28,none,.indexS (.t 23) (.t 27)⟩,0,0),(⟨some 29,none,.bin .neq (.t 28) (.c (.int .u8 (.ofNat 34)))⟩,0,0)])
(.cond (.t 29) (.skip) (.exit 0)))
(.seq (.block 1 (.seq (.reg [⟨some 32,none,.mov (.t 1)⟩,⟨some 33,none,.bin .lss (.t 32) (.c (j 48))⟩,⟨some 34,none,.mov (.t 0)⟩,⟨some 35,none,.nilchk (.t 34)⟩,⟨some 36,none,.faddr 1 (.t 35)⟩,⟨some 37,none,.load false 1 (.t 36)⟩,⟨some 38,none,.call (.c (.func 104 [] [])) [.t 33,.t 37,.c (j 42)]⟩])
(.seq (.reg [⟨some 39,none,.mov (.t 0)⟩,⟨some 40,none,.mov (.t 0)⟩,⟨some 41,none,.nilchk (.t 40)⟩,⟨some 42,none,.faddr 1 (.t 41)⟩,⟨some 43,none,.load false 1 (.t 42)⟩,⟨some 44,none,.build z9 [(0,1,.c (j 9)),(5,1,.t 43)]⟩,⟨some 45,none,.call (.c (.func 138 [] [])) [.t 39,.t 44]⟩])
(.seq (.reg [⟨some 46,none,.mov (.t 0)⟩,⟨some 47,none,.nilchk (.t 46)⟩,⟨some 48,none,.faddr 1 (.t 47)⟩,⟨some 49,none,.load false 1 (.t 48)⟩,⟨some 50,none,.bin .add (.t 49) (.c (j 2))⟩,⟨some 51,none,.nilchk (.t 46)⟩,⟨some 52,none,.faddr 1 (.t 51)⟩,⟨none,none,.store 1 (.t 52) (.t 50)⟩])
(.seq (.reg [⟨some 53,none,.mov (.t 0)⟩,⟨some 54,none,.mov (.t 1)⟩,⟨some 55,none,.bin .add (.t 54) (.c (j 1))⟩,⟨some 56,none,.call (.c (.func 66 [] [])) [.t 53,.t 55]⟩])
(.seq (.reg [⟨some 57,none,.mov (.t 0)⟩,⟨some 58,none,.mov (.t 0)⟩,⟨some 59,none,.nilchk (.t 58)⟩,⟨some 60,none,.faddr 1 (.t 59)⟩,⟨some 61,none,.load false 1 (.t 60)⟩,⟨some 62,none,.build z9 [(0,1,.c (j 10)),(5,1,.t 61)]⟩,⟨some 63,none,.call (.c (.func 138 [] [])) [.t 57,.t 62]⟩])
(.reg [⟨some 64,none,.mov (.t 0)⟩,⟨some 65,none,.nilchk (.t 64)⟩,⟨some 66,none,.faddr 1 (.t 65)⟩,⟨some 67,none,.load false 1 (.t 66)⟩,⟨some 68,none,.bin .add (.t 67) (.c (j 1))⟩,⟨some 69,none,.nilchk (.t 64)⟩,⟨some 70,none,.faddr 1 (.t 69)⟩,⟨none,none,.store 1 (.t 70) (.t 68)⟩])))))))
(.reg [⟨some 30,none,.mov (.t 0)⟩,⟨some 31,none,.call (.c (.func 143 [] [])) [.t 30]⟩]))))))
(.seq (.reg [⟨some 71,none,.mov (.t 0)⟩,⟨some 72,none,.mov (.t 0)⟩,⟨some 73,none,.nilchk (.t 72)⟩,⟨some 74,none,.faddr 1 (.t 73)⟩,⟨some 75,none,.load false 1 (.t 74)⟩,⟨some 76,none,.build z9 [(0,1,.c (j 11)),(5,1,.t 75)]⟩,⟨some 77,none,.call (.c (.func 138 [] [])) [.t 71,.t 76]⟩])
(.reg [⟨some 78,none,.mov (.t 0)⟩,⟨some 79,none,.nilchk (.t 78)⟩,⟨some 80,none,.faddr 1 (.t 79)⟩,⟨some 81,none,.load false 1 (.t 80)⟩,⟨some 82,none,.bin .add (.t 81) (.c (j 1))⟩,⟨some 83,none,.nilchk (.t 78)⟩,⟨some 84,none,.faddr 1 (.t 83)⟩,⟨none,none,.store 1 (.t 84) (.t 82)⟩])))), [], none⟩
theorem amok101 : FnOk Tryz.prog 101 am101 := FnOk.mk' quiets Tryz.func101 (pols := []) (keep := none) (by kernel_rfl) rfl
def am102 : AFunc := ⟨2, .seq (.reg [⟨some 4,none,.mov (.c (j 0))⟩])
(.seq (.seq (.reg [⟨some 7,none,.mov (.t 1)⟩,⟨some 8,none,.len true (.t 7)⟩,⟨some 9,none,.bin .eql (.t 8) (.c (j 0))⟩])
(.cond (.t 9) (.seq (.reg [⟨some 10,none,.mov (.t 0)⟩,⟨some 11,none,.call (.c (.func 144 [] [])) [.t 10]⟩,⟨some 12,none,.bin .add (.t 11) (.c (j 1))⟩,⟨some 4,none,.mov (.t 12)⟩])
(.ret)) (.skip)))
(.seq (.seq (.reg [⟨some 13,none,.mov (.t 1)⟩,⟨some 14,none,.len true (.t 13)⟩,⟨some 15,none,.bin .eql (.t 14) (.c (j 1))⟩])
(.cond (.t 15) (.seq (.reg [⟨some 16,none,.mov (.t 0)⟩,⟨some 17,none,.mov (.t 1)⟩,⟨some 18,none,.indexS (.t 17) (.c (j 0))⟩,⟨some 19,none,.call (.c (.func 145 [] [])) [.t 16,.t 18]⟩,⟨some 4,none,.mov (.t 19)⟩])
(.ret)) (.skip)))
(.seq (.reg [⟨some 5,none,.mov (.c (j 0))⟩])
(.block 0 (.loop (.block 1 (.seq (.reg [⟨some 20,none,.mov (.t 0)⟩,⟨some 21,none,.mov (.t 1)⟩,⟨some 22,none,.call (.c (.func 146 [] [])) [.t 20,.t 21]⟩,⟨some 6,none,.mov (.t 22)⟩])
(.seq (.seq (.reg [⟨some 23,none,.mov (.t 6)⟩,⟨some 24,none,.bin .eql (.t 23) (.c (.int .i64 (.negSucc 0)))⟩])
(.cond (.t 24) (.seq (.reg [⟨some 25,none,.mov (.t 5)⟩,⟨some 4,none,.mov (.t 25)⟩])
(.ret)) (.skip)))
(.seq (.reg [⟨some 26,none,.mov (.t 5)⟩,⟨some 27,none,.bin .add (.t 26) (.c (j 1))⟩,⟨some 5,none,.mov (.t 27)⟩])
(.reg [⟨some 28,none,.mov (.t 0)⟩,⟨some 29,none,.mov (.t 6)⟩,⟨some 30,none,.mov (.t 1)⟩,⟨some 31,none,.len true (.t 30)⟩,⟨some 32,none,.bin .add (.t 29) (.t 31)⟩,⟨some 33,none,.sliceS (.t 28) (some (.t 32)) none⟩,⟨some 0,none,.mov (.t 33)⟩])))))))))), [.tmp 4], none⟩
theorem amok102 : FnOk Tryz.prog 102 am102 := FnOk.mk' quiets Tryz.func102 (pols := []) (keep := none) (by kernel_rfl) rfl
def am103 : AFunc := ⟨1, .seq (.seq (.reg [⟨some 4,none,.call (.c (.func 147 [] [])) [.c (.str [63,47,47,32,47,47,61,32,46,46,32,124,61,32,43,61,32,45,61,32,42,61,32,47,61,32,37,61,32,61,61,32,33,61,32,60,61,32,62,61,32,47,47,32,46,32,91,32,93,32,40,32,41,32,123,32,125,32,124,32,44,32,58,32,59,32,61,32,60,32,62,32,43,32,45,32,42,32,47,32,37,32,63])]⟩,⟨some 5,none,.len false (.t 4)⟩,⟨some 6,none,.mov (.c (j 0))⟩])
(.block 0 (.loop (.seq (.reg [⟨some 7,none,.bin .lss (.t 6) (.t 5)⟩])
(.seq (.cond (.t 7) (.skip) (.exit 0))
(.seq (.block 1 (.seq (.reg [⟨some 8,none,.iaddr 1 (.t 4) (.t 6)⟩,⟨some 9,none,.load false 1 (.t 8)⟩,⟨some 3,none,.mov (.t 9)⟩])
(.seq (.dreg [(⟨some 10,none,.mov (.t 0)⟩,0,0),(⟨some 11,none,.nilchk (.t 10)⟩,0,0),(⟨some 12,none,.faddr 0 (.t 11)⟩,0,0),(⟨some 13,none,.load false 1 (.t 12)⟩,3,0),(⟨some 14,none,.mov (.t 0)⟩,0,0),(⟨some 15,none,.nilchk (.t 14)⟩,0,0),(⟨some 16,none,.faddr 1 (.t 15)⟩,0,0),(⟨some 17,none,.load false 1 (.t 16)⟩,7,0),(⟨some 18,none,.sliceS (.t 13) (some (.t 17)) none⟩,0,0),(⟨some 19,none,.mov (.t 3)⟩,0,0),(⟨some 20,none,.call (.c (.func 148 [] [])) [.t 18,.t 19]⟩,0,0)])
(.cond (.t 20) (.seq (.reg [⟨some 21,none,.mov (.t 0)⟩,⟨some 22,none,.mov (.t 3)⟩,⟨some 23,none,.mov (.t 0)⟩,⟨some 24,none,.nilchk (.t 23)⟩,⟨some 25,none,.faddr 1 (.t 24)⟩,⟨some 26,none,.load false 1 (.t 25)⟩,⟨some 27,none,.build z9 [(0,1,.c (j 4)),(1,1,.t 22),(5,1,.t 26)]⟩,⟨some 28,none,.call (.c (.func 138 [] [])) [.t 21,.t 27]⟩])
(.seq (.reg [⟨some 29,none,.mov (.t 0)⟩,⟨some 30,none,.nilchk (.t 29)⟩,⟨some 31,none,.faddr 1 (.t 30)⟩,⟨some 32,none,.load false 1 (.t 31)⟩,⟨some 33,none,.mov (.t 3)⟩,⟨some 34,none,.len true (.t 33)⟩,⟨some 35,none,.bin .add (.t 32) (.t 34)⟩,⟨some 36,none,.nilchk (.t 29)⟩,⟨some 37,none,.faddr 1 (.t 36)⟩,⟨none,none,.store 1 (.t 37) (.t 35)⟩])
(.ret))) (.skip)))))
(.reg [⟨some 38,none,.bin .add (.t 6) (.c (j 1))⟩,⟨some 6,none,.mov (.t 38)⟩])))))))
(.reg [⟨some 39,none,.mov (.t 0)⟩,⟨some 40,none,.nilchk (.t 39)⟩,⟨some 41,none,.faddr 1 (.t 40)⟩,⟨some 42,none,.load false 1 (.t 41)⟩,⟨some 43,none,.call (.c (.func 104 [] [])) [.c (.bool false),.t 42,.c (j 32)]⟩]), [], none⟩
theorem amok103 : FnOk Tryz.prog 103 am103 := FnOk.mk' quiets Tryz.func103 (pols := []) (keep := none) (by kernel_rfl) rfl
def am104 : AFunc := ⟨3, .seq (.reg [⟨some 6,none,.mov (.t 0)⟩,⟨some 7,none,.un .not (.t 6)⟩])
(.cond (.t 7) (.reg [⟨some 8,none,.mov (.t 1)⟩,⟨some 9,none,.mov (.t 2)⟩,⟨some 10,none,.build [j 0,j 0] [(0,1,.t 8),(1,1,.t 9)]⟩,⟨some 11,none,.bad⟩,⟨none,none,.bad⟩]) (.skip)), [], none⟩
theorem amok104 : FnOk Tryz.prog 104 am104 := FnOk.mk' quiets Tryz.func104 (pols := []) (keep := none) (by kernel_rfl) rfl
def am105 : AFunc := ⟨1, .seq (.reg [⟨some 1,none,.boxF 6 (.t 0)⟩,⟨some 2,none,.mov (.c (.bool false))⟩])
(.seq (.seq (.reg [⟨some 8,none,.faddr 0 (.t 1)⟩,⟨some 9,none,.load false 1 (.t 8)⟩])
(.block 0 (.seq (.seq (.reg [⟨some 11,none,.bin .eql (.t 9) (.c (j 1))⟩,⟨some 10,none,.mov (.t 11)⟩])
(.cond (.t 10) (.skip) (.seq (.reg [⟨some 12,none,.bin .eql (.t 9) (.c (j 2))⟩,⟨some 10,none,.mov (.t 12)⟩])
(.cond (.t 10) (.skip) (.reg [⟨some 13,none,.bin .eql (.t 9) (.c (j 5))⟩,⟨some 10,none,.mov (.t 13)⟩])))))
(.cond (.t 10) (.seq (.reg [⟨some 14,none,.faddr 1 (.t 1)⟩,⟨some 15,none,.load false 1 (.t 14)⟩,⟨some 16,none,.call (.c (.func 149 [] [])) [.t 15]⟩,⟨some 17,none,.mov (.t 16)⟩,⟨some 18,some (17,true),.faddr 1 (.t 1)⟩,⟨some 19,some (17,true),.load false 1 (.t 18)⟩,⟨some 20,some (17,true),.len true (.t 19)⟩,⟨some 21,some (17,true),.bin .leq (.t 20) (.c (j 64))⟩,⟨some 22,none,.pick (.t 17) (.t 21) (.c (.bool false))⟩,⟨some 2,none,.mov (.t 22)⟩])
(.ret)) (.seq (.reg [⟨some 24,none,.bin .eql (.t 9) (.c (j 6))⟩,⟨some 23,none,.mov (.t 24)⟩])
(.cond (.t 23) (.seq (.dreg [(⟨some 25,none,.call (.c (.func 137 [] [])) []⟩,0,0),(⟨some 26,none,.faddr 1 (.t 1)⟩,0,0),(⟨some 27,none,.load false 1 (.t 26)⟩,0,0),(⟨some 28,none,.call (.c (.func 136 [] [])) [.t 25,.t 27]⟩,0,0),(⟨some 2,none,.mov (.t 28)⟩,0,0)])
(.ret)) (.seq (.reg [⟨some 30,none,.bin .eql (.t 9) (.c (j 3))⟩,⟨some 29,none,.mov (.t 30)⟩])
(.cond (.t 29) (.seq (.reg [⟨some 32,none,.faddr 1 (.t 1)⟩,⟨some 33,none,.load false 1 (.t 32)⟩,⟨some 34,none,.call (.c (.func 40 [] [])) [.t 33]⟩,⟨some 31,none,.mov (.t 34)⟩,⟨some 35,none,.extract (.t 31) 0⟩,⟨some 36,none,.extract (.t 31) 1⟩,⟨some 37,none,.extract (.t 31) 2⟩,⟨some 3,none,.mov (.t 35)⟩,⟨some 4,none,.mov (.t 36)⟩,⟨some 5,none,.mov (.t 37)⟩])
(.seq (.dreg [(⟨some 38,none,.mov (.t 5)⟩,0,0),(⟨some 39,none,.bin .eql (.t 38) (.c (j 0))⟩,0,0),(⟨some 40,none,.mov (.t 39)⟩,0,0),(⟨some 41,some (40,true),.mov (.t 3)⟩,0,0),(⟨some 42,some (40,true),.len false (.t 41)⟩,0,0),(⟨some 43,some (40,true),.bin .eql (.t 42) (.c (j 1))⟩,0,0),(⟨some 44,none,.pick (.t 40) (.t 43) (.c (.bool false))⟩,0,0),(⟨some 45,none,.mov (.t 44)⟩,0,0),(⟨some 46,some (45,true),.mov (.t 3)⟩,0,0),(⟨some 47,some (45,true),.iaddr 6 (.t 46) (.c (j 0))⟩,0,0),(⟨some 48,some (45,true),.faddr 0 (.t 47)⟩,0,0),(⟨some 49,some (45,true),.load false 1 (.t 48)⟩,11,0),(⟨some 50,some (45,true),.bin .eql (.t 49) (.c (j 3))⟩,0,0),(⟨some 51,none,.pick (.t 45) (.t 50) (.c (.bool false))⟩,0,0),(⟨some 52,none,.mov (.t 51)⟩,0,0),(⟨some 53,some (52,true),.mov (.t 3)⟩,0,0),(⟨some 54,some (52,true),.iaddr 6 (.t 53) (.c (j 0))⟩,0,0),(⟨some 55,some (52,true),.faddr 1 (.t 54)⟩,0,0),(⟨some 56,some (52,true),.load false 1 (.t 55)⟩,18,0),(⟨some 57,some (52,true),.faddr 1 (.t 1)⟩,0,0),(⟨some 58,some (52,true),.load false 1 (.t 57)⟩,20,0),(⟨some 59,some (52,true),.bin .eql (.t 56) (.t 58)⟩,0,0),(⟨some 60,none,.pick (.t 52) (.t 59) (.c (.bool false))⟩,0,0),(⟨some 61,none,.mov (.t 60)⟩,0,0),(⟨some 62,some (61,true),.mov (.t 3)⟩,0,0),(⟨some 63,some (61,true),.iaddr 6 (.t 62) (.c (j 0))⟩,0,0),(⟨some 64,some (61,true),.faddr 2 (.t 63)⟩,0,0),(⟨some 65,some (61,true),.faddr 2 (.t 64)⟩,0,0),(⟨some 66,some (61,true),.load false 1 (.t 65)⟩,28,0),(⟨some 67,some (61,true),.faddr 2 (.t 1)⟩,0,0),(⟨some 68,some (61,true),.faddr 2 (.t 67)⟩,0,0),(⟨some 69,some (61,true),.load false 1 (.t 68)⟩,31,0),(⟨some 70,some (61,true),.bin .eql (.t 66) (.t 69)⟩,0,0),(⟨some 71,none,.pick (.t 61) (.t 70) (.c (.bool false))⟩,0,0),(⟨some 72,none,.mov (.t 71)⟩,0,0),(⟨some 73,some (72,true),.faddr 2 (.t 1)⟩,0,0),(⟨some 74,some (72,true),.faddr 0 (.t 73)⟩,0,0),(⟨some 75,some (72,true),.load false 1 (.t 74)⟩,37,0),(⟨some 76,some (72,true),.un .not (.t 75)⟩,0,0),(⟨some 77,none,.pick (.t 72) (.t 76) (.c (.bool false))⟩,0,0),(⟨some 78,none,.mov (.t 77)⟩,0,0),(⟨some 79,some (78,true),.mov (.t 3)⟩,0,0),(⟨some 80,some (78,true),.iaddr 6 (.t 79) (.c (j 0))⟩,0,0),(⟨some 81,some (78,true),.faddr 2 (.t 80)⟩,0,0),(⟨some 82,some (78,true),.faddr 1 (.t 81)⟩,0,0),(⟨some 83,some (78,true),.load false 1 (.t 82)⟩,45,0),(⟨some 84,some (78,true),.faddr 2 (.t 1)⟩,0,0),(⟨some 85,some (78,true),.faddr 1 (.t 84)⟩,0,0),(⟨some 86,some (78,true),.load false 1 (.t 85)⟩,48,0),(⟨some 87,some (78,true),.call (.c (.func 150 [] [])) [.t 83,.t 86]⟩,0,0),(⟨some 88,none,.pick (.t 78) (.t 87) (.c (.bool false))⟩,0,0),(⟨some 2,none,.mov (.t 88)⟩,0,0)])
(.ret))) (.seq (.reg [⟨some 90,none,.bin .eql (.t 9) (.c (j 4))⟩,⟨some 89,none,.mov (.t 90)⟩])
(.cond (.t 89) (.seq (.dreg [(⟨some 91,none,.faddr 1 (.t 1)⟩,0,0),(⟨some 92,none,.load false 1 (.t 91)⟩,1,0),(⟨some 93,none,.bin .neq (.t 92) (.c (.str []))⟩,0,0),(⟨some 94,none,.mov (.t 93)⟩,0,0),(⟨some 95,some (94,true),.call (.c (.func 147 [] [])) [.c (.str [63,47,47,32,47,47,61,32,46,46,32,124,61,32,43,61,32,45,61,32,42,61,32,47,61,32,37,61,32,61,61,32,33,61,32,60,61,32,62,61,32,47,47,32,46,32,91,32,93,32,40,32,41,32,123,32,125,32,124,32,44,32,58,32,59,32,61,32,60,32,62,32,43,32,45,32,42,32,47,32,37,32,63])]⟩,0,0),(⟨some 96,some (94,true),.faddr 1 (.t 1)⟩,0,0),(⟨some 97,some (94,true),.load false 1 (.t 96)⟩,4,0),(⟨some 98,some (94,true),.call (.c (.func 136 [] [])) [.t 95,.t 97]⟩,0,0),(⟨some 99,none,.pick (.t 94) (.t 98) (.c (.bool false))⟩,0,0),(⟨some 2,none,.mov (.t 99)⟩,0,0)])
(.ret)) (.seq (.reg [⟨some 101,none,.bin .eql (.t 9) (.c (j 8))⟩,⟨some 100,none,.mov (.t 101)⟩])
(.cond (.t 100) (.seq (.reg [⟨some 103,none,.faddr 1 (.t 1)⟩,⟨some 104,none,.load false 1 (.t 103)⟩,⟨some 105,none,.call (.c (.func 151 [] [])) [.t 104]⟩,⟨some 102,none,.mov (.t 105)⟩,⟨some 106,none,.extract (.t 102) 0⟩,⟨some 107,none,.extract (.t 102) 1⟩,⟨some 6,none,.mov (.t 106)⟩,⟨some 7,none,.mov (.t 107)⟩])
(.seq (.reg [⟨some 108,none,.faddr 1 (.t 1)⟩,⟨some 109,none,.load false 1 (.t 108)⟩,⟨some 110,none,.bin .neq (.t 109) (.c (.str []))⟩,⟨some 111,none,.mov (.t 110)⟩,⟨some 112,some (111,true),.faddr 1 (.t 1)⟩,⟨some 113,some (111,true),.load false 1 (.t 112)⟩,⟨some 114,some (111,true),.len true (.t 113)⟩,⟨some 115,some (111,true),.bin .leq (.t 114) (.c (j 16384))⟩,⟨some 116,none,.pick (.t 111) (.t 115) (.c (.bool false))⟩,⟨some 117,none,.mov (.t 116)⟩,⟨some 118,some (117,true),.mov (.t 7)⟩,⟨some 119,some (117,true),.bin .eql (.t 118) (.c (j 0))⟩,⟨some 120,none,.pick (.t 117) (.t 119) (.c (.bool false))⟩,⟨some 2,none,.mov (.t 120)⟩])
(.ret))) (.skip)))))))))))))
(.seq (.reg [⟨some 121,none,.faddr 1 (.t 1)⟩,⟨some 122,none,.load false 1 (.t 121)⟩,⟨some 123,none,.bin .eql (.t 122) (.c (.str []))⟩,⟨some 2,none,.mov (.t 123)⟩])
(.ret))), [.tmp 2], none⟩
theorem amok105 : FnOk Tryz.prog 105 am105 := FnOk.mk' quiets Tryz.func105 (pols := [(0, 0, .frz)]) (keep := none) (by kernel_rfl) rfl
def am106 : AFunc := ⟨1, .seq (.reg [⟨some 1,none,.boxB 1 (.t 0) []⟩,⟨some 2,none,.allocB z1 []⟩])
(.seq (.reg [⟨some 3,none,.load false 1 (.t 1)⟩,⟨some 4,none,.mkf 153 [] [.t 1]⟩,⟨some 5,none,.call (.c (.func 152 [] [])) [.t 3,.t 4]⟩,⟨none,none,.store 10 (.t 2) (.t 5)⟩])
(.ret)), [.cell 2 true 10], none⟩
theorem amok106 : FnOk Tryz.prog 106 am106 := FnOk.mk' quiets Tryz.func106 (pols := []) (keep := none) (by kernel_rfl) rfl
def am108 : AFunc := ⟨1, .seq (.reg [⟨some 1,none,.boxB 10 (.t 0) []⟩,⟨some 2,none,.mov (.c (j 0))⟩])
(.seq (.reg [⟨some 3,none,.load true 10 (.t 1)⟩,⟨some 4,none,.call (.c (.func 158 [] [])) [.t 3,.c (j 1000)]⟩,⟨some 2,none,.mov (.t 4)⟩])
(.ret)), [.tmp 2], none⟩
theorem amok108 : FnOk Tryz.prog 108 am108 := FnOk.mk' quiets Tryz.func108 (pols := []) (keep := none) (by kernel_rfl) rfl
def am110 : AFunc := ⟨1, .seq (.reg [⟨some 1,none,.boxB 10 (.t 0) []⟩,⟨some 2,none,.allocB [j 0] []⟩])
(.seq (.reg [⟨some 3,none,.hole 1⟩,⟨some 3,none,.fill 1 ⟨.c (j 1), (some [])⟩⟩])
(.seq (.seq (.reg [⟨some 5,none,.load true 10 (.t 1)⟩,⟨some 6,none,.call (.c (.func 160 [] [])) [.t 5]⟩])
(.block 0 (.rangeF (.t 6) [7] (.reg [⟨some 4,none,.hole 10⟩,⟨some 4,none,.fill 10 ⟨.t 7, none⟩⟩]) (.block 1 (.seq (.dreg [(⟨some 8,none,.load false 1 (.t 3)⟩,0,3),(⟨some 9,none,.load true 10 (.t 4)⟩,1,0),(⟨some 10,none,.call (.c (.func 110 [] [])) [.t 9]⟩,0,0),(⟨some 11,none,.bin .add (.t 8) (.t 10)⟩,0,0),(⟨none,none,.store 1 (.t 3) (.t 11)⟩,0,0)])
(.seq (.reg [⟨some 12,none,.load false 1 (.t 3)⟩,⟨some 13,none,.bin .geq (.t 12) (.c (j 1048576))⟩])
(.cond (.t 13) (.seq (.reg [⟨none,none,.store 1 (.t 2) (.c (j 1048576))⟩])
(.ret)) (.skip))))))))
(.seq (.reg [⟨some 14,none,.load false 1 (.t 3)⟩,⟨none,none,.store 1 (.t 2) (.t 14)⟩])
(.ret)))), [.cell 2 false 1], none⟩
theorem amok110 : FnOk Tryz.prog 110 am110 := FnOk.mk' quiets Tryz.func110 (pols := [(1, 1, .res []),(1, 0, .hole),(3, 0, .hole),(3, 1, .hole)]) (keep := none) (by kernel_rfl) rfl
def am111 : AFunc := ⟨2, .seq (.reg [⟨some 4,none,.mov (.c (j 0))⟩])
(.seq (.reg [⟨some 5,none,.mov (.c (j 0))⟩])
(.seq (.seq (.reg [⟨some 6,none,.mov (.c (j 0))⟩])
(.block 0 (.loop (.seq (.seq (.reg [⟨some 7,none,.mov (.t 6)⟩,⟨some 8,none,.mov (.t 0)⟩,⟨some 9,none,.len false (.t 8)⟩,⟨some 10,none,.bin .lss (.t 7) (.t 9)⟩,⟨some 11,none,.mov (.t 10)⟩,⟨some 12,some (11,true),.mov (.t 1)⟩,⟨some 13,some (11,true),.bin .gtr (.t 12) (.c (j 0))⟩,⟨some 14,none,.pick (.t 11) (.t 13) (.c (.bool false))⟩])
(.cond (.t 14) (.skip) (.exit 0)))
(.seq (.block 1 (.reg [⟨some 17,none,.mov (.t 5)⟩,⟨some 18,none,.mov (.t 0)⟩,⟨some 19,none,.mov (.t 6)⟩,⟨some 20,none,.iaddr 4 (.t 18) (.t 19)⟩,⟨some 21,none,.faddr 3 (.t 20)⟩,⟨some 22,none,.load false 1 (.t 21)⟩,⟨some 23,none,.mov (.t 1)⟩,⟨some 24,none,.bin .sub (.t 23) (.c (j 1))⟩,⟨some 25,none,.call (.c (.func 111 [] [])) [.t 22,.t 24]⟩,⟨some 26,none,.bin .add (.c (j 1)) (.t 25)⟩,⟨some 27,none,.maxs (.t 17) [.t 26]⟩,⟨some 5,none,.mov (.t 27)⟩]))
(.reg [⟨some 15,none,.mov (.t 6)⟩,⟨some 16,none,.bin .add (.t 15) (.c (j 1))⟩,⟨some 6,none,.mov (.t 16)⟩]))))))
(.seq (.reg [⟨some 28,none,.mov (.t 5)⟩,⟨some 4,none,.mov (.t 28)⟩])
(.ret)))), [.tmp 4], none⟩
theorem amok111 : FnOk Tryz.prog 111 am111 := FnOk.mk' quiets Tryz.func111 (pols := []) (keep := none) (by kernel_rfl) rfl
def am112 : AFunc := ⟨2, .seq (.reg [⟨some 2,none,.boxF 4 (.t 0)⟩,⟨some 4,none,.resv 10⟩])
(.seq (.reg [⟨some 5,none,.resv 10⟩])
(.seq (.reg [⟨some 7,none,.mov (.t 5)⟩,⟨some 8,none,.faddr 2 (.t 2)⟩,⟨some 9,none,.load false 1 (.t 8)⟩,⟨some 10,none,.append 10 160 (.t 7) (.t 9)⟩,⟨some 5,none,.mov (.t 10)⟩])
(.seq (.seq (.reg [⟨some 6,none,.mov (.c (j 0))⟩])
(.block 0 (.loop (.seq (.seq (.reg [⟨some 11,none,.mov (.t 6)⟩,⟨some 12,none,.faddr 3 (.t 2)⟩,⟨some 13,none,.load false 1 (.t 12)⟩,⟨some 14,none,.len false (.t 13)⟩,⟨some 15,none,.bin .lss (.t 11) (.t 14)⟩,⟨some 16,none,.mov (.t 15)⟩,⟨some 17,some (16,true),.mov (.t 1)⟩,⟨some 18,some (16,true),.bin .gtr (.t 17) (.c (j 0))⟩,⟨some 19,none,.pick (.t 16) (.t 18) (.c (.bool false))⟩])
(.cond (.t 19) (.skip) (.exit 0)))
(.seq (.block 1 (.reg [⟨some 22,none,.mov (.t 5)⟩,⟨some 23,none,.faddr 3 (.t 2)⟩,⟨some 24,none,.load false 1 (.t 23)⟩,⟨some 25,none,.mov (.t 6)⟩,⟨some 26,none,.iaddr 4 (.t 24) (.t 25)⟩,⟨some 27,none,.load true 4 (.t 26)⟩,⟨some 28,none,.mov (.t 1)⟩,⟨some 29,none,.bin .sub (.t 28) (.c (j 1))⟩,⟨some 30,none,.call (.c (.func 112 [] [])) [.t 27,.t 29]⟩,⟨some 31,none,.append 10 160 (.t 22) (.t 30)⟩,⟨some 5,none,.mov (.t 31)⟩]))
(.reg [⟨some 20,none,.mov (.t 6)⟩,⟨some 21,none,.bin .add (.t 20) (.c (j 1))⟩,⟨some 6,none,.mov (.t 21)⟩]))))))
(.seq (.reg [⟨some 32,none,.mov (.t 5)⟩,⟨some 4,none,.mov (.t 32)⟩])
(.ret))))), [.tmp 4], none⟩
theorem amok112 : FnOk Tryz.prog 112 am112 := FnOk.mk' quiets Tryz.func112 (pols := [(0, 0, .frz),(0, 1, .res [(0,10)]),(1, 0, .res [(0,10)])]) (keep := none) (by kernel_rfl) rfl
def am119 : AFunc := ⟨2, .seq (.reg [⟨some 4,none,.mov (.c (.str []))⟩])
(.seq (.reg [⟨some 6,none,.mov (.t 1)⟩,⟨some 5,none,.mov (.t 6)⟩])
(.seq (.block 0 (.loop (.seq (.seq (.reg [⟨some 7,none,.mov (.t 5)⟩,⟨some 8,none,.mov (.t 0)⟩,⟨some 9,none,.nilchk (.t 8)⟩,⟨some 10,none,.faddr 0 (.t 9)⟩,⟨some 11,none,.load false 1 (.t 10)⟩,⟨some 12,none,.len true (.t 11)⟩,⟨some 13,none,.bin .lss (.t 7) (.t 12)⟩,⟨some 14,none,.mov (.t 13)⟩,⟨some 15,some (14,true),.mov (.t 0)⟩,⟨some 16,some (14,true),.nilchk (.t 15)⟩,⟨some 17,some (14,true),.faddr 0 (.t 16)⟩,⟨some 18,some (14,true),.load false 1 (.t 17)⟩,⟨some 19,some (14,true),.mov (.t 5)⟩,⟨some 20,some (14,true),.indexS (.t 18) (.t 19)⟩,⟨some 21,some (14,true),.call (.c (.func 121 [] [])) [.t 20]⟩,⟨some 22,none,.pick (.t 14) (.t 21) (.c (.bool false))⟩])
(.cond (.t 22) (.skip) (.exit 0)))
(.block 1 (.reg [⟨some 23,none,.mov (.t 5)⟩,⟨some 24,none,.bin .add (.t 23) (.c (j 1))⟩,⟨some 5,none,.mov (.t 24)⟩])))))
(.seq (.reg [⟨some 25,none,.mov (.t 0)⟩,⟨some 26,none,.nilchk (.t 25)⟩,⟨some 27,none,.faddr 0 (.t 26)⟩,⟨some 28,none,.load false 1 (.t 27)⟩,⟨some 29,none,.mov (.t 1)⟩,⟨some 30,none,.mov (.t 5)⟩,⟨some 31,none,.sliceS (.t 28) (some (.t 29)) (some (.t 30))⟩,⟨some 4,none,.mov (.t 31)⟩])
(.ret)))), [.tmp 4], none⟩
theorem amok119 : FnOk Tryz.prog 119 am119 := FnOk.mk' quiets Tryz.func119 (pols := []) (keep := none) (by kernel_rfl) rfl
def am120 : AFunc := ⟨2, .seq (.reg [⟨some 4,none,.mov (.c (j 0))⟩,⟨some 5,none,.mov (.c (.bool false))⟩])
(.seq (.seq (.reg [⟨some 6,none,.mov (.t 1)⟩,⟨some 7,none,.mov (.t 0)⟩,⟨some 8,none,.len true (.t 7)⟩,⟨some 9,none,.bin .lss (.t 6) (.t 8)⟩,⟨some 10,none,.mov (.t 9)⟩,⟨some 11,some (10,true),.mov (.t 0)⟩,⟨some 12,some (10,true),.mov (.t 1)⟩,⟨some 13,some (10,true),.indexS (.t 11) (.t 12)⟩,⟨some 14,some (10,true),.bin .eql (.t 13) (.c (.int .u8 (.ofNat 45)))⟩,⟨some 15,none,.pick (.t 10) (.t 14) (.c (.bool false))⟩])
(.cond (.t 15) (.reg [⟨some 16,none,.mov (.t 1)⟩,⟨some 17,none,.bin .add (.t 16) (.c (j 1))⟩,⟨some 1,none,.mov (.t 17)⟩]) (.skip)))
(.seq (.seq (.reg [⟨some 18,none,.mov (.t 0)⟩,⟨some 19,none,.mov (.t 1)⟩,⟨some 20,none,.call (.c (.func 166 [] [])) [.t 18,.t 19]⟩,⟨some 21,none,.un .not (.t 20)⟩])
(.cond (.t 21) (.seq (.reg [⟨some 22,none,.mov (.t 1)⟩,⟨some 4,none,.mov (.t 22)⟩,⟨some 5,none,.mov (.c (.bool false))⟩])
(.ret)) (.skip)))
(.seq (.seq (.reg [⟨some 23,none,.mov (.t 0)⟩,⟨some 24,none,.mov (.t 1)⟩,⟨some 25,none,.indexS (.t 23) (.t 24)⟩,⟨some 26,none,.bin .eql (.t 25) (.c (.int .u8 (.ofNat 48)))⟩])
(.cond (.t 26) (.reg [⟨some 27,none,.mov (.t 1)⟩,⟨some 28,none,.bin .add (.t 27) (.c (j 1))⟩,⟨some 1,none,.mov (.t 28)⟩]) (.block 0 (.loop (.seq (.seq (.reg [⟨some 29,none,.mov (.t 0)⟩,⟨some 30,none,.mov (.t 1)⟩,⟨some 31,none,.call (.c (.func 166 [] [])) [.t 29,.t 30]⟩])
(.cond (.t 31) (.skip) (.exit 0)))
(.block 1 (.reg [⟨some 32,none,.mov (.t 1)⟩,⟨some 33,none,.bin .add (.t 32) (.c (j 1))⟩,⟨some 1,none,.mov (.t 33)⟩])))))))
(.seq (.seq (.reg [⟨some 34,none,.mov (.t 1)⟩,⟨some 35,none,.mov (.t 0)⟩,⟨some 36,none,.len true (.t 35)⟩,⟨some 37,none,.bin .lss (.t 34) (.t 36)⟩,⟨some 38,none,.mov (.t 37)⟩,⟨some 39,some (38,true),.mov (.t 0)⟩,⟨some 40,some (38,true),.mov (.t 1)⟩,⟨some 41,some (38,true),.indexS (.t 39) (.t 40)⟩,⟨some 42,some (38,true),.bin .eql (.t 41) (.c (.int .u8 (.ofNat 46)))⟩,⟨some 43,none,.pick (.t 38) (.t 42) (.c (.bool false))⟩])
(.cond (.t 43) (.seq (.reg [⟨some 44,none,.mov (.t 1)⟩,⟨some 45,none,.bin .add (.t 44) (.c (j 1))⟩,⟨some 1,none,.mov (.t 45)⟩])
(.seq (.seq (.reg [⟨some 46,none,.mov (.t 0)⟩,⟨some 47,none,.mov (.t 1)⟩,⟨some 48,none,.call (.c (.func 166 [] [])) [.t 46,.t 47]⟩,⟨some 49,none,.un .not (.t 48)⟩])
(.cond (.t 49) (.seq (.reg [⟨some 50,none,.mov (.t 1)⟩,⟨some 4,none,.mov (.t 50)⟩,⟨some 5,none,.mov (.c (.bool false))⟩])
(.ret)) (.skip)))
(.block 2 (.loop (.seq (.seq (.reg [⟨some 51,none,.mov (.t 0)⟩,⟨some 52,none,.mov (.t 1)⟩,⟨some 53,none,.call (.c (.func 166 [] [])) [.t 51,.t 52]⟩])
(.cond (.t 53) (.skip) (.exit 2)))
(.block 3 (.reg [⟨some 54,none,.mov (.t 1)⟩,⟨some 55,none,.bin .add (.t 54) (.c (j 1))⟩,⟨some 1,none,.mov (.t 55)⟩]))))))) (.skip)))
(.seq (.seq (.reg [⟨some 56,none,.mov (.t 1)⟩,⟨some 57,none,.mov (.t 0)⟩,⟨some 58,none,.len true (.t 57)⟩,⟨some 59,none,.bin .lss (.t 56) (.t 58)⟩,⟨some 60,none,.mov (.t 59)⟩,⟨some 61,some (60,true),.mov (.t 0)⟩,⟨some 62,some (60,true),.mov (.t 1)⟩,⟨some 63,some (60,true),.indexS (.t 61) (.t 62)⟩,⟨some 64,some (60,true),.bin .eql (.t 63) (.c (.int .u8 (.ofNat 101)))⟩,⟨some 65,some (60,true),.mov (.t 64)⟩,⟨some 66,some (65,false),.mov (.t 0)⟩,⟨some 67,some (65,false),.mov (.t 1)⟩,⟨some 68,some (65,false),.indexS (.t 66) (.t 67)⟩,⟨some 69,some (65,false),.bin .eql (.t 68) (.c (.int .u8 (.ofNat 69)))⟩,⟨some 70,some (60,true),.pick (.t 65) (.c (.bool true)) (.t 69)⟩,⟨some 71,none,.pick (.t 60) (.t 70) (.c (.bool false))⟩])
(.cond (.t 71) (.seq (.reg [⟨some 72,none,.mov (.t 1)⟩,⟨some 73,none,.bin .add (.t 72) (.c (j 1))⟩,⟨some 1,none,.mov (.t 73)⟩])
(.seq (.seq (.reg [⟨some 74,none,.mov (.t 1)⟩,⟨some 75,none,.mov (.t 0)⟩,⟨some 76,none,.len true (.t 75)⟩,⟨some 77,none,.bin .lss (.t 74) (.t 76)⟩,⟨some 78,none,.mov (.t 77)⟩,⟨some 79,some (78,true),.mov (.t 0)⟩,⟨some 80,some (78,true),.mov (.t 1)⟩,⟨some 81,some (78,true),.indexS (.t 79) (.t 80)⟩,⟨some 82,some (78,true),.bin .eql (.t 81) (.c (.int .u8 (.ofNat 43)))⟩,⟨some 83,some (78,true),.mov (.t 82)⟩,⟨some 84,some (83,false),.mov (.t 0)⟩,⟨some 85,some (83,false),.mov (.t 1)⟩,⟨some 86,some (83,false),.indexS (.t 84) (.t 85)⟩,⟨some 87,some (83,false),.bin .eql (.t 86) (.c (.int .u8 (.ofNat 45)))⟩,⟨some 88,some (78,true),.pick (.t 83) (.c (.bool true)) (.t 87)⟩,⟨some 89,none,.pick (.t 78) (.t 88) (.c (.bool false))⟩])
(.cond (.t 89) (.reg [⟨some 90,none,.mov (.t 1)⟩,⟨some 91,none,.bin .add (.t 90) (.c (j 1))⟩,⟨some 1,none,.mov (.t 91)⟩]) (.skip)))
(.seq (.seq (.reg [⟨some 92,none,.mov (.t 0)⟩,⟨some 93,none,.mov (.t 1)⟩,⟨some 94,none,.call (.c (.func 166 [] [])) [.t 92,.t 93]⟩,⟨some 95,none,.un .not (.t 94)⟩])
(.cond (.t 95) (.seq (.reg [⟨some 96,none,.mov (.t 1)⟩,⟨some 4,none,.mov (.t 96)⟩,⟨some 5,none,.mov (.c (.bool false))⟩])
(.ret)) (.skip)))
(.block 4 (.loop (.seq (.seq (.reg [⟨some 97,none,.mov (.t 0)⟩,⟨some 98,none,.mov (.t 1)⟩,⟨some 99,none,.call (.c (.func 166 [] [])) [.t 97,.t 98]⟩])
(.cond (.t 99) (.skip) (.exit 4)))
(.block 5 (.reg [⟨some 100,none,.mov (.t 1)⟩,⟨some 101,none,.bin .add (.t 100) (.c (j 1))⟩,⟨some 1,none,.mov (.t 101)⟩])))))))) (.skip)))
(.seq (.reg [⟨some 102,none,.mov (.t 1)⟩,⟨some 4,none,.mov (.t 102)⟩,⟨some 5,none,.mov (.c (.bool true))⟩])
(.ret))))))), [.tmp 4,.tmp 5], none⟩
theorem amok120 : FnOk Tryz.prog 120 am120 := FnOk.mk' quiets Tryz.func120 (pols := []) (keep := none) (by kernel_rfl) rfl
def am121 : AFunc := ⟨1, .seq (.reg [⟨some 2,none,.mov (.c (.bool false))⟩])
(.seq (.reg [⟨some 3,none,.mov (.t 0)⟩,⟨some 4,none,.call (.c (.func 77 [] [])) [.t 3]⟩,⟨some 5,none,.mov (.t 4)⟩,⟨some 6,some (5,false),.mov (.t 0)⟩,⟨some 7,some (5,false),.bin .geq (.t 6) (.c (.int .u8 (.ofNat 48)))⟩,⟨some 8,some (5,false),.mov (.t 7)⟩,⟨some 9,some (8,true),.mov (.t 0)⟩,⟨some 10,some (8,true),.bin .leq (.t 9) (.c (.int .u8 (.ofNat 57)))⟩,⟨some 11,some (5,false),.pick (.t 8) (.t 10) (.c (.bool false))⟩,⟨some 12,none,.pick (.t 5) (.c (.bool true)) (.t 11)⟩,⟨some 2,none,.mov (.t 12)⟩])
(.ret)), [.tmp 2], none⟩
theorem amok121 : FnOk Tryz.prog 121 am121 := FnOk.mk' quiets Tryz.func121 (pols := []) (keep := none) (by kernel_rfl) rfl
def am122 : AFunc := ⟨1, .seq (.reg [⟨some 2,none,.allocB z10 []⟩,⟨some 3,none,.mov (.c (j 0))⟩])
(.seq (.reg [⟨some 14,none,.mov (.t 0)⟩,⟨some 15,none,.call (.c (.func 120 [] [])) [.t 14,.c (j 0)]⟩,⟨some 13,none,.mov (.t 15)⟩,⟨some 16,none,.extract (.t 13) 0⟩,⟨some 17,none,.extract (.t 13) 1⟩,⟨some 4,none,.mov (.t 16)⟩,⟨some 5,none,.mov (.t 17)⟩])
(.seq (.block 0 (.seq (.reg [⟨some 19,none,.mov (.t 5)⟩,⟨some 20,none,.un .not (.t 19)⟩,⟨some 21,none,.mov (.t 20)⟩,⟨some 22,some (21,false),.mov (.t 4)⟩,⟨some 23,some (21,false),.mov (.t 0)⟩,⟨some 24,some (21,false),.len true (.t 23)⟩,⟨some 25,some (21,false),.bin .neq (.t 22) (.t 24)⟩,⟨some 26,none,.pick (.t 21) (.c (.bool true)) (.t 25)⟩,⟨some 18,none,.mov (.t 26)⟩])
(.cond (.t 18) (.seq (.reg [⟨some 27,none,.build z10 []⟩,⟨none,none,.store 3 (.t 2) (.t 27)⟩,⟨some 3,none,.mov (.c (j 32))⟩])
(.ret)) (.seq (.reg [⟨some 29,none,.mov (.t 0)⟩,⟨some 30,none,.len true (.t 29)⟩,⟨some 31,none,.bin .gtr (.t 30) (.c (j 2000))⟩,⟨some 28,none,.mov (.t 31)⟩])
(.cond (.t 28) (.seq (.reg [⟨some 32,none,.build z10 []⟩,⟨none,none,.store 3 (.t 2) (.t 32)⟩,⟨some 3,none,.mov (.c (j 5))⟩])
(.ret)) (.skip))))))
(.seq (.reg [⟨some 33,none,.mov (.t 0)⟩,⟨some 34,none,.indexS (.t 33) (.c (j 0))⟩,⟨some 35,none,.bin .eql (.t 34) (.c (.int .u8 (.ofNat 45)))⟩,⟨some 36,none,.build z10 [(0,1,.t 35)]⟩,⟨some 6,none,.hole 3⟩,⟨some 6,none,.fill 3 ⟨.t 36, (some [(1,1)])⟩⟩])
(.seq (.reg [⟨some 7,none,.resv 1⟩])
(.seq (.reg [⟨some 8,none,.mov (.c (.bool false))⟩])
(.seq (.reg [⟨some 9,none,.mov (.c (j 0))⟩])
(.seq (.block 1 (.loop (.seq (.seq (.reg [⟨some 37,none,.mov (.t 9)⟩,⟨some 38,none,.mov (.t 0)⟩,⟨some 39,none,.len true (.t 38)⟩,⟨some 40,none,.bin .lss (.t 37) (.t 39)⟩,⟨some 41,none,.mov (.t 40)⟩,⟨some 42,some (41,true),.mov (.t 0)⟩,⟨some 43,some (41,true),.mov (.t 9)⟩,⟨some 44,some (41,true),.indexS (.t 42) (.t 43)⟩,⟨some 45,some (41,true),.bin .neq (.t 44) (.c (.int .u8 (.ofNat 101)))⟩,⟨some 46,none,.pick (.t 41) (.t 45) (.c (.bool false))⟩,⟨some 47,none,.mov (.t 46)⟩,⟨some 48,some (47,true),.mov (.t 0)⟩,⟨some 49,some (47,true),.mov (.t 9)⟩,⟨some 50,some (47,true),.indexS (.t 48) (.t 49)⟩,⟨some 51,some (47,true),.bin .neq (.t 50) (.c (.int .u8 (.ofNat 69)))⟩,⟨some 52,none,.pick (.t 47) (.t 51) (.c (.bool false))⟩])
(.cond (.t 52) (.skip) (.exit 1)))
(.seq (.block 2 (.block 3 (.seq (.reg [⟨some 56,none,.mov (.t 0)⟩,⟨some 57,none,.mov (.t 9)⟩,⟨some 58,none,.indexS (.t 56) (.t 57)⟩,⟨some 59,none,.bin .eql (.t 58) (.c (.int .u8 (.ofNat 46)))⟩,⟨some 55,none,.mov (.t 59)⟩])
(.cond (.t 55) (.reg [⟨some 8,none,.mov (.c (.bool true))⟩]) (.seq (.reg [⟨some 61,none,.mov (.t 0)⟩,⟨some 62,none,.mov (.t 9)⟩,⟨some 63,none,.indexS (.t 61) (.t 62)⟩,⟨some 64,none,.bin .neq (.t 63) (.c (.int .u8 (.ofNat 45)))⟩,⟨some 60,none,.mov (.t 64)⟩])
(.cond (.t 60) (.seq (.reg [⟨some 65,none,.mov (.t 0)⟩,⟨some 66,none,.mov (.t 9)⟩,⟨some 67,none,.indexS (.t 65) (.t 66)⟩,⟨some 68,none,.bin .sub (.t 67) (.c (.int .u8 (.ofNat 48)))⟩,⟨some 69,none,.convI .i64 (.t 68)⟩,⟨some 70,none,.bslR 1 [j 0] 1 [(0,1,.t 69)]⟩,⟨some 71,none,.mov (.t 7)⟩,⟨some 72,none,.append 1 8 (.t 70) (.t 71)⟩,⟨some 7,none,.mov (.t 72)⟩])
(.seq (.reg [⟨some 73,none,.mov (.t 8)⟩])
(.cond (.t 73) (.reg [⟨some 74,none,.faddr 2 (.t 6)⟩,⟨some 75,none,.load false 1 (.t 74)⟩,⟨some 76,none,.bin .sub (.t 75) (.c (j 1))⟩,⟨some 77,none,.faddr 2 (.t 6)⟩,⟨none,none,.store 1 (.t 77) (.t 76)⟩]) (.skip)))) (.skip)))))))
(.reg [⟨some 53,none,.mov (.t 9)⟩,⟨some 54,none,.bin .add (.t 53) (.c (j 1))⟩,⟨some 9,none,.mov (.t 54)⟩])))))
(.seq (.seq (.reg [⟨some 78,none,.mov (.t 9)⟩,⟨some 79,none,.mov (.t 0)⟩,⟨some 80,none,.len true (.t 79)⟩,⟨some 81,none,.bin .lss (.t 78) (.t 80)⟩])
(.cond (.t 81) (.seq (.reg [⟨some 10,none,.mov (.c (.bool false))⟩,⟨some 11,none,.mov (.c (j 0))⟩,⟨some 12,none,.mov (.c (j 0))⟩])
(.seq (.seq (.reg [⟨some 82,none,.mov (.t 9)⟩,⟨some 83,none,.bin .add (.t 82) (.c (j 1))⟩,⟨some 9,none,.mov (.t 83)⟩])
(.block 4 (.loop (.seq (.seq (.reg [⟨some 84,none,.mov (.t 9)⟩,⟨some 85,none,.mov (.t 0)⟩,⟨some 86,none,.len true (.t 85)⟩,⟨some 87,none,.bin .lss (.t 84) (.t 86)⟩])
(.cond (.t 87) (.skip) (.exit 4)))
(.seq (.block 5 (.block 6 (.seq (.reg [⟨some 91,none,.mov (.t 0)⟩,⟨some 92,none,.mov (.t 9)⟩,⟨some 93,none,.indexS (.t 91) (.t 92)⟩,⟨some 94,none,.bin .eql (.t 93) (.c (.int .u8 (.ofNat 45)))⟩,⟨some 90,none,.mov (.t 94)⟩])
(.cond (.t 90) (.reg [⟨some 10,none,.mov (.c (.bool true))⟩]) (.seq (.reg [⟨some 96,none,.mov (.t 0)⟩,⟨some 97,none,.mov (.t 9)⟩,⟨some 98,none,.indexS (.t 96) (.t 97)⟩,⟨some 99,none,.bin .neq (.t 98) (.c (.int .u8 (.ofNat 43)))⟩,⟨some 95,none,.mov (.t 99)⟩])
(.cond (.t 95) (.seq (.seq (.reg [⟨some 100,none,.mov (.t 11)⟩,⟨some 101,none,.bin .gtr (.t 100) (.c (j 0))⟩,⟨some 102,none,.mov (.t 101)⟩,⟨some 103,some (102,false),.mov (.t 0)⟩,⟨some 104,some (102,false),.mov (.t 9)⟩,⟨some 105,some (102,false),.indexS (.t 103) (.t 104)⟩,⟨some 106,some (102,false),.bin .neq (.t 105) (.c (.int .u8 (.ofNat 48)))⟩,⟨some 107,none,.pick (.t 102) (.c (.bool true)) (.t 106)⟩])
(.cond (.t 107) (.reg [⟨some 108,none,.mov (.t 12)⟩,⟨some 109,none,.bin .add (.t 108) (.c (j 1))⟩,⟨some 12,none,.mov (.t 109)⟩]) (.skip)))
(.seq (.seq (.reg [⟨some 110,none,.mov (.t 12)⟩,⟨some 111,none,.bin .gtr (.t 110) (.c (j 6))⟩])
(.cond (.t 111) (.seq (.reg [⟨some 112,none,.build z10 []⟩,⟨none,none,.store 3 (.t 2) (.t 112)⟩,⟨some 3,none,.mov (.c (j 52))⟩])
(.ret)) (.skip)))
(.reg [⟨some 113,none,.mov (.t 11)⟩,⟨some 114,none,.bin .mul (.c (j 10)) (.t 113)⟩,⟨some 115,none,.mov (.t 0)⟩,⟨some 116,none,.mov (.t 9)⟩,⟨some 117,none,.indexS (.t 115) (.t 116)⟩,⟨some 118,none,.bin .sub (.t 117) (.c (.int .u8 (.ofNat 48)))⟩,⟨some 119,none,.convI .i64 (.t 118)⟩,⟨some 120,none,.bin .add (.t 114) (.t 119)⟩,⟨some 11,none,.mov (.t 120)⟩]))) (.skip)))))))
(.reg [⟨some 88,none,.mov (.t 9)⟩,⟨some 89,none,.bin .add (.t 88) (.c (j 1))⟩,⟨some 9,none,.mov (.t 89)⟩]))))))
(.seq (.seq (.reg [⟨some 121,none,.mov (.t 10)⟩])
(.cond (.t 121) (.reg [⟨some 122,none,.mov (.t 11)⟩,⟨some 123,none,.un .neg (.t 122)⟩,⟨some 11,none,.mov (.t 123)⟩]) (.skip)))
(.reg [⟨some 124,none,.faddr 2 (.t 6)⟩,⟨some 125,none,.load false 1 (.t 124)⟩,⟨some 126,none,.mov (.t 11)⟩,⟨some 127,none,.bin .add (.t 125) (.t 126)⟩,⟨some 128,none,.faddr 2 (.t 6)⟩,⟨none,none,.store 1 (.t 128) (.t 127)⟩])))) (.skip)))
(.seq (.reg [⟨some 129,none,.mov (.t 7)⟩,⟨some 130,none,.faddr 1 (.t 6)⟩,⟨none,none,.store 1 (.t 130) (.t 129)⟩])
(.seq (.reg [⟨some 131,none,.load true 3 (.t 6)⟩,⟨some 132,none,.call (.c (.func 167 [] [])) [.t 131]⟩,⟨some 133,none,.extract (.t 132) 0⟩,⟨some 134,none,.extract (.t 132) 1⟩,⟨none,none,.store 3 (.t 2) (.t 133)⟩,⟨some 3,none,.mov (.t 134)⟩])
(.ret))))))))))), [.cell 2 true 3,.tmp 3], none⟩
theorem amok122 : FnOk Tryz.prog 122 am122 := FnOk.mk' quiets Tryz.func122 (pols := [(6, 5, .res [(1,1)]),(6, 4, .hole),(7, 0, .res [(0,1)])]) (keep := none) (by kernel_rfl) rfl
def am123 : AFunc := ⟨3, .seq (.seq (.reg [⟨some 6,none,.mov (.t 1)⟩,⟨some 7,none,.len false (.t 6)⟩,⟨some 8,none,.bin .gtr (.t 7) (.c (j 16384))⟩])
(.cond (.t 8) (.reg [⟨some 9,none,.mov (.t 0)⟩,⟨some 10,none,.mov (.t 2)⟩,⟨some 11,none,.call (.c (.func 57 [] [])) [.t 9,.t 10,.c (j 5)]⟩]) (.skip)))
(.seq (.reg [⟨some 12,none,.mov (.t 1)⟩,⟨some 13,none,.len false (.t 12)⟩,⟨some 14,none,.bin .gtr (.t 13) (.c (j 0))⟩])
(.cond (.t 14) (.reg [⟨some 15,none,.mov (.t 0)⟩,⟨some 16,none,.mov (.t 1)⟩,⟨some 17,none,.convBS (.t 16)⟩,⟨some 18,none,.mov (.t 2)⟩,⟨some 19,none,.build z9 [(0,1,.c (j 8)),(1,1,.t 17),(5,1,.t 18)]⟩,⟨some 20,none,.call (.c (.func 80 [] [])) [.t 15,.t 19]⟩]) (.skip))), [], none⟩
theorem amok123 : FnOk Tryz.prog 123 am123 := FnOk.mk' quiets Tryz.func123 (pols := []) (keep := none) (by kernel_rfl) rfl
def am125 : AFunc := ⟨1, .seq (.reg [⟨some 2,none,.mov (.c (j 0))⟩,⟨some 3,none,.mov (.c (j 0))⟩])
(.seq (.seq (.reg [⟨some 8,none,.mov (.t 0)⟩,⟨some 9,none,.len true (.t 8)⟩,⟨some 10,none,.bin .eql (.t 9) (.c (j 0))⟩])
(.cond (.t 10) (.seq (.reg [⟨some 2,none,.mov (.c (j 0))⟩,⟨some 3,none,.mov (.c (j 0))⟩])
(.ret)) (.skip)))
(.seq (.reg [⟨some 11,none,.mov (.t 0)⟩,⟨some 12,none,.indexS (.t 11) (.c (j 0))⟩,⟨some 13,none,.convI .i64 (.t 12)⟩,⟨some 4,none,.mov (.t 13)⟩])
(.seq (.reg [⟨some 14,none,.mov (.t 4)⟩,⟨some 5,none,.mov (.t 14)⟩,⟨some 6,none,.mov (.c (j 1))⟩])
(.seq (.block 0 (.seq (.reg [⟨some 16,none,.mov (.t 4)⟩,⟨some 17,none,.bin .geq (.t 16) (.c (j 240))⟩,⟨some 15,none,.mov (.t 17)⟩])
(.cond (.t 15) (.reg [⟨some 18,none,.mov (.t 4)⟩,⟨some 19,none,.bin .sub (.t 18) (.c (j 240))⟩,⟨some 5,none,.mov (.t 19)⟩,⟨some 6,none,.mov (.c (j 4))⟩]) (.seq (.reg [⟨some 21,none,.mov (.t 4)⟩,⟨some 22,none,.bin .geq (.t 21) (.c (j 224))⟩,⟨some 20,none,.mov (.t 22)⟩])
(.cond (.t 20) (.reg [⟨some 23,none,.mov (.t 4)⟩,⟨some 24,none,.bin .sub (.t 23) (.c (j 224))⟩,⟨some 5,none,.mov (.t 24)⟩,⟨some 6,none,.mov (.c (j 3))⟩]) (.seq (.reg [⟨some 26,none,.mov (.t 4)⟩,⟨some 27,none,.bin .geq (.t 26) (.c (j 192))⟩,⟨some 25,none,.mov (.t 27)⟩])
(.cond (.t 25) (.reg [⟨some 28,none,.mov (.t 4)⟩,⟨some 29,none,.bin .sub (.t 28) (.c (j 192))⟩,⟨some 5,none,.mov (.t 29)⟩,⟨some 6,none,.mov (.c (j 2))⟩]) (.skip))))))))
(.seq (.seq (.reg [⟨some 30,none,.mov (.t 0)⟩,⟨some 31,none,.len true (.t 30)⟩,⟨some 32,none,.mov (.t 6)⟩,⟨some 33,none,.bin .lss (.t 31) (.t 32)⟩])
(.cond (.t 33) (.seq (.reg [⟨some 2,none,.mov (.c (j 0))⟩,⟨some 3,none,.mov (.c (j 0))⟩])
(.ret)) (.skip)))
(.seq (.seq (.reg [⟨some 7,none,.mov (.c (j 1))⟩])
(.block 1 (.loop (.seq (.seq (.reg [⟨some 34,none,.mov (.t 7)⟩,⟨some 35,none,.mov (.t 6)⟩,⟨some 36,none,.bin .lss (.t 34) (.t 35)⟩])
(.cond (.t 36) (.skip) (.exit 1)))
(.seq (.block 2 (.reg [⟨some 39,none,.mov (.t 5)⟩,⟨some 40,none,.bin .mul (.t 39) (.c (j 64))⟩,⟨some 41,none,.mov (.t 0)⟩,⟨some 42,none,.mov (.t 7)⟩,⟨some 43,none,.indexS (.t 41) (.t 42)⟩,⟨some 44,none,.convI .i64 (.t 43)⟩,⟨some 45,none,.bin .rem (.t 44) (.c (j 64))⟩,⟨some 46,none,.bin .add (.t 40) (.t 45)⟩,⟨some 5,none,.mov (.t 46)⟩]))
(.reg [⟨some 37,none,.mov (.t 7)⟩,⟨some 38,none,.bin .add (.t 37) (.c (j 1))⟩,⟨some 7,none,.mov (.t 38)⟩]))))))
(.seq (.seq (.dreg [(⟨some 47,none,.mov (.t 5)⟩,0,0),(⟨some 48,none,.call (.c (.func 170 [] [])) [.t 47]⟩,0,0),(⟨some 49,none,.un .not (.t 48)⟩,0,0),(⟨some 50,none,.mov (.t 49)⟩,0,0),(⟨some 51,some (50,false),.mov (.t 5)⟩,0,0),(⟨some 52,some (50,false),.call (.c (.func 169 [] [])) [.t 51]⟩,0,0),(⟨some 53,some (50,false),.convBS (.t 52)⟩,6,0),(⟨some 54,some (50,false),.mov (.t 0)⟩,0,0),(⟨some 55,some (50,false),.mov (.t 6)⟩,0,0),(⟨some 56,some (50,false),.sliceS (.t 54) none (some (.t 55))⟩,0,0),(⟨some 57,some (50,false),.bin .neq (.t 53) (.t 56)⟩,0,0),(⟨some 58,none,.pick (.t 50) (.c (.bool true)) (.t 57)⟩,0,0)])
(.cond (.t 58) (.seq (.reg [⟨some 2,none,.mov (.c (j 0))⟩,⟨some 3,none,.mov (.c (j 0))⟩])
(.ret)) (.skip)))
(.seq (.reg [⟨some 59,none,.mov (.t 5)⟩,⟨some 60,none,.mov (.t 6)⟩,⟨some 2,none,.mov (.t 59)⟩,⟨some 3,none,.mov (.t 60)⟩])
(.ret))))))))), [.tmp 2,.tmp 3], none⟩
theorem amok125 : FnOk Tryz.prog 125 am125 := FnOk.mk' quiets Tryz.func125 (pols := []) (keep := none) (by kernel_rfl) rfl
def am127 : AFunc := ⟨1, .seq (.reg [⟨some 2,none,.allocB z0 []⟩])
(.seq (.reg [⟨some 4,none,.mov (.t 0)⟩,⟨some 5,none,.call (.c (.func 171 [] [])) [.t 4]⟩,⟨some 6,none,.build z0 [(0,1,.t 5)]⟩,⟨some 3,none,.hole 12⟩,⟨some 3,none,.fill 12 ⟨.t 6, (some [(1,1)])⟩⟩])
(.seq (.seq (.reg [⟨some 7,none,.mov (.t 0)⟩,⟨some 8,none,.call (.c (.func 91 [] [])) [.t 7,.c (j 4),.c (.str [40])]⟩])
(.cond (.t 8) (.seq (.block 0 (.loop (.seq (.seq (.reg [⟨some 9,none,.mov (.t 0)⟩,⟨some 10,none,.nilchk (.t 9)⟩,⟨some 11,none,.faddr 4 (.t 10)⟩,⟨some 12,none,.load false 1 (.t 11)⟩,⟨some 13,none,.bin .eql (.t 12) (.c (j 0))⟩])
(.cond (.t 13) (.skip) (.exit 0)))
(.block 1 (.seq (.seq (.reg [⟨some 14,none,.faddr 1 (.t 3)⟩,⟨some 15,none,.load false 1 (.t 14)⟩,⟨some 16,none,.len false (.t 15)⟩,⟨some 17,none,.bin .eql (.t 16) (.c (j 8))⟩])
(.cond (.t 17) (.reg [⟨some 18,none,.mov (.t 0)⟩,⟨some 19,none,.call (.c (.func 61 [] [])) [.t 18,.c (j 3)]⟩]) (.skip)))
(.seq (.seq (.reg [⟨some 20,none,.mov (.t 0)⟩,⟨some 21,none,.call (.c (.func 172 [] [])) [.t 20]⟩,⟨some 22,none,.bin .eql (.t 21) (.c (j 5))⟩])
(.cond (.t 22) (.dreg [(⟨some 23,none,.faddr 1 (.t 3)⟩,0,0),(⟨some 24,none,.load false 1 (.t 23)⟩,1,4),(⟨some 25,none,.mov (.t 0)⟩,0,0),(⟨some 26,none,.call (.c (.func 129 [] [])) [.t 25,.c (j 5)]⟩,0,0),(⟨some 27,none,.bin .add (.c (.str [36])) (.t 26)⟩,0,0),(⟨some 28,none,.bslF [.str []] 1 [(0,1,.t 27)]⟩,0,0),(⟨some 29,none,.append 1 16 (.t 24) (.t 28)⟩,0,0),(⟨some 30,none,.faddr 1 (.t 3)⟩,0,0),(⟨none,none,.store 1 (.t 30) (.t 29)⟩,0,0)]) (.dreg [(⟨some 31,none,.faddr 1 (.t 3)⟩,0,0),(⟨some 32,none,.load false 1 (.t 31)⟩,1,4),(⟨some 33,none,.mov (.t 0)⟩,0,0),(⟨some 34,none,.call (.c (.func 171 [] [])) [.t 33]⟩,0,0),(⟨some 35,none,.bslF [.str []] 1 [(0,1,.t 34)]⟩,0,0),(⟨some 36,none,.append 1 16 (.t 32) (.t 35)⟩,0,0),(⟨some 37,none,.faddr 1 (.t 3)⟩,0,0),(⟨none,none,.store 1 (.t 37) (.t 36)⟩,0,0)])))
(.seq (.reg [⟨some 38,none,.mov (.t 0)⟩,⟨some 39,none,.call (.c (.func 91 [] [])) [.t 38,.c (j 4),.c (.str [59])]⟩,⟨some 40,none,.un .not (.t 39)⟩])
(.cond (.t 40) (.exit 0) (.skip)))))))))
(.reg [⟨some 41,none,.mov (.t 0)⟩,⟨some 42,none,.call (.c (.func 130 [] [])) [.t 41,.c (j 4),.c (.str [41])]⟩])) (.skip)))
(.seq (.reg [⟨some 43,none,.mov (.t 0)⟩,⟨some 44,none,.call (.c (.func 130 [] [])) [.t 43,.c (j 4),.c (.str [58])]⟩])
(.seq (.reg [⟨some 45,none,.mov (.t 0)⟩,⟨some 46,none,.call (.c (.func 59 [] [])) [.t 45]⟩,⟨some 47,none,.faddr 2 (.t 3)⟩,⟨none,none,.store 10 (.t 47) (.t 46)⟩])
(.seq (.reg [⟨some 48,none,.mov (.t 0)⟩,⟨some 49,none,.call (.c (.func 130 [] [])) [.t 48,.c (j 4),.c (.str [59])]⟩])
(.seq (.reg [⟨some 50,none,.load true 12 (.t 3)⟩,⟨none,none,.store 12 (.t 2) (.t 50)⟩])
(.ret))))))), [.cell 2 true 12], none⟩
theorem amok127 : FnOk Tryz.prog 127 am127 := FnOk.mk' quiets Tryz.func127 (pols := [(1, 4, .res [(1,1)]),(1, 3, .hole),(7, 5, .frz),(8, 4, .frz)]) (keep := none) (by kernel_rfl) rfl
def am128 : AFunc := ⟨1, .seq (.reg [⟨some 2,none,.allocB z1 []⟩])
(.seq (.seq (.dreg [(⟨some 3,none,.mov (.t 0)⟩,0,0),(⟨some 4,none,.nilchk (.t 3)⟩,0,0),(⟨some 5,none,.faddr 4 (.t 4)⟩,0,0),(⟨some 6,none,.load false 1 (.t 5)⟩,3,0),(⟨some 7,none,.bin .eql (.t 6) (.c (j 0))⟩,0,0),(⟨some 8,none,.mov (.t 7)⟩,0,0),(⟨some 9,some (8,true),.mov (.t 0)⟩,0,0),(⟨some 10,some (8,true),.nilchk (.t 9)⟩,0,0),(⟨some 11,some (8,true),.faddr 1 (.t 10)⟩,0,0),(⟨some 12,some (8,true),.load false 1 (.t 11)⟩,9,0),(⟨some 13,some (8,true),.mov (.t 0)⟩,0,0),(⟨some 14,some (8,true),.nilchk (.t 13)⟩,0,0),(⟨some 15,some (8,true),.faddr 0 (.t 14)⟩,0,0),(⟨some 16,some (8,true),.load false 1 (.t 15)⟩,13,0),(⟨some 17,some (8,true),.len false (.t 16)⟩,0,0),(⟨some 18,some (8,true),.bin .eql (.t 12) (.t 17)⟩,0,0),(⟨some 19,none,.pick (.t 8) (.t 18) (.c (.bool false))⟩,0,0)])
(.cond (.t 19) (.seq (.reg [⟨some 20,none,.mov (.t 0)⟩,⟨some 21,none,.nilchk (.t 20)⟩,⟨some 22,none,.faddr 2 (.t 21)⟩,⟨some 23,none,.load false 1 (.t 22)⟩,⟨some 24,none,.build z1 [(0,1,.c (j 1)),(9,1,.t 23)]⟩,⟨none,none,.store 10 (.t 2) (.t 24)⟩])
(.ret)) (.skip)))
(.seq (.reg [⟨some 25,none,.mov (.t 0)⟩,⟨some 26,none,.call (.c (.func 59 [] [])) [.t 25]⟩,⟨none,none,.store 10 (.t 2) (.t 26)⟩])
(.ret))), [.cell 2 true 10], none⟩
theorem amok128 : FnOk Tryz.prog 128 am128 := FnOk.mk' quiets Tryz.func128 (pols := []) (keep := none) (by kernel_rfl) rfl
def am129 : AFunc := ⟨2, .seq (.reg [⟨some 4,none,.mov (.c (.str []))⟩])
(.seq (.seq (.reg [⟨some 5,none,.mov (.t 0)⟩,⟨some 6,none,.call (.c (.func 172 [] [])) [.t 5]⟩,⟨some 7,none,.mov (.t 1)⟩,⟨some 8,none,.bin .neq (.t 6) (.t 7)⟩])
(.cond (.t 8) (.seq (.reg [⟨some 9,none,.mov (.t 0)⟩,⟨some 10,none,.call (.c (.func 60 [] [])) [.t 9]⟩])
(.seq (.reg [⟨some 4,none,.mov (.c (.str []))⟩])
(.ret))) (.skip)))
(.seq (.reg [⟨some 11,none,.mov (.t 0)⟩,⟨some 12,none,.nilchk (.t 11)⟩,⟨some 13,none,.faddr 1 (.t 12)⟩,⟨some 14,none,.load false 1 (.t 13)⟩,⟨some 15,none,.bin .add (.t 14) (.c (j 1))⟩,⟨some 16,none,.nilchk (.t 11)⟩,⟨some 17,none,.faddr 1 (.t 16)⟩,⟨none,none,.store 1 (.t 17) (.t 15)⟩])
(.seq (.dreg [(⟨some 18,none,.mov (.t 0)⟩,0,0),(⟨some 19,none,.nilchk (.t 18)⟩,0,0),(⟨some 20,none,.faddr 0 (.t 19)⟩,0,0),(⟨some 21,none,.load false 1 (.t 20)⟩,3,0),(⟨some 22,none,.mov (.t 0)⟩,0,0),(⟨some 23,none,.nilchk (.t 22)⟩,0,0),(⟨some 24,none,.faddr 1 (.t 23)⟩,0,0),(⟨some 25,none,.load false 1 (.t 24)⟩,7,0),(⟨some 26,none,.bin .sub (.t 25) (.c (j 1))⟩,0,0),(⟨some 27,none,.iaddr 6 (.t 21) (.t 26)⟩,0,0),(⟨some 28,none,.faddr 1 (.t 27)⟩,0,0),(⟨some 29,none,.load false 1 (.t 28)⟩,11,0),(⟨some 4,none,.mov (.t 29)⟩,0,0)])
(.ret)))), [.tmp 4], none⟩
theorem amok129 : FnOk Tryz.prog 129 am129 := FnOk.mk' quiets Tryz.func129 (pols := []) (keep := none) (by kernel_rfl) rfl
def am130 : AFunc := ⟨3, .seq (.reg [⟨some 6,none,.mov (.t 0)⟩,⟨some 7,none,.mov (.t 1)⟩,⟨some 8,none,.mov (.t 2)⟩,⟨some 9,none,.call (.c (.func 91 [] [])) [.t 6,.t 7,.t 8]⟩,⟨some 10,none,.un .not (.t 9)⟩])
(.cond (.t 10) (.reg [⟨some 11,none,.mov (.t 0)⟩,⟨some 12,none,.call (.c (.func 60 [] [])) [.t 11]⟩]) (.skip)), [], none⟩
theorem amok130 : FnOk Tryz.prog 130 am130 := FnOk.mk' quiets Tryz.func130 (pols := []) (keep := none) (by kernel_rfl) rfl
def am131 : AFunc := ⟨1, .seq (.reg [⟨some 2,none,.allocB z1 []⟩])
(.seq (.reg [⟨some 6,none,.mov (.t 0)⟩,⟨some 7,none,.call (.c (.func 173 [] [])) [.t 6]⟩,⟨some 8,none,.bslR 10 z1 1 [(0,10,.t 7)]⟩,⟨some 3,none,.mov (.t 8)⟩])
(.seq (.block 0 (.loop (.seq (.seq (.reg [⟨some 9,none,.mov (.t 0)⟩,⟨some 10,none,.call (.c (.func 91 [] [])) [.t 9,.c (j 4),.c (.str [47,47])]⟩])
(.cond (.t 10) (.skip) (.exit 0)))
(.block 1 (.reg [⟨some 11,none,.mov (.t 3)⟩,⟨some 12,none,.mov (.t 0)⟩,⟨some 13,none,.call (.c (.func 173 [] [])) [.t 12]⟩,⟨some 14,none,.bslF z1 1 [(0,10,.t 13)]⟩,⟨some 15,none,.append 10 160 (.t 11) (.t 14)⟩,⟨some 3,none,.mov (.t 15)⟩])))))
(.seq (.reg [⟨some 16,none,.mov (.t 3)⟩,⟨some 17,none,.mov (.t 3)⟩,⟨some 18,none,.len false (.t 17)⟩,⟨some 19,none,.bin .sub (.t 18) (.c (j 1))⟩,⟨some 20,none,.iaddr 10 (.t 16) (.t 19)⟩,⟨some 21,none,.load true 10 (.t 20)⟩,⟨some 4,none,.hole 10⟩,⟨some 4,none,.fill 10 ⟨.t 21, (some [])⟩⟩])
(.seq (.seq (.reg [⟨some 22,none,.mov (.t 3)⟩,⟨some 23,none,.len false (.t 22)⟩,⟨some 24,none,.bin .sub (.t 23) (.c (j 2))⟩,⟨some 5,none,.mov (.t 24)⟩])
(.block 2 (.loop (.seq (.seq (.reg [⟨some 25,none,.mov (.t 5)⟩,⟨some 26,none,.bin .geq (.t 25) (.c (j 0))⟩])
(.cond (.t 26) (.skip) (.exit 2)))
(.seq (.block 3 (.dreg [(⟨some 29,none,.mov (.t 3)⟩,0,0),(⟨some 30,none,.mov (.t 5)⟩,0,0),(⟨some 31,none,.iaddr 10 (.t 29) (.t 30)⟩,0,0),(⟨some 32,none,.load true 10 (.t 31)⟩,3,0),(⟨some 33,none,.load true 10 (.t 4)⟩,4,0),(⟨some 34,none,.call (.c (.func 174 [] [])) [.c (.str [47,47]),.t 32,.t 33]⟩,0,0),(⟨none,none,.store 10 (.t 4) (.t 34)⟩,0,0)]))
(.reg [⟨some 27,none,.mov (.t 5)⟩,⟨some 28,none,.bin .sub (.t 27) (.c (j 1))⟩,⟨some 5,none,.mov (.t 28)⟩]))))))
(.seq (.reg [⟨some 35,none,.load true 10 (.t 4)⟩,⟨none,none,.store 10 (.t 2) (.t 35)⟩])
(.ret)))))), [.cell 2 true 10], none⟩
theorem amok131 : FnOk Tryz.prog 131 am131 := FnOk.mk' quiets Tryz.func131 (pols := [(3, 3, .frz),(4, 7, .res []),(4, 6, .hole)]) (keep := none) (by kernel_rfl) rfl
def am134 : AFunc := ⟨2, .seq (.reg [⟨some 4,none,.mov (.c (j 0))⟩])
(.seq (.reg [⟨some 5,none,.mov (.t 0)⟩,⟨some 6,none,.mov (.t 1)⟩,⟨some 7,none,.call (.c (.func 175 [] [])) [.t 5,.t 6]⟩,⟨some 4,none,.mov (.t 7)⟩])
(.ret)), [.tmp 4], none⟩
theorem amok134 : FnOk Tryz.prog 134 am134 := FnOk.mk' quiets Tryz.func134 (pols := []) (keep := none) (by kernel_rfl) rfl
def am135 : AFunc := ⟨1, .seq (.reg [⟨some 2,none,.mov (.c (.str []))⟩])
(.seq (.reg [⟨some 4,none,.mov (.t 0)⟩,⟨some 5,none,.nilchk (.t 4)⟩,⟨some 6,none,.faddr 1 (.t 5)⟩,⟨some 7,none,.load false 1 (.t 6)⟩,⟨some 3,none,.mov (.t 7)⟩])
(.seq (.block 0 (.loop (.seq (.seq (.reg [⟨some 8,none,.mov (.t 0)⟩,⟨some 9,none,.call (.c (.func 99 [] [])) [.t 8,.c (j 0)]⟩,⟨some 10,none,.call (.c (.func 141 [] [])) [.t 9]⟩])
(.cond (.t 10) (.skip) (.exit 0)))
(.block 1 (.reg [⟨some 11,none,.mov (.t 0)⟩,⟨some 12,none,.nilchk (.t 11)⟩,⟨some 13,none,.faddr 1 (.t 12)⟩,⟨some 14,none,.load false 1 (.t 13)⟩,⟨some 15,none,.bin .add (.t 14) (.c (j 1))⟩,⟨some 16,none,.nilchk (.t 11)⟩,⟨some 17,none,.faddr 1 (.t 16)⟩,⟨none,none,.store 1 (.t 17) (.t 15)⟩])))))
(.seq (.dreg [(⟨some 18,none,.mov (.t 0)⟩,0,0),(⟨some 19,none,.nilchk (.t 18)⟩,0,0),(⟨some 20,none,.faddr 0 (.t 19)⟩,0,0),(⟨some 21,none,.load false 1 (.t 20)⟩,3,0),(⟨some 22,none,.mov (.t 3)⟩,0,0),(⟨some 23,none,.mov (.t 0)⟩,0,0),(⟨some 24,none,.nilchk (.t 23)⟩,0,0),(⟨some 25,none,.faddr 1 (.t 24)⟩,0,0),(⟨some 26,none,.load false 1 (.t 25)⟩,8,0),(⟨some 27,none,.sliceS (.t 21) (some (.t 22)) (some (.t 26))⟩,0,0),(⟨some 2,none,.mov (.t 27)⟩,0,0)])
(.ret)))), [.tmp 2], none⟩
theorem amok135 : FnOk Tryz.prog 135 am135 := FnOk.mk' quiets Tryz.func135 (pols := []) (keep := none) (by kernel_rfl) rfl
def am136 : AFunc := ⟨2, .seq (.reg [⟨some 4,none,.mov (.c (.bool false))⟩])
(.seq (.reg [⟨some 5,none,.mov (.t 0)⟩,⟨some 6,none,.mov (.t 1)⟩,⟨some 7,none,.call (.c (.func 176 [] [])) [.t 5,.t 6]⟩,⟨some 8,none,.bin .geq (.t 7) (.c (j 0))⟩,⟨some 4,none,.mov (.t 8)⟩])
(.ret)), [.tmp 4], none⟩
theorem amok136 : FnOk Tryz.prog 136 am136 := FnOk.mk' quiets Tryz.func136 (pols := []) (keep := none) (by kernel_rfl) rfl
def am138 : AFunc := ⟨2, .seq (.reg [⟨some 3,none,.boxF 6 (.t 1)⟩])
(.seq (.dreg [(⟨some 4,none,.mov (.t 0)⟩,0,0),(⟨some 5,none,.nilchk (.t 4)⟩,0,0),(⟨some 6,none,.faddr 2 (.t 5)⟩,0,0),(⟨some 7,none,.load false 1 (.t 6)⟩,3,0),(⟨some 8,none,.len false (.t 7)⟩,0,0),(⟨some 9,none,.bin .lss (.t 8) (.c (j 8192))⟩,0,0),(⟨some 10,none,.faddr 5 (.t 3)⟩,0,0),(⟨some 11,none,.load false 1 (.t 10)⟩,7,0),(⟨some 12,none,.call (.c (.func 104 [] [])) [.t 9,.t 11,.c (j 3)]⟩,0,0)])
(.dreg [(⟨some 13,none,.mov (.t 0)⟩,0,0),(⟨some 14,none,.mov (.t 0)⟩,0,0),(⟨some 15,none,.nilchk (.t 14)⟩,0,0),(⟨some 16,none,.faddr 2 (.t 15)⟩,0,0),(⟨some 17,none,.load false 1 (.t 16)⟩,4,0),(⟨some 18,none,.load true 6 (.t 3)⟩,5,0),(⟨some 19,none,.bslF z9 1 [(0,6,.t 18)]⟩,0,0),(⟨some 20,none,.append 6 72 (.t 17) (.t 19)⟩,0,0),(⟨some 21,none,.nilchk (.t 13)⟩,0,0),(⟨some 22,none,.faddr 2 (.t 21)⟩,0,0),(⟨none,none,.store 1 (.t 22) (.t 20)⟩,0,0)])), [], none⟩
theorem amok138 : FnOk Tryz.prog 138 am138 := FnOk.mk' quiets Tryz.func138 (pols := [(0, 0, .frz),(2, 6, .frz)]) (keep := none) (by kernel_rfl) rfl
def am139 : AFunc := ⟨2, .seq (.reg [⟨some 4,none,.mov (.c (.bool false))⟩])
(.seq (.dreg [(⟨some 6,none,.mov (.t 0)⟩,0,0),(⟨some 7,none,.nilchk (.t 6)⟩,0,0),(⟨some 8,none,.faddr 1 (.t 7)⟩,0,0),(⟨some 9,none,.load false 1 (.t 8)⟩,3,0),(⟨some 10,none,.mov (.t 0)⟩,0,0),(⟨some 11,none,.nilchk (.t 10)⟩,0,0),(⟨some 12,none,.faddr 0 (.t 11)⟩,0,0),(⟨some 13,none,.load false 1 (.t 12)⟩,7,0),(⟨some 14,none,.len true (.t 13)⟩,0,0),(⟨some 15,none,.bin .lss (.t 9) (.t 14)⟩,0,0),(⟨some 16,none,.mov (.t 15)⟩,0,0),(⟨some 17,some (16,true),.mov (.t 1)⟩,0,0),(⟨some 18,some (16,true),.mov (.t 0)⟩,0,0),(⟨some 19,some (16,true),.nilchk (.t 18)⟩,0,0),(⟨some 20,some (16,true),.faddr 0 (.t 19)⟩,0,0),(⟨some 21,some (16,true),.load false 1 (.t 20)⟩,15,0),(⟨some 22,some (16,true),.mov (.t 0)⟩,0,0),(⟨some 23,some (16,true),.nilchk (.t 22)⟩,0,0),(⟨some 24,some (16,true),.faddr 1 (.t 23)⟩,0,0),(⟨some 25,some (16,true),.load false 1 (.t 24)⟩,19,0),(⟨some 26,some (16,true),.indexS (.t 21) (.t 25)⟩,0,0),(⟨some 27,some (16,true),.call (.c (.func 95 [] [])) [.t 17,.t 26]⟩,0,0),(⟨some 28,some (16,true),.bin .geq (.t 27) (.c (j 0))⟩,0,0),(⟨some 29,none,.pick (.t 16) (.t 28) (.c (.bool false))⟩,0,0),(⟨some 5,none,.mov (.t 29)⟩,0,0)])
(.seq (.seq (.reg [⟨some 30,none,.mov (.t 5)⟩])
(.cond (.t 30) (.reg [⟨some 31,none,.mov (.t 0)⟩,⟨some 32,none,.nilchk (.t 31)⟩,⟨some 33,none,.faddr 1 (.t 32)⟩,⟨some 34,none,.load false 1 (.t 33)⟩,⟨some 35,none,.bin .add (.t 34) (.c (j 1))⟩,⟨some 36,none,.nilchk (.t 31)⟩,⟨some 37,none,.faddr 1 (.t 36)⟩,⟨none,none,.store 1 (.t 37) (.t 35)⟩]) (.skip)))
(.seq (.reg [⟨some 38,none,.mov (.t 5)⟩,⟨some 4,none,.mov (.t 38)⟩])
(.ret)))), [.tmp 4], none⟩
theorem amok139 : FnOk Tryz.prog 139 am139 := FnOk.mk' quiets Tryz.func139 (pols := []) (keep := none) (by kernel_rfl) rfl
def am140 : AFunc := ⟨1, .seq (.reg [⟨some 2,none,.mov (.c (.bool false))⟩])
(.seq (.reg [⟨some 5,none,.mov (.t 0)⟩,⟨some 6,none,.nilchk (.t 5)⟩,⟨some 7,none,.faddr 1 (.t 6)⟩,⟨some 8,none,.load false 1 (.t 7)⟩,⟨some 3,none,.mov (.t 8)⟩])
(.seq (.seq (.reg [⟨some 9,none,.mov (.t 0)⟩,⟨some 10,none,.call (.c (.func 99 [] [])) [.t 9,.c (j 0)]⟩,⟨some 4,none,.mov (.t 10)⟩])
(.block 0 (.loop (.seq (.seq (.reg [⟨some 11,none,.mov (.t 4)⟩,⟨some 12,none,.bin .geq (.t 11) (.c (.int .u8 (.ofNat 48)))⟩,⟨some 13,none,.mov (.t 12)⟩,⟨some 14,some (13,true),.mov (.t 4)⟩,⟨some 15,some (13,true),.bin .leq (.t 14) (.c (.int .u8 (.ofNat 57)))⟩,⟨some 16,none,.pick (.t 13) (.t 15) (.c (.bool false))⟩])
(.cond (.t 16) (.skip) (.exit 0)))
(.seq (.block 1 (.reg [⟨some 19,none,.mov (.t 0)⟩,⟨some 20,none,.nilchk (.t 19)⟩,⟨some 21,none,.faddr 1 (.t 20)⟩,⟨some 22,none,.load false 1 (.t 21)⟩,⟨some 23,none,.bin .add (.t 22) (.c (j 1))⟩,⟨some 24,none,.nilchk (.t 19)⟩,⟨some 25,none,.faddr 1 (.t 24)⟩,⟨none,none,.store 1 (.t 25) (.t 23)⟩]))
(.reg [⟨some 17,none,.mov (.t 0)⟩,⟨some 18,none,.call (.c (.func 99 [] [])) [.t 17,.c (j 0)]⟩,⟨some 4,none,.mov (.t 18)⟩]))))))
(.seq (.reg [⟨some 26,none,.mov (.t 0)⟩,⟨some 27,none,.nilchk (.t 26)⟩,⟨some 28,none,.faddr 1 (.t 27)⟩,⟨some 29,none,.load false 1 (.t 28)⟩,⟨some 30,none,.mov (.t 3)⟩,⟨some 31,none,.bin .gtr (.t 29) (.t 30)⟩,⟨some 2,none,.mov (.t 31)⟩])
(.ret)))), [.tmp 2], none⟩
theorem amok140 : FnOk Tryz.prog 140 am140 := FnOk.mk' quiets Tryz.func140 (pols := []) (keep := none) (by kernel_rfl) rfl
def am141 : AFunc := ⟨1, .seq (.reg [⟨some 2,none,.mov (.c (.bool false))⟩])
(.seq (.reg [⟨some 3,none,.mov (.t 0)⟩,⟨some 4,none,.call (.c (.func 97 [] [])) [.t 3]⟩,⟨some 5,none,.mov (.t 4)⟩,⟨some 6,some (5,false),.mov (.t 0)⟩,⟨some 7,some (5,false),.bin .geq (.t 6) (.c (.int .u8 (.ofNat 48)))⟩,⟨some 8,some (5,false),.mov (.t 7)⟩,⟨some 9,some (8,true),.mov (.t 0)⟩,⟨some 10,some (8,true),.bin .leq (.t 9) (.c (.int .u8 (.ofNat 57)))⟩,⟨some 11,some (5,false),.pick (.t 8) (.t 10) (.c (.bool false))⟩,⟨some 12,none,.pick (.t 5) (.c (.bool true)) (.t 11)⟩,⟨some 2,none,.mov (.t 12)⟩])
(.ret)), [.tmp 2], none⟩
theorem amok141 : FnOk Tryz.prog 141 am141 := FnOk.mk' quiets Tryz.func141 (pols := []) (keep := none) (by kernel_rfl) rfl
def am142 : AFunc := ⟨1, .seq (.reg [⟨some 2,none,.allocB z10 []⟩,⟨some 3,none,.mov (.c (j 0))⟩])
(.seq (.reg [⟨some 9,none,.mov (.t 0)⟩,⟨some 10,none,.call (.c (.func 177 [] [])) [.t 9]⟩,⟨some 8,none,.mov (.t 10)⟩,⟨some 11,none,.extract (.t 8) 0⟩,⟨some 12,none,.extract (.t 8) 1⟩,⟨some 4,none,.hole 5⟩,⟨some 4,none,.fill 5 ⟨.t 11, none⟩⟩,⟨some 5,none,.mov (.t 12)⟩])
(.seq (.block 0 (.seq (.reg [⟨some 14,none,.mov (.t 5)⟩,⟨some 15,none,.un .not (.t 14)⟩,⟨some 13,none,.mov (.t 15)⟩])
(.cond (.t 13) (.seq (.reg [⟨some 16,none,.build z10 []⟩,⟨none,none,.store 3 (.t 2) (.t 16)⟩,⟨some 3,none,.mov (.c (j 32))⟩])
(.ret)) (.seq (.reg [⟨some 18,none,.mov (.t 0)⟩,⟨some 19,none,.len true (.t 18)⟩,⟨some 20,none,.bin .gtr (.t 19) (.c (j 2000))⟩,⟨some 17,none,.mov (.t 20)⟩])
(.cond (.t 17) (.seq (.reg [⟨some 21,none,.build z10 []⟩,⟨none,none,.store 3 (.t 2) (.t 21)⟩,⟨some 3,none,.mov (.c (j 5))⟩])
(.ret)) (.skip))))))
(.seq (.reg [⟨some 23,none,.faddr 4 (.t 4)⟩,⟨some 24,none,.load false 1 (.t 23)⟩,⟨some 25,none,.faddr 1 (.t 4)⟩,⟨some 26,none,.load false 1 (.t 25)⟩,⟨some 27,none,.call (.c (.func 178 [] [])) [.t 24,.t 26]⟩,⟨some 22,none,.mov (.t 27)⟩,⟨some 28,none,.extract (.t 22) 0⟩,⟨some 29,none,.extract (.t 22) 1⟩,⟨some 6,none,.mov (.t 28)⟩,⟨some 5,none,.mov (.t 29)⟩])
(.seq (.seq (.reg [⟨some 30,none,.mov (.t 5)⟩,⟨some 31,none,.un .not (.t 30)⟩])
(.cond (.t 31) (.seq (.reg [⟨some 32,none,.build z10 []⟩,⟨none,none,.store 3 (.t 2) (.t 32)⟩,⟨some 3,none,.mov (.c (j 52))⟩])
(.ret)) (.skip)))
(.seq (.reg [⟨some 33,none,.faddr 2 (.t 4)⟩,⟨some 34,none,.load false 1 (.t 33)⟩,⟨some 35,none,.faddr 3 (.t 4)⟩,⟨some 36,none,.load false 1 (.t 35)⟩,⟨some 37,none,.bin .add (.t 34) (.t 36)⟩,⟨some 38,none,.call (.c (.func 180 [] [])) [.t 37]⟩,⟨some 39,none,.extract (.t 38) 0⟩,⟨some 40,none,.extract (.t 38) 1⟩,⟨some 41,none,.call (.c (.func 179 [] [])) [.t 39,.t 40]⟩,⟨some 7,none,.mov (.t 41)⟩])
(.seq (.reg [⟨some 42,none,.faddr 0 (.t 4)⟩,⟨some 43,none,.load false 1 (.t 42)⟩,⟨some 44,none,.mov (.t 7)⟩,⟨some 45,none,.mov (.t 6)⟩,⟨some 46,none,.faddr 3 (.t 4)⟩,⟨some 47,none,.load false 1 (.t 46)⟩,⟨some 48,none,.len true (.t 47)⟩,⟨some 49,none,.bin .sub (.t 45) (.t 48)⟩,⟨some 50,none,.build z10 [(0,1,.t 43),(1,1,.t 44),(2,1,.t 49)]⟩,⟨some 51,none,.build z10 [(0,3,.t 50)]⟩,⟨some 52,none,.call (.c (.func 181 [] [])) [.t 51]⟩,⟨some 53,none,.extract (.t 52) 0⟩,⟨some 54,none,.extract (.t 52) 1⟩,⟨none,none,.store 3 (.t 2) (.t 53)⟩,⟨some 3,none,.mov (.t 54)⟩])
(.ret))))))), [.cell 2 true 3,.tmp 3], none⟩
theorem amok142 : FnOk Tryz.prog 142 am142 := FnOk.mk' quiets Tryz.func142 (pols := [(1, 5, .hole),(1, 6, .hole)]) (keep := none) (by kernel_rfl) rfl
def am143 : AFunc := ⟨1, .seq (.reg [⟨some 5,none,.mov (.t 0)⟩,⟨some 6,none,.nilchk (.t 5)⟩,⟨some 7,none,.faddr 1 (.t 6)⟩,⟨some 8,none,.load false 1 (.t 7)⟩,⟨some 2,none,.mov (.t 8)⟩])
(.seq (.reg [⟨some 3,none,.mov (.c (.nilsl))⟩])
(.seq (.block 0 (.loop (.block 1 (.seq (.dreg [(⟨some 9,none,.mov (.t 0)⟩,0,0),(⟨some 10,none,.nilchk (.t 9)⟩,0,0),(⟨some 11,none,.faddr 1 (.t 10)⟩,0,0),(⟨some 12,none,.load false 1 (.t 11)⟩,3,0),(⟨some 13,none,.mov (.t 0)⟩,0,0),(⟨some 14,none,.nilchk (.t 13)⟩,0,0),(⟨some 15,none,.faddr 0 (.t 14)⟩,0,0),(⟨some 16,none,.load false 1 (.t 15)⟩,7,0),(⟨some 17,none,.len true (.t 16)⟩,0,0),(⟨some 18,none,.bin .lss (.t 12) (.t 17)⟩,0,0),(⟨some 19,none,.mov (.t 0)⟩,0,0),(⟨some 20,none,.nilchk (.t 19)⟩,0,0),(⟨some 21,none,.faddr 0 (.t 20)⟩,0,0),(⟨some 22,none,.load false 1 (.t 21)⟩,13,0),(⟨some 23,none,.len true (.t 22)⟩,0,0),(⟨some 24,none,.call (.c (.func 104 [] [])) [.t 18,.t 23,.c (j 8)]⟩,0,0)])
(.seq (.dreg [(⟨some 25,none,.mov (.t 0)⟩,0,0),(⟨some 26,none,.nilchk (.t 25)⟩,0,0),(⟨some 27,none,.faddr 0 (.t 26)⟩,0,0),(⟨some 28,none,.load false 1 (.t 27)⟩,3,0),(⟨some 29,none,.mov (.t 0)⟩,0,0),(⟨some 30,none,.nilchk (.t 29)⟩,0,0),(⟨some 31,none,.faddr 1 (.t 30)⟩,0,0),(⟨some 32,none,.load false 1 (.t 31)⟩,7,0),(⟨some 33,none,.indexS (.t 28) (.t 32)⟩,0,0),(⟨some 4,none,.mov (.t 33)⟩,0,0)])
(.seq (.seq (.reg [⟨some 34,none,.mov (.t 4)⟩,⟨some 35,none,.bin .eql (.t 34) (.c (.int .u8 (.ofNat 34)))⟩,⟨some 36,none,.mov (.t 35)⟩,⟨some 37,some (36,false),.mov (.t 4)⟩,⟨some 38,some (36,false),.bin .eql (.t 37) (.c (.int .u8 (.ofNat 92)))⟩,⟨some 39,some (36,false),.mov (.t 38)⟩,⟨some 40,some (39,true),.mov (.t 0)⟩,⟨some 41,some (39,true),.call (.c (.func 99 [] [])) [.t 40,.c (j 1)]⟩,⟨some 42,some (39,true),.bin .eql (.t 41) (.c (.int .u8 (.ofNat 40)))⟩,⟨some 43,some (36,false),.pick (.t 39) (.t 42) (.c (.bool false))⟩,⟨some 44,none,.pick (.t 36) (.c (.bool true)) (.t 43)⟩])
(.cond (.t 44) (.exit 0) (.skip)))
(.seq (.reg [⟨some 45,none,.mov (.t 4)⟩,⟨some 46,none,.bin .eql (.t 45) (.c (.int .u8 (.ofNat 92)))⟩])
(.cond (.t 46) (.reg [⟨some 47,none,.mov (.t 0)⟩,⟨some 48,none,.mov (.t 3)⟩,⟨some 49,none,.call (.c (.func 182 [] [])) [.t 47,.t 48]⟩,⟨some 3,none,.mov (.t 49)⟩]) (.reg [⟨some 50,none,.mov (.t 0)⟩,⟨some 51,none,.mov (.t 3)⟩,⟨some 52,none,.call (.c (.func 183 [] [])) [.t 50,.t 51]⟩,⟨some 3,none,.mov (.t 52)⟩])))))))))
(.seq (.reg [⟨some 53,none,.mov (.t 3)⟩,⟨some 54,none,.len false (.t 53)⟩,⟨some 55,none,.bin .leq (.t 54) (.c (j 16384))⟩,⟨some 56,none,.mov (.t 2)⟩,⟨some 57,none,.call (.c (.func 104 [] [])) [.t 55,.t 56,.c (j 5)]⟩])
(.seq (.reg [⟨some 58,none,.mov (.t 3)⟩,⟨some 59,none,.len false (.t 58)⟩,⟨some 60,none,.bin .gtr (.t 59) (.c (j 0))⟩])
(.cond (.t 60) (.reg [⟨some 61,none,.mov (.t 0)⟩,⟨some 62,none,.mov (.t 3)⟩,⟨some 63,none,.convBS (.t 62)⟩,⟨some 64,none,.mov (.t 2)⟩,⟨some 65,none,.build z9 [(0,1,.c (j 8)),(1,1,.t 63),(5,1,.t 64)]⟩,⟨some 66,none,.call (.c (.func 138 [] [])) [.t 61,.t 65]⟩]) (.skip)))))), [], none⟩
theorem amok143 : FnOk Tryz.prog 143 am143 := FnOk.mk' quiets Tryz.func143 (pols := []) (keep := none) (by kernel_rfl) rfl
def am147 : AFunc := ⟨1, .seq (.reg [⟨some 2,none,.mov (.c (.nilsl))⟩])
(.seq (.reg [⟨some 3,none,.mov (.c (j 0))⟩])
(.seq (.reg [⟨some 4,none,.mov (.c (j 1))⟩])
(.seq (.reg [⟨some 5,none,.mov (.c (.int .u8 (.ofNat 0)))⟩])
(.seq (.seq (.reg [⟨some 6,none,.mov (.c (j 0))⟩])
(.block 0 (.loop (.seq (.seq (.reg [⟨some 13,none,.mov (.t 6)⟩,⟨some 14,none,.mov (.t 0)⟩,⟨some 15,none,.len true (.t 14)⟩,⟨some 16,none,.bin .lss (.t 13) (.t 15)⟩])
(.cond (.t 16) (.skip) (.exit 0)))
(.seq (.block 1 (.seq (.reg [⟨some 19,none,.mov (.t 0)⟩,⟨some 20,none,.mov (.t 6)⟩,⟨some 21,none,.indexS (.t 19) (.t 20)⟩,⟨some 7,none,.mov (.t 21)⟩])
(.seq (.reg [⟨some 22,none,.mov (.t 5)⟩,⟨some 23,none,.mov (.t 7)⟩,⟨some 24,none,.bin .or (.t 22) (.t 23)⟩,⟨some 5,none,.mov (.t 24)⟩])
(.seq (.reg [⟨some 25,none,.mov (.t 7)⟩,⟨some 26,none,.iaddrA 256 1 (.g 1) (.t 25)⟩,⟨some 27,none,.load false 1 (.t 26)⟩,⟨some 28,none,.convI .i64 (.t 27)⟩,⟨some 8,none,.mov (.t 28)⟩])
(.seq (.reg [⟨some 29,none,.mov (.t 3)⟩,⟨some 30,none,.mov (.t 4)⟩,⟨some 31,none,.mov (.t 8)⟩,⟨some 32,none,.un .xor (.t 31)⟩,⟨some 33,none,.bin .and (.t 30) (.t 32)⟩,⟨some 34,none,.bin .add (.t 29) (.t 33)⟩,⟨some 3,none,.mov (.t 34)⟩])
(.reg [⟨some 35,none,.mov (.t 8)⟩,⟨some 4,none,.mov (.t 35)⟩]))))))
(.reg [⟨some 17,none,.mov (.t 6)⟩,⟨some 18,none,.bin .add (.t 17) (.c (j 1))⟩,⟨some 6,none,.mov (.t 18)⟩]))))))
(.seq (.seq (.reg [⟨some 36,none,.mov (.t 5)⟩,⟨some 37,none,.bin .geq (.t 36) (.c (.int .u8 (.ofNat 128)))⟩])
(.cond (.t 37) (.seq (.reg [⟨some 38,none,.mov (.t 0)⟩,⟨some 39,none,.call (.c (.func 185 [] [])) [.t 38,.c (.func 186 [] [])]⟩,⟨some 2,none,.mov (.t 39)⟩])
(.ret)) (.skip)))
(.seq (.reg [⟨some 40,none,.mov (.t 3)⟩,⟨some 41,none,.msl 1 16 [.str []] (.t 40) (.t 40)⟩,⟨some 9,none,.mov (.t 41)⟩])
(.seq (.reg [⟨some 10,none,.mov (.c (j 0))⟩])
(.seq (.reg [⟨some 11,none,.mov (.c (j 0))⟩])
(.seq (.reg [⟨some 12,none,.mov (.c (j 0))⟩])
(.seq (.block 2 (.loop (.seq (.seq (.reg [⟨some 42,none,.mov (.t 12)⟩,⟨some 43,none,.mov (.t 0)⟩,⟨some 44,none,.len true (.t 43)⟩,⟨some 45,none,.bin .lss (.t 42) (.t 44)⟩,⟨some 46,none,.mov (.t 45)⟩,⟨some 47,some (46,true),.mov (.t 0)⟩,⟨some 48,some (46,true),.mov (.t 12)⟩,⟨some 49,some (46,true),.indexS (.t 47) (.t 48)⟩,⟨some 50,some (46,true),.iaddrA 256 1 (.g 1) (.t 49)⟩,⟨some 51,some (46,true),.load false 1 (.t 50)⟩,⟨some 52,some (46,true),.bin .neq (.t 51) (.c (.int .u8 (.ofNat 0)))⟩,⟨some 53,none,.pick (.t 46) (.t 52) (.c (.bool false))⟩])
(.cond (.t 53) (.skip) (.exit 2)))
(.block 3 (.reg [⟨some 54,none,.mov (.t 12)⟩,⟨some 55,none,.bin .add (.t 54) (.c (j 1))⟩,⟨some 12,none,.mov (.t 55)⟩])))))
(.seq (.reg [⟨some 56,none,.mov (.t 12)⟩,⟨some 11,none,.mov (.t 56)⟩])
(.seq (.block 4 (.loop (.seq (.seq (.reg [⟨some 57,none,.mov (.t 12)⟩,⟨some 58,none,.mov (.t 0)⟩,⟨some 59,none,.len true (.t 58)⟩,⟨some 60,none,.bin .lss (.t 57) (.t 59)⟩])
(.cond (.t 60) (.skip) (.exit 4)))
(.block 5 (.seq (.seq (.reg [⟨some 61,none,.mov (.t 0)⟩,⟨some 62,none,.mov (.t 12)⟩,⟨some 63,none,.indexS (.t 61) (.t 62)⟩,⟨some 64,none,.iaddrA 256 1 (.g 1) (.t 63)⟩,⟨some 65,none,.load false 1 (.t 64)⟩,⟨some 66,none,.bin .eql (.t 65) (.c (.int .u8 (.ofNat 0)))⟩])
(.cond (.t 66) (.seq (.reg [⟨some 67,none,.mov (.t 12)⟩,⟨some 68,none,.bin .add (.t 67) (.c (j 1))⟩,⟨some 12,none,.mov (.t 68)⟩])
(.exit 5)) (.skip)))
(.seq (.reg [⟨some 69,none,.mov (.t 9)⟩,⟨some 70,none,.mov (.t 10)⟩,⟨some 71,none,.mov (.t 0)⟩,⟨some 72,none,.mov (.t 11)⟩,⟨some 73,none,.mov (.t 12)⟩,⟨some 74,none,.sliceS (.t 71) (some (.t 72)) (some (.t 73))⟩,⟨some 75,none,.iaddr 1 (.t 69) (.t 70)⟩,⟨none,none,.store 1 (.t 75) (.t 74)⟩])
(.seq (.reg [⟨some 76,none,.mov (.t 10)⟩,⟨some 77,none,.bin .add (.t 76) (.c (j 1))⟩,⟨some 10,none,.mov (.t 77)⟩])
(.seq (.reg [⟨some 78,none,.mov (.t 12)⟩,⟨some 79,none,.bin .add (.t 78) (.c (j 1))⟩,⟨some 12,none,.mov (.t 79)⟩])
(.seq (.block 6 (.loop (.seq (.seq (.reg [⟨some 80,none,.mov (.t 12)⟩,⟨some 81,none,.mov (.t 0)⟩,⟨some 82,none,.len true (.t 81)⟩,⟨some 83,none,.bin .lss (.t 80) (.t 82)⟩,⟨some 84,none,.mov (.t 83)⟩,⟨some 85,some (84,true),.mov (.t 0)⟩,⟨some 86,some (84,true),.mov (.t 12)⟩,⟨some 87,some (84,true),.indexS (.t 85) (.t 86)⟩,⟨some 88,some (84,true),.iaddrA 256 1 (.g 1) (.t 87)⟩,⟨some 89,some (84,true),.load false 1 (.t 88)⟩,⟨some 90,some (84,true),.bin .neq (.t 89) (.c (.int .u8 (.ofNat 0)))⟩,⟨some 91,none,.pick (.t 84) (.t 90) (.c (.bool false))⟩])
(.cond (.t 91) (.skip) (.exit 6)))
(.block 7 (.reg [⟨some 92,none,.mov (.t 12)⟩,⟨some 93,none,.bin .add (.t 92) (.c (j 1))⟩,⟨some 12,none,.mov (.t 93)⟩])))))
(.reg [⟨some 94,none,.mov (.t 12)⟩,⟨some 11,none,.mov (.t 94)⟩]))))))))))
(.seq (.seq (.reg [⟨some 95,none,.mov (.t 11)⟩,⟨some 96,none,.mov (.t 0)⟩,⟨some 97,none,.len true (.t 96)⟩,⟨some 98,none,.bin .lss (.t 95) (.t 97)⟩])
(.cond (.t 98) (.reg [⟨some 99,none,.mov (.t 9)⟩,⟨some 100,none,.mov (.t 10)⟩,⟨some 101,none,.mov (.t 0)⟩,⟨some 102,none,.mov (.t 11)⟩,⟨some 103,none,.sliceS (.t 101) (some (.t 102)) none⟩,⟨some 104,none,.iaddr 1 (.t 99) (.t 100)⟩,⟨none,none,.store 1 (.t 104) (.t 103)⟩]) (.skip)))
(.seq (.reg [⟨some 105,none,.mov (.t 9)⟩,⟨some 2,none,.mov (.t 105)⟩])
(.ret))))))))))))))), [.tmp 2], none⟩
theorem amok147 : FnOk Tryz.prog 147 am147 := FnOk.mk' quiets Tryz.func147 (pols := []) (keep := none) (by kernel_rfl) rfl
def am148 : AFunc := ⟨2, .seq (.reg [⟨some 4,none,.mov (.c (.bool false))⟩])
(.seq (.reg [⟨some 5,none,.mov (.t 0)⟩,⟨some 6,none,.mov (.t 1)⟩,⟨some 7,none,.call (.c (.func 187 [] [])) [.t 5,.t 6]⟩,⟨some 4,none,.mov (.t 7)⟩])
(.ret)), [.tmp 4], none⟩
theorem amok148 : FnOk Tryz.prog 148 am148 := FnOk.mk' quiets Tryz.func148 (pols := []) (keep := none) (by kernel_rfl) rfl
def am149 : AFunc := ⟨1, .seq (.reg [⟨some 2,none,.mov (.c (.bool false))⟩])
(.seq (.reg [⟨some 3,none,.mov (.t 0)⟩,⟨some 4,none,.bin .neq (.t 3) (.c (.str []))⟩,⟨some 5,none,.mov (.t 4)⟩,⟨some 6,some (5,true),.mov (.t 0)⟩,⟨some 7,some (5,true),.indexS (.t 6) (.c (j 0))⟩,⟨some 8,some (5,true),.call (.c (.func 97 [] [])) [.t 7]⟩,⟨some 9,none,.pick (.t 5) (.t 8) (.c (.bool false))⟩,⟨some 10,none,.mov (.t 9)⟩,⟨some 11,some (10,true),.mov (.t 0)⟩,⟨some 12,some (10,true),.convSB (.t 11)⟩,⟨some 13,some (10,true),.call (.c (.func 188 [] [])) [.t 12,.c (.func 189 [] [])]⟩,⟨some 14,some (10,true),.un .not (.t 13)⟩,⟨some 15,none,.pick (.t 10) (.t 14) (.c (.bool false))⟩,⟨some 2,none,.mov (.t 15)⟩])
(.ret)), [.tmp 2], none⟩
theorem amok149 : FnOk Tryz.prog 149 am149 := FnOk.mk' quiets Tryz.func149 (pols := []) (keep := none) (by kernel_rfl) rfl
def am150 : AFunc := ⟨2, .seq (.reg [⟨some 4,none,.mov (.c (.bool false))⟩])
(.seq (.seq (.reg [⟨some 6,none,.mov (.t 0)⟩,⟨some 7,none,.len false (.t 6)⟩,⟨some 8,none,.mov (.t 1)⟩,⟨some 9,none,.len false (.t 8)⟩,⟨some 10,none,.bin .neq (.t 7) (.t 9)⟩])
(.cond (.t 10) (.seq (.reg [⟨some 4,none,.mov (.c (.bool false))⟩])
(.ret)) (.skip)))
(.seq (.seq (.reg [⟨some 11,none,.mov (.t 0)⟩,⟨some 12,none,.len false (.t 11)⟩,⟨some 13,none,.mov (.c (j 0))⟩])
(.block 0 (.loop (.seq (.reg [⟨some 14,none,.bin .lss (.t 13) (.t 12)⟩])
(.seq (.cond (.t 14) (.skip) (.exit 0))
(.seq (.block 1 (.seq (.reg [⟨some 15,none,.mov (.t 13)⟩,⟨some 5,none,.mov (.t 15)⟩])
(.seq (.dreg [(⟨some 16,none,.mov (.t 0)⟩,0,0),(⟨some 17,none,.mov (.t 5)⟩,0,0),(⟨some 18,none,.iaddr 1 (.t 16) (.t 17)⟩,0,0),(⟨some 19,none,.load false 1 (.t 18)⟩,3,0),(⟨some 20,none,.mov (.t 1)⟩,0,0),(⟨some 21,none,.mov (.t 5)⟩,0,0),(⟨some 22,none,.iaddr 1 (.t 20) (.t 21)⟩,0,0),(⟨some 23,none,.load false 1 (.t 22)⟩,7,0),(⟨some 24,none,.bin .neq (.t 19) (.t 23)⟩,0,0)])
(.cond (.t 24) (.seq (.reg [⟨some 4,none,.mov (.c (.bool false))⟩])
(.ret)) (.skip)))))
(.reg [⟨some 25,none,.bin .add (.t 13) (.c (j 1))⟩,⟨some 13,none,.mov (.t 25)⟩])))))))
(.seq (.reg [⟨some 4,none,.mov (.c (.bool true))⟩])
(.ret)))), [.tmp 4], none⟩
theorem amok150 : FnOk Tryz.prog 150 am150 := FnOk.mk' quiets Tryz.func150 (pols := []) (keep := none) (by kernel_rfl) rfl
def am151 : AFunc := ⟨1, .seq (.reg [⟨some 2,none,.allocB [j 0] []⟩,⟨some 3,none,.allocB [j 0] []⟩])
(.seq (.seq (.reg [⟨some 6,none,.mov (.t 0)⟩,⟨some 7,none,.call (.c (.func 190 [] [])) [.t 6]⟩])
(.block 0 (.rangeF (.t 7) [8,9] (.seq (.reg [⟨some 4,none,.mov (.t 8)⟩])
(.reg [⟨some 5,none,.mov (.t 9)⟩])) (.block 1 (.seq (.reg [⟨some 10,none,.mov (.t 5)⟩,⟨some 11,none,.bin .lss (.t 10) (.c (.int .i32 (.ofNat 0)))⟩])
(.cond (.t 11) (.seq (.reg [⟨some 12,none,.mov (.t 4)⟩,⟨none,none,.store 1 (.t 2) (.t 12)⟩,⟨none,none,.store 1 (.t 3) (.c (j 61))⟩])
(.ret)) (.skip)))))))
(.seq (.reg [⟨some 13,none,.mov (.t 0)⟩,⟨some 14,none,.len true (.t 13)⟩,⟨none,none,.store 1 (.t 2) (.t 14)⟩,⟨none,none,.store 1 (.t 3) (.c (j 0))⟩])
(.ret))), [.cell 2 false 1,.cell 3 false 1], none⟩
theorem amok151 : FnOk Tryz.prog 151 am151 := FnOk.mk' quiets Tryz.func151 (pols := []) (keep := none) (by kernel_rfl) rfl
def am152 : AFunc := ⟨2, .seq (.reg [⟨some 4,none,.allocB z1 []⟩])
(.seq (.seq (.reg [⟨some 6,none,.mov (.t 0)⟩,⟨some 7,none,.nilchk (.t 6)⟩,⟨some 8,none,.faddr 2 (.t 7)⟩,⟨some 9,none,.load false 1 (.t 8)⟩,⟨some 10,none,.bin .eql (.t 9) (.c (j 200))⟩])
(.cond (.t 10) (.seq (.seq (.reg [⟨some 11,none,.mov (.t 0)⟩,⟨some 12,none,.nilchk (.t 11)⟩,⟨some 13,none,.faddr 0 (.t 12)⟩,⟨some 14,none,.load false 1 (.t 13)⟩,⟨some 15,none,.len false (.t 14)⟩,⟨some 16,none,.bin .eql (.t 15) (.c (j 0))⟩])
(.cond (.t 16) (.reg [⟨some 17,none,.mov (.t 0)⟩,⟨some 18,none,.call (.c (.func 109 [] [])) [.t 17,.c (j 8)]⟩]) (.skip)))
(.reg [⟨some 19,none,.mov (.t 0)⟩,⟨some 20,none,.call (.c (.func 109 [] [])) [.t 19,.c (j 42)]⟩])) (.skip)))
(.seq (.reg [⟨some 21,none,.mov (.t 0)⟩,⟨some 22,none,.nilchk (.t 21)⟩,⟨some 23,none,.faddr 2 (.t 22)⟩,⟨some 24,none,.load false 1 (.t 23)⟩,⟨some 25,none,.bin .add (.t 24) (.c (j 1))⟩,⟨some 26,none,.nilchk (.t 21)⟩,⟨some 27,none,.faddr 2 (.t 26)⟩,⟨none,none,.store 1 (.t 27) (.t 25)⟩])
(.seq (.reg [⟨some 28,none,.mov (.t 1)⟩,⟨some 29,none,.call (.t 28) []⟩,⟨some 5,none,.hole 10⟩,⟨some 5,none,.fill 10 ⟨.t 29, none⟩⟩])
(.seq (.reg [⟨some 30,none,.mov (.t 0)⟩,⟨some 31,none,.nilchk (.t 30)⟩,⟨some 32,none,.faddr 2 (.t 31)⟩,⟨some 33,none,.load false 1 (.t 32)⟩,⟨some 34,none,.bin .sub (.t 33) (.c (j 1))⟩,⟨some 35,none,.nilchk (.t 30)⟩,⟨some 36,none,.faddr 2 (.t 35)⟩,⟨none,none,.store 1 (.t 36) (.t 34)⟩])
(.seq (.reg [⟨some 37,none,.load true 10 (.t 5)⟩,⟨none,none,.store 10 (.t 4) (.t 37)⟩])
(.ret)))))), [.cell 4 true 10], none⟩
theorem amok152 : FnOk Tryz.prog 152 am152 := FnOk.mk' quiets Tryz.func152 (pols := [(6, 2, .hole),(6, 3, .hole)]) (keep := none) (by kernel_rfl) rfl
def am153 : AFunc := ⟨1, .seq (.reg [⟨some 1,none,.allocB z1 []⟩])
(.seq (.reg [⟨some 2,none,.resv 10⟩])
(.block 0 (.loop (.block 1 (.seq (.reg [⟨some 4,none,.load false 1 (.t 0)⟩,⟨some 5,none,.call (.c (.func 154 [] [])) [.t 4,.c (j 1),.c (.str [100,101,102])]⟩,⟨some 6,none,.mov (.t 5)⟩,⟨some 7,some (6,false),.load false 1 (.t 0)⟩,⟨some 8,some (6,false),.call (.c (.func 154 [] [])) [.t 7,.c (j 1),.c (.str [108,97,98,101,108])]⟩,⟨some 9,none,.pick (.t 6) (.c (.bool true)) (.t 8)⟩,⟨some 3,none,.mov (.t 9)⟩])
(.seq (.reg [⟨some 10,none,.mov (.t 2)⟩,⟨some 11,none,.load false 1 (.t 0)⟩,⟨some 12,none,.call (.c (.func 155 [] [])) [.t 11]⟩,⟨some 13,none,.bslF z1 1 [(0,10,.t 12)]⟩,⟨some 14,none,.append 10 160 (.t 10) (.t 13)⟩,⟨some 2,none,.mov (.t 14)⟩])
(.seq (.reg [⟨some 15,none,.mov (.t 3)⟩,⟨some 16,none,.mov (.t 15)⟩,⟨some 17,some (16,false),.load false 1 (.t 0)⟩,⟨some 18,some (16,false),.call (.c (.func 156 [] [])) [.t 17,.c (j 4),.c (.str [124])]⟩,⟨some 19,some (16,false),.un .not (.t 18)⟩,⟨some 20,none,.pick (.t 16) (.c (.bool true)) (.t 19)⟩])
(.cond (.t 20) (.seq (.reg [⟨some 21,none,.mov (.t 2)⟩,⟨some 22,none,.call (.c (.func 157 [] [])) [.c (j 27),.t 21]⟩,⟨none,none,.store 10 (.t 1) (.t 22)⟩])
(.ret)) (.skip))))))))), [.cell 1 true 10], none⟩
theorem amok153 : FnOk Tryz.prog 153 am153 := FnOk.mk' quiets Tryz.func153 (pols := [(1, 0, .res [(0,10)]),(3, 3, .frz)]) (keep := none) (by kernel_rfl) rfl
def am154 : AFunc := ⟨3, .seq (.reg [⟨some 6,none,.mov (.c (.bool false))⟩])
(.seq (.reg [⟨some 7,none,.mov (.t 0)⟩,⟨some 8,none,.call (.c (.func 191 [] [])) [.t 7]⟩,⟨some 9,none,.mov (.t 1)⟩,⟨some 10,none,.bin .eql (.t 8) (.t 9)⟩,⟨some 11,none,.mov (.t 10)⟩,⟨some 12,some (11,true),.mov (.t 0)⟩,⟨some 13,some (11,true),.nilchk (.t 12)⟩,⟨some 14,some (11,true),.faddr 0 (.t 13)⟩,⟨some 15,some (11,true),.load false 1 (.t 14)⟩,⟨some 16,some (11,true),.iaddr 6 (.t 15) (.c (j 0))⟩,⟨some 17,some (11,true),.faddr 1 (.t 16)⟩,⟨some 18,some (11,true),.load false 1 (.t 17)⟩,⟨some 19,some (11,true),.mov (.t 2)⟩,⟨some 20,some (11,true),.bin .eql (.t 18) (.t 19)⟩,⟨some 21,none,.pick (.t 11) (.t 20) (.c (.bool false))⟩,⟨some 6,none,.mov (.t 21)⟩])
(.ret)), [.tmp 6], none⟩
theorem amok154 : FnOk Tryz.prog 154 am154 := FnOk.mk' quiets Tryz.func154 (pols := []) (keep := none) (by kernel_rfl) rfl
def am155 : AFunc := ⟨1, .seq (.reg [⟨some 2,none,.allocB z1 []⟩])
(.seq (.reg [⟨some 8,none,.mov (.t 0)⟩,⟨some 9,none,.call (.c (.func 159 [] [])) [.t 8]⟩,⟨some 3,none,.mov (.t 9)⟩])
(.seq (.block 0 (.seq (.reg [⟨some 11,none,.mov (.t 0)⟩,⟨some 12,none,.call (.c (.func 156 [] [])) [.t 11,.c (j 1),.c (.str [100,101,102])]⟩,⟨some 10,none,.mov (.t 12)⟩])
(.cond (.t 10) (.seq (.reg [⟨some 13,none,.mov (.t 0)⟩,⟨some 14,none,.call (.c (.func 192 [] [])) [.t 13]⟩,⟨some 4,none,.hole 12⟩,⟨some 4,none,.fill 12 ⟨.t 14, none⟩⟩])
(.seq (.reg [⟨some 15,none,.mov (.t 3)⟩,⟨some 16,none,.mov (.t 0)⟩,⟨some 17,none,.call (.c (.func 194 [] [])) [.t 16]⟩,⟨some 18,none,.bslF z1 1 [(0,10,.t 17)]⟩,⟨some 19,none,.call (.c (.func 193 [] [])) [.c (j 25),.t 15,.t 18]⟩,⟨some 5,none,.hole 10⟩,⟨some 5,none,.fill 10 ⟨.t 19, (some [])⟩⟩])
(.seq (.reg [⟨some 20,none,.load true 12 (.t 4)⟩,⟨some 21,none,.bslF z0 1 [(0,12,.t 20)]⟩,⟨some 22,none,.faddr 8 (.t 5)⟩,⟨none,none,.store 1 (.t 22) (.t 21)⟩])
(.seq (.reg [⟨some 23,none,.load true 10 (.t 5)⟩,⟨none,none,.store 10 (.t 2) (.t 23)⟩])
(.ret))))) (.seq (.reg [⟨some 25,none,.mov (.t 0)⟩,⟨some 26,none,.call (.c (.func 156 [] [])) [.t 25,.c (j 1),.c (.str [108,97,98,101,108])]⟩,⟨some 24,none,.mov (.t 26)⟩])
(.cond (.t 24) (.seq (.reg [⟨some 27,none,.mov (.t 0)⟩,⟨some 28,none,.call (.c (.func 195 [] [])) [.t 27,.c (j 5)]⟩,⟨some 6,none,.mov (.t 28)⟩])
(.seq (.reg [⟨some 29,none,.mov (.t 0)⟩,⟨some 30,none,.call (.c (.func 196 [] [])) [.t 29,.c (j 4),.c (.str [124])]⟩])
(.seq (.reg [⟨some 31,none,.mov (.t 3)⟩,⟨some 32,none,.mov (.t 0)⟩,⟨some 33,none,.call (.c (.func 106 [] [])) [.t 32]⟩,⟨some 34,none,.bslF z1 1 [(0,10,.t 33)]⟩,⟨some 35,none,.call (.c (.func 193 [] [])) [.c (j 23),.t 31,.t 34]⟩,⟨some 7,none,.hole 10⟩,⟨some 7,none,.fill 10 ⟨.t 35, (some [])⟩⟩])
(.seq (.reg [⟨some 36,none,.mov (.t 6)⟩,⟨some 37,none,.faddr 1 (.t 7)⟩,⟨none,none,.store 1 (.t 37) (.t 36)⟩])
(.seq (.reg [⟨some 38,none,.load true 10 (.t 7)⟩,⟨none,none,.store 10 (.t 2) (.t 38)⟩])
(.ret)))))) (.skip))))))
(.seq (.reg [⟨some 39,none,.mov (.t 0)⟩,⟨some 40,none,.mov (.t 0)⟩,⟨some 41,none,.mkf 198 [.t 40] []⟩,⟨some 42,none,.call (.c (.func 197 [] [])) [.t 39,.c (.str [44]),.t 41]⟩,⟨some 43,none,.call (.c (.func 157 [] [])) [.c (j 28),.t 42]⟩,⟨none,none,.store 10 (.t 2) (.t 43)⟩])
(.ret)))), [.cell 2 true 10], none⟩
theorem amok155 : FnOk Tryz.prog 155 am155 := FnOk.mk' quiets Tryz.func155 (pols := [(3, 2, .hole),(3, 3, .hole),(4, 3, .frz),(4, 6, .res []),(4, 5, .hole),(5, 1, .frz),(10, 3, .frz),(10, 6, .res []),(10, 5, .hole)]) (keep := none) (by kernel_rfl) rfl
def am156 : AFunc := ⟨3, .seq (.reg [⟨some 6,none,.mov (.c (.bool false))⟩])
(.seq (.reg [⟨some 8,none,.mov (.t 0)⟩,⟨some 9,none,.mov (.t 1)⟩,⟨some 10,none,.mov (.t 2)⟩,⟨some 11,none,.call (.c (.func 154 [] [])) [.t 8,.t 9,.t 10]⟩,⟨some 7,none,.mov (.t 11)⟩])
(.seq (.seq (.reg [⟨some 12,none,.mov (.t 7)⟩])
(.cond (.t 12) (.reg [⟨some 13,none,.mov (.t 0)⟩,⟨some 14,none,.call (.c (.func 199 [] [])) [.t 13]⟩]) (.skip)))
(.seq (.reg [⟨some 15,none,.mov (.t 7)⟩,⟨some 6,none,.mov (.t 15)⟩])
(.ret)))), [.tmp 6], none⟩
theorem amok156 : FnOk Tryz.prog 156 am156 := FnOk.mk' quiets Tryz.func156 (pols := []) (keep := none) (by kernel_rfl) rfl
def am157 : AFunc := ⟨2, .seq (.reg [⟨some 4,none,.allocB z1 []⟩])
(.seq (.seq (.reg [⟨some 5,none,.mov (.t 1)⟩,⟨some 6,none,.len false (.t 5)⟩,⟨some 7,none,.bin .eql (.t 6) (.c (j 1))⟩])
(.cond (.t 7) (.seq (.reg [⟨some 8,none,.mov (.t 1)⟩,⟨some 9,none,.iaddr 10 (.t 8) (.c (j 0))⟩,⟨some 10,none,.load true 10 (.t 9)⟩,⟨none,none,.store 10 (.t 4) (.t 10)⟩])
(.ret)) (.skip)))
(.seq (.reg [⟨some 11,none,.mov (.t 0)⟩,⟨some 12,none,.mov (.t 1)⟩,⟨some 13,none,.mov (.t 1)⟩,⟨some 14,none,.iaddr 10 (.t 13) (.c (j 0))⟩,⟨some 15,none,.faddr 9 (.t 14)⟩,⟨some 16,none,.load false 1 (.t 15)⟩,⟨some 17,none,.build z1 [(0,1,.t 11),(6,1,.t 12),(9,1,.t 16)]⟩,⟨none,none,.store 10 (.t 4) (.t 17)⟩])
(.ret))), [.cell 4 true 10], none⟩
theorem amok157 : FnOk Tryz.prog 157 am157 := FnOk.mk' quiets Tryz.func157 (pols := []) (keep := none) (by kernel_rfl) rfl
def am158 : AFunc := ⟨2, .seq (.reg [⟨some 2,none,.boxB 10 (.t 0) []⟩,⟨some 3,none,.boxF 1 (.t 1)⟩,⟨some 4,none,.mov (.c (j 0))⟩])
(.seq (.seq (.reg [⟨some 7,none,.load false 1 (.t 3)⟩,⟨some 8,none,.bin .eql (.t 7) (.c (j 0))⟩])
(.cond (.t 8) (.seq (.reg [⟨some 4,none,.mov (.c (j 0))⟩])
(.ret)) (.skip)))
(.seq (.reg [⟨some 9,none,.faddr 7 (.t 2)⟩,⟨some 10,none,.load false 1 (.t 9)⟩,⟨some 11,none,.load false 1 (.t 3)⟩,⟨some 12,none,.bin .sub (.t 11) (.c (j 1))⟩,⟨some 13,none,.call (.c (.func 200 [] [])) [.t 10,.t 12]⟩,⟨some 5,none,.hole 1⟩,⟨some 5,none,.fill 1 ⟨.t 13, (some [])⟩⟩])
(.seq (.seq (.reg [⟨some 14,none,.load true 10 (.t 2)⟩,⟨some 15,none,.call (.c (.func 160 [] [])) [.t 14]⟩])
(.block 0 (.rangeF (.t 15) [16] (.reg [⟨some 6,none,.hole 10⟩,⟨some 6,none,.fill 10 ⟨.t 16, none⟩⟩]) (.block 1 (.dreg [(⟨some 17,none,.load false 1 (.t 5)⟩,0,5),(⟨some 18,none,.load true 10 (.t 6)⟩,1,0),(⟨some 19,none,.load false 1 (.t 3)⟩,2,0),(⟨some 20,none,.bin .sub (.t 19) (.c (j 1))⟩,0,0),(⟨some 21,none,.call (.c (.func 158 [] [])) [.t 18,.t 20]⟩,0,0),(⟨some 22,none,.maxs (.t 17) [.t 21]⟩,0,0),(⟨none,none,.store 1 (.t 5) (.t 22)⟩,0,0)])))))
(.seq (.reg [⟨some 23,none,.load false 1 (.t 5)⟩,⟨some 24,none,.bin .add (.t 23) (.c (j 1))⟩,⟨some 4,none,.mov (.t 24)⟩])
(.ret))))), [.tmp 4], none⟩
theorem amok158 : FnOk Tryz.prog 158 am158 := FnOk.mk' quiets Tryz.func158 (pols := [(0, 1, .frz),(3, 6, .res []),(3, 5, .hole),(5, 0, .hole),(5, 1, .hole)]) (keep := none) (by kernel_rfl) rfl
def am159 : AFunc := ⟨1, .seq (.reg [⟨some 2,none,.mov (.c (j 0))⟩])
(.seq (.seq (.reg [⟨some 3,none,.mov (.t 0)⟩,⟨some 4,none,.nilchk (.t 3)⟩,⟨some 5,none,.faddr 0 (.t 4)⟩,⟨some 6,none,.load false 1 (.t 5)⟩,⟨some 7,none,.len false (.t 6)⟩,⟨some 8,none,.bin .gtr (.t 7) (.c (j 0))⟩])
(.cond (.t 8) (.seq (.reg [⟨some 9,none,.mov (.t 0)⟩,⟨some 10,none,.nilchk (.t 9)⟩,⟨some 11,none,.faddr 0 (.t 10)⟩,⟨some 12,none,.load false 1 (.t 11)⟩,⟨some 13,none,.iaddr 6 (.t 12) (.c (j 0))⟩,⟨some 14,none,.faddr 5 (.t 13)⟩,⟨some 15,none,.load false 1 (.t 14)⟩,⟨some 2,none,.mov (.t 15)⟩])
(.ret)) (.skip)))
(.seq (.reg [⟨some 16,none,.mov (.t 0)⟩,⟨some 17,none,.nilchk (.t 16)⟩,⟨some 18,none,.faddr 1 (.t 17)⟩,⟨some 19,none,.load false 1 (.t 18)⟩,⟨some 2,none,.mov (.t 19)⟩])
(.ret))), [.tmp 2], none⟩
theorem amok159 : FnOk Tryz.prog 159 am159 := FnOk.mk' quiets Tryz.func159 (pols := []) (keep := none) (by kernel_rfl) rfl
end Go.AM.T
