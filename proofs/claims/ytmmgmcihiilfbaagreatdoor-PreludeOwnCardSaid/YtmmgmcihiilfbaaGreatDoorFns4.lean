/- The functions of the abstract machine are the program's. -/
import Derived.Test.YtmmgmcihiilfbaaGreatDoorProg
import Derived.Test.YtmmgmcihiilfbaaGreatDoorZs
import Derived.Test.YtmmgmcihiilfbaaGreatDoorQuiet
import Derived.KernelRfl
set_option linter.unusedVariables false
set_option maxRecDepth 100000
namespace Go.AM.T
open Go.Proofs
def am321 : AFunc := ⟨2, .seq (.reg [⟨some 4,none,.allocB z0 []⟩])
(.seq (.block 0 (.seq (.reg [⟨some 9,none,.mov (.t 0)⟩,⟨some 10,none,.call (.c (.func 156 [] [])) [.t 9,.c (j 1),.c (.str [105,102])]⟩,⟨some 8,none,.mov (.t 10)⟩])
(.cond (.t 8) (.seq (.reg [⟨some 11,none,.mov (.t 0)⟩,⟨some 12,none,.mov (.t 1)⟩,⟨some 13,none,.call (.c (.func 328 [] [])) [.t 11,.t 12]⟩,⟨none,none,.store 10 (.t 4) (.t 13)⟩])
(.ret)) (.seq (.reg [⟨some 15,none,.mov (.t 0)⟩,⟨some 16,none,.call (.c (.func 156 [] [])) [.t 15,.c (j 1),.c (.str [116,114,121])]⟩,⟨some 14,none,.mov (.t 16)⟩])
(.cond (.t 14) (.seq (.reg [⟨some 17,none,.mov (.t 0)⟩,⟨some 18,none,.call (.c (.func 298 [] [])) [.t 17]⟩,⟨some 19,none,.build z0 []⟩,⟨some 5,none,.hole 10⟩,⟨some 6,none,.hole 10⟩,⟨some 5,none,.fill 10 ⟨.t 18, none⟩⟩,⟨some 6,none,.fill 10 ⟨.t 19, (some [])⟩⟩])
(.seq (.seq (.reg [⟨some 20,none,.mov (.t 0)⟩,⟨some 21,none,.call (.c (.func 156 [] [])) [.t 20,.c (j 1),.c (.str [99,97,116,99,104])]⟩])
(.cond (.t 21) (.reg [⟨some 22,none,.mov (.t 0)⟩,⟨some 23,none,.call (.c (.func 298 [] [])) [.t 22]⟩,⟨none,none,.store 10 (.t 6) (.t 23)⟩]) (.skip)))
(.seq (.reg [⟨some 24,none,.mov (.t 1)⟩,⟨some 25,none,.load true 10 (.t 5)⟩,⟨some 26,none,.load true 10 (.t 6)⟩,⟨some 27,none,.bslF z20 2 [(0,10,.t 25),(10,10,.t 26)]⟩,⟨some 28,none,.call (.c (.func 193 [] [])) [.c (j 20),.t 24,.t 27]⟩,⟨none,none,.store 10 (.t 4) (.t 28)⟩])
(.ret)))) (.seq (.reg [⟨some 30,none,.mov (.t 0)⟩,⟨some 31,none,.call (.c (.func 156 [] [])) [.t 30,.c (j 1),.c (.str [114,101,100,117,99,101])]⟩,⟨some 29,none,.mov (.t 31)⟩])
(.cond (.t 29) (.seq (.reg [⟨some 32,none,.mov (.t 0)⟩,⟨some 33,none,.mov (.t 1)⟩,⟨some 34,none,.call (.c (.func 329 [] [])) [.t 32,.c (j 21),.t 33]⟩,⟨none,none,.store 10 (.t 4) (.t 34)⟩])
(.ret)) (.seq (.reg [⟨some 36,none,.mov (.t 0)⟩,⟨some 37,none,.call (.c (.func 156 [] [])) [.t 36,.c (j 1),.c (.str [102,111,114,101,97,99,104])]⟩,⟨some 35,none,.mov (.t 37)⟩])
(.cond (.t 35) (.seq (.reg [⟨some 38,none,.mov (.t 0)⟩,⟨some 39,none,.mov (.t 1)⟩,⟨some 40,none,.call (.c (.func 329 [] [])) [.t 38,.c (j 22),.t 39]⟩,⟨none,none,.store 10 (.t 4) (.t 40)⟩])
(.ret)) (.seq (.reg [⟨some 42,none,.mov (.t 0)⟩,⟨some 43,none,.call (.c (.func 156 [] [])) [.t 42,.c (j 1),.c (.str [98,114,101,97,107])]⟩,⟨some 41,none,.mov (.t 43)⟩])
(.cond (.t 41) (.seq (.reg [⟨some 44,none,.mov (.t 0)⟩,⟨some 45,none,.call (.c (.func 195 [] [])) [.t 44,.c (j 5)]⟩,⟨some 46,none,.mov (.t 1)⟩,⟨some 47,none,.build z0 [(0,1,.c (j 24)),(1,1,.t 45),(9,1,.t 46)]⟩,⟨none,none,.store 10 (.t 4) (.t 47)⟩])
(.ret)) (.skip))))))))))))
(.seq (.reg [⟨some 48,none,.mov (.t 0)⟩,⟨some 49,none,.call (.c (.func 233 [] [])) [.t 48]⟩,⟨some 50,none,.mov (.t 1)⟩,⟨some 51,none,.build z0 [(0,1,.c (j 18)),(1,1,.t 49),(9,1,.t 50)]⟩,⟨some 7,none,.hole 10⟩,⟨some 7,none,.fill 10 ⟨.t 51, (some [])⟩⟩])
(.seq (.seq (.reg [⟨some 52,none,.mov (.t 0)⟩,⟨some 53,none,.call (.c (.func 156 [] [])) [.t 52,.c (j 4),.c (.str [40])]⟩])
(.cond (.t 53) (.seq (.reg [⟨some 54,none,.mov (.t 0)⟩,⟨some 55,none,.mov (.t 0)⟩,⟨some 56,none,.mov (.t 0)⟩,⟨some 57,none,.mkf 106 [.t 56] []⟩,⟨some 58,none,.call (.c (.func 330 [] [])) [.t 55,.t 57]⟩,⟨some 59,none,.call (.c (.func 197 [] [])) [.t 54,.c (.str [59]),.t 58]⟩,⟨some 60,none,.faddr 6 (.t 7)⟩,⟨none,none,.store 1 (.t 60) (.t 59)⟩])
(.reg [⟨some 61,none,.mov (.t 0)⟩,⟨some 62,none,.call (.c (.func 196 [] [])) [.t 61,.c (j 4),.c (.str [41])]⟩])) (.skip)))
(.seq (.reg [⟨some 63,none,.load true 10 (.t 7)⟩,⟨none,none,.store 10 (.t 4) (.t 63)⟩])
(.ret))))), [.cell 4 true 10], none⟩
theorem amok321 : FnOk Tryz.prog 321 am321 := FnOk.mk' quiets Tryz.func321 (pols := [(4, 3, .hole),(4, 5, .hole),(4, 6, .res []),(4, 4, .hole),(7, 3, .frz),(14, 5, .res []),(14, 4, .hole)]) (keep := none) (by kernel_rfl) rfl
def am322 : AFunc := ⟨2, .seq (.reg [⟨some 4,none,.allocB z0 []⟩])
(.seq (.reg [⟨some 9,none,.mov (.t 1)⟩,⟨some 10,none,.build z0 [(0,1,.c (j 1)),(9,1,.t 9)]⟩,⟨some 5,none,.hole 10⟩,⟨some 5,none,.fill 10 ⟨.t 10, none⟩⟩])
(.seq (.block 0 (.seq (.reg [⟨some 12,none,.mov (.t 0)⟩,⟨some 13,none,.call (.c (.func 156 [] [])) [.t 12,.c (j 4),.c (.str [46])]⟩,⟨some 11,none,.mov (.t 13)⟩])
(.cond (.t 11) (.seq (.seq (.reg [⟨some 14,none,.mov (.t 0)⟩,⟨some 15,none,.call (.c (.func 191 [] [])) [.t 14]⟩,⟨some 16,none,.bin .eql (.t 15) (.c (j 7))⟩])
(.cond (.t 16) (.seq (.dreg [(⟨some 17,none,.mov (.t 1)⟩,0,0),(⟨some 18,none,.load true 10 (.t 5)⟩,1,6),(⟨some 19,none,.mov (.t 0)⟩,0,0),(⟨some 20,none,.mov (.t 0)⟩,0,0),(⟨some 21,none,.call (.c (.func 159 [] [])) [.t 20]⟩,0,0),(⟨some 22,none,.call (.c (.func 320 [] [])) [.t 19,.c (.str []),.t 21]⟩,0,0),(⟨some 23,none,.bslF z20 2 [(0,10,.t 18),(10,10,.t 22)]⟩,0,0),(⟨some 24,none,.call (.c (.func 193 [] [])) [.c (j 4),.t 17,.t 23]⟩,0,0),(⟨none,none,.store 10 (.t 4) (.t 24)⟩,0,0)])
(.ret)) (.skip)))
(.seq (.reg [⟨some 25,none,.load true 10 (.t 5)⟩,⟨none,none,.store 10 (.t 4) (.t 25)⟩])
(.ret))) (.seq (.reg [⟨some 27,none,.mov (.t 0)⟩,⟨some 28,none,.call (.c (.func 156 [] [])) [.t 27,.c (j 4),.c (.str [46,46])]⟩,⟨some 26,none,.mov (.t 28)⟩])
(.cond (.t 26) (.seq (.reg [⟨some 29,none,.mov (.t 1)⟩,⟨some 30,none,.build z0 [(0,1,.c (j 2)),(9,1,.t 29)]⟩,⟨none,none,.store 10 (.t 4) (.t 30)⟩])
(.ret)) (.seq (.reg [⟨some 32,none,.mov (.t 0)⟩,⟨some 33,none,.call (.c (.func 156 [] [])) [.t 32,.c (j 4),.c (.str [40])]⟩,⟨some 31,none,.mov (.t 33)⟩])
(.cond (.t 31) (.seq (.reg [⟨some 34,none,.mov (.t 0)⟩,⟨some 35,none,.call (.c (.func 106 [] [])) [.t 34]⟩,⟨some 6,none,.hole 10⟩,⟨some 6,none,.fill 10 ⟨.t 35, none⟩⟩])
(.seq (.reg [⟨some 36,none,.mov (.t 0)⟩,⟨some 37,none,.call (.c (.func 196 [] [])) [.t 36,.c (j 4),.c (.str [41])]⟩])
(.seq (.reg [⟨some 38,none,.load true 10 (.t 6)⟩,⟨none,none,.store 10 (.t 4) (.t 38)⟩])
(.ret)))) (.seq (.reg [⟨some 40,none,.mov (.t 0)⟩,⟨some 41,none,.call (.c (.func 156 [] [])) [.t 40,.c (j 4),.c (.str [91])]⟩,⟨some 39,none,.mov (.t 41)⟩])
(.cond (.t 39) (.seq (.reg [⟨some 7,none,.allocB z0 []⟩])
(.seq (.seq (.reg [⟨some 42,none,.mov (.t 0)⟩,⟨some 43,none,.call (.c (.func 154 [] [])) [.t 42,.c (j 4),.c (.str [93])]⟩,⟨some 44,none,.un .not (.t 43)⟩])
(.cond (.t 44) (.reg [⟨some 45,none,.mov (.t 0)⟩,⟨some 46,none,.call (.c (.func 106 [] [])) [.t 45]⟩,⟨none,none,.store 10 (.t 7) (.t 46)⟩]) (.skip)))
(.seq (.reg [⟨some 47,none,.mov (.t 0)⟩,⟨some 48,none,.call (.c (.func 196 [] [])) [.t 47,.c (j 4),.c (.str [93])]⟩])
(.seq (.reg [⟨some 49,none,.mov (.t 1)⟩,⟨some 50,none,.load true 10 (.t 7)⟩,⟨some 51,none,.bslF z0 1 [(0,10,.t 50)]⟩,⟨some 52,none,.call (.c (.func 193 [] [])) [.c (j 12),.t 49,.t 51]⟩,⟨none,none,.store 10 (.t 4) (.t 52)⟩])
(.ret))))) (.skip))))))))))
(.seq (.reg [⟨some 53,none,.mov (.t 0)⟩,⟨some 54,none,.call (.c (.func 196 [] [])) [.t 53,.c (j 4),.c (.str [123])]⟩])
(.seq (.reg [⟨some 8,none,.mov (.c (.nilsl))⟩])
(.seq (.seq (.reg [⟨some 55,none,.mov (.t 0)⟩,⟨some 56,none,.call (.c (.func 154 [] [])) [.t 55,.c (j 4),.c (.str [125])]⟩,⟨some 57,none,.un .not (.t 56)⟩])
(.cond (.t 57) (.reg [⟨some 58,none,.mov (.t 0)⟩,⟨some 59,none,.mov (.t 0)⟩,⟨some 60,none,.mkf 331 [.t 59] []⟩,⟨some 61,none,.call (.c (.func 197 [] [])) [.t 58,.c (.str [44]),.t 60]⟩,⟨some 8,none,.mov (.t 61)⟩]) (.skip)))
(.seq (.reg [⟨some 62,none,.mov (.t 0)⟩,⟨some 63,none,.call (.c (.func 196 [] [])) [.t 62,.c (j 4),.c (.str [125])]⟩])
(.seq (.reg [⟨some 64,none,.mov (.t 1)⟩,⟨some 65,none,.mov (.t 8)⟩,⟨some 66,none,.call (.c (.func 193 [] [])) [.c (j 13),.t 64,.t 65]⟩,⟨none,none,.store 10 (.t 4) (.t 66)⟩])
(.ret)))))))), [.cell 4 true 10], none⟩
theorem amok322 : FnOk Tryz.prog 322 am322 := FnOk.mk' quiets Tryz.func322 (pols := [(1, 2, .hole),(1, 3, .hole),(4, 6, .frz),(9, 2, .hole),(9, 3, .hole),(17, 2, .frz)]) (keep := none) (by kernel_rfl) rfl
def am324 : AFunc := ⟨2, .seq (.reg [⟨some 3,none,.boxB 10 (.t 1) []⟩,⟨some 4,none,.allocB z0 []⟩])
(.seq (.seq (.reg [⟨some 7,none,.mov (.t 0)⟩,⟨some 8,none,.call (.c (.func 156 [] [])) [.t 7,.c (j 4),.c (.str [93])]⟩])
(.cond (.t 8) (.seq (.reg [⟨some 9,none,.faddr 9 (.t 3)⟩,⟨some 10,none,.load false 1 (.t 9)⟩,⟨some 11,none,.load true 10 (.t 3)⟩,⟨some 12,none,.bslF z0 1 [(0,10,.t 11)]⟩,⟨some 13,none,.call (.c (.func 193 [] [])) [.c (j 6),.t 10,.t 12]⟩,⟨none,none,.store 10 (.t 4) (.t 13)⟩])
(.ret)) (.skip)))
(.seq (.reg [⟨some 5,none,.allocB z0 []⟩,⟨some 6,none,.allocB z0 []⟩])
(.seq (.seq (.reg [⟨some 14,none,.mov (.t 0)⟩,⟨some 15,none,.call (.c (.func 154 [] [])) [.t 14,.c (j 4),.c (.str [58])]⟩,⟨some 16,none,.un .not (.t 15)⟩])
(.cond (.t 16) (.reg [⟨some 17,none,.mov (.t 0)⟩,⟨some 18,none,.call (.c (.func 106 [] [])) [.t 17]⟩,⟨none,none,.store 10 (.t 5) (.t 18)⟩]) (.skip)))
(.seq (.seq (.reg [⟨some 19,none,.mov (.t 0)⟩,⟨some 20,none,.call (.c (.func 156 [] [])) [.t 19,.c (j 4),.c (.str [93])]⟩])
(.cond (.t 20) (.seq (.reg [⟨some 21,none,.faddr 9 (.t 3)⟩,⟨some 22,none,.load false 1 (.t 21)⟩,⟨some 23,none,.load true 10 (.t 3)⟩,⟨some 24,none,.load true 10 (.t 5)⟩,⟨some 25,none,.bslF z20 2 [(0,10,.t 23),(10,10,.t 24)]⟩,⟨some 26,none,.call (.c (.func 193 [] [])) [.c (j 4),.t 22,.t 25]⟩,⟨none,none,.store 10 (.t 4) (.t 26)⟩])
(.ret)) (.skip)))
(.seq (.reg [⟨some 27,none,.mov (.t 0)⟩,⟨some 28,none,.call (.c (.func 196 [] [])) [.t 27,.c (j 4),.c (.str [58])]⟩])
(.seq (.seq (.reg [⟨some 29,none,.faddr 0 (.t 5)⟩,⟨some 30,none,.load false 1 (.t 29)⟩,⟨some 31,none,.bin .eql (.t 30) (.c (j 0))⟩,⟨some 32,none,.mov (.t 31)⟩,⟨some 33,some (32,false),.mov (.t 0)⟩,⟨some 34,some (32,false),.call (.c (.func 154 [] [])) [.t 33,.c (j 4),.c (.str [93])]⟩,⟨some 35,some (32,false),.un .not (.t 34)⟩,⟨some 36,none,.pick (.t 32) (.c (.bool true)) (.t 35)⟩])
(.cond (.t 36) (.reg [⟨some 37,none,.mov (.t 0)⟩,⟨some 38,none,.call (.c (.func 106 [] [])) [.t 37]⟩,⟨none,none,.store 10 (.t 6) (.t 38)⟩]) (.skip)))
(.seq (.reg [⟨some 39,none,.mov (.t 0)⟩,⟨some 40,none,.call (.c (.func 196 [] [])) [.t 39,.c (j 4),.c (.str [93])]⟩])
(.seq (.reg [⟨some 41,none,.faddr 9 (.t 3)⟩,⟨some 42,none,.load false 1 (.t 41)⟩,⟨some 43,none,.load true 10 (.t 3)⟩,⟨some 44,none,.load true 10 (.t 5)⟩,⟨some 45,none,.load true 10 (.t 6)⟩,⟨some 46,none,.bslF z28 3 [(0,10,.t 43),(10,10,.t 44),(20,10,.t 45)]⟩,⟨some 47,none,.call (.c (.func 193 [] [])) [.c (j 5),.t 42,.t 46]⟩,⟨none,none,.store 10 (.t 4) (.t 47)⟩])
(.ret))))))))), [.cell 4 true 10], none⟩
theorem amok324 : FnOk Tryz.prog 324 am324 := FnOk.mk' quiets Tryz.func324 (pols := [(2, 3, .frz),(7, 4, .frz),(12, 5, .frz)]) (keep := none) (by kernel_rfl) rfl
def am327 : AFunc := ⟨1, .seq (.reg [⟨some 1,none,.boxB 10 (.t 0) []⟩,⟨some 2,none,.mov (.c (.bool false))⟩])
(.seq (.reg [⟨some 3,none,.faddr 0 (.t 1)⟩,⟨some 4,none,.load false 1 (.t 3)⟩,⟨some 5,none,.bin .eql (.t 4) (.c (j 11))⟩,⟨some 2,none,.mov (.t 5)⟩])
(.ret)), [.tmp 2], none⟩
theorem amok327 : FnOk Tryz.prog 327 am327 := FnOk.mk' quiets Tryz.func327 (pols := []) (keep := none) (by kernel_rfl) rfl
def am328 : AFunc := ⟨2, .seq (.reg [⟨some 4,none,.allocB z0 []⟩])
(.seq (.reg [⟨some 8,none,.mov (.t 0)⟩,⟨some 9,none,.call (.c (.func 106 [] [])) [.t 8]⟩,⟨some 5,none,.hole 10⟩,⟨some 5,none,.fill 10 ⟨.t 9, none⟩⟩])
(.seq (.reg [⟨some 10,none,.mov (.t 0)⟩,⟨some 11,none,.call (.c (.func 196 [] [])) [.t 10,.c (j 1),.c (.str [116,104,101,110])]⟩])
(.seq (.dreg [(⟨some 12,none,.mov (.t 1)⟩,0,0),(⟨some 13,none,.load true 10 (.t 5)⟩,1,4),(⟨some 14,none,.mov (.t 0)⟩,0,0),(⟨some 15,none,.call (.c (.func 106 [] [])) [.t 14]⟩,0,0),(⟨some 16,none,.build z0 []⟩,0,0),(⟨some 17,none,.bslR 10 z28 3 [(0,10,.t 13),(10,10,.t 15),(20,10,.t 16)]⟩,0,0),(⟨some 18,none,.call (.c (.func 193 [] [])) [.c (j 19),.t 12,.t 17]⟩,0,0),(⟨some 6,none,.hole 10⟩,0,0),(⟨some 6,none,.fill 10 ⟨.t 18, (some [])⟩⟩,0,0)])
(.seq (.reg [⟨some 19,none,.mov (.t 0)⟩,⟨some 20,none,.call (.c (.func 159 [] [])) [.t 19]⟩,⟨some 7,none,.mov (.t 20)⟩])
(.seq (.seq (.reg [⟨some 21,none,.mov (.t 0)⟩,⟨some 22,none,.call (.c (.func 156 [] [])) [.t 21,.c (j 1),.c (.str [101,108,105,102])]⟩])
(.cond (.t 22) (.seq (.dreg [(⟨some 23,none,.faddr 6 (.t 6)⟩,0,0),(⟨some 24,none,.load false 1 (.t 23)⟩,1,5),(⟨some 25,none,.mov (.t 0)⟩,0,0),(⟨some 26,none,.mov (.t 7)⟩,0,0),(⟨some 27,none,.call (.c (.func 328 [] [])) [.t 25,.t 26]⟩,0,0),(⟨some 28,none,.iaddr 10 (.t 24) (.c (j 2))⟩,0,0),(⟨none,none,.store 10 (.t 28) (.t 27)⟩,0,0)])
(.seq (.reg [⟨some 29,none,.load true 10 (.t 6)⟩,⟨none,none,.store 10 (.t 4) (.t 29)⟩])
(.ret))) (.skip)))
(.seq (.seq (.reg [⟨some 30,none,.mov (.t 0)⟩,⟨some 31,none,.call (.c (.func 156 [] [])) [.t 30,.c (j 1),.c (.str [101,108,115,101])]⟩])
(.cond (.t 31) (.dreg [(⟨some 32,none,.faddr 6 (.t 6)⟩,0,0),(⟨some 33,none,.load false 1 (.t 32)⟩,1,4),(⟨some 34,none,.mov (.t 0)⟩,0,0),(⟨some 35,none,.call (.c (.func 106 [] [])) [.t 34]⟩,0,0),(⟨some 36,none,.iaddr 10 (.t 33) (.c (j 2))⟩,0,0),(⟨none,none,.store 10 (.t 36) (.t 35)⟩,0,0)]) (.skip)))
(.seq (.reg [⟨some 37,none,.mov (.t 0)⟩,⟨some 38,none,.call (.c (.func 196 [] [])) [.t 37,.c (j 1),.c (.str [101,110,100])]⟩])
(.seq (.reg [⟨some 39,none,.load true 10 (.t 6)⟩,⟨none,none,.store 10 (.t 4) (.t 39)⟩])
(.ret))))))))), [.cell 4 true 10], none⟩
theorem amok328 : FnOk Tryz.prog 328 am328 := FnOk.mk' quiets Tryz.func328 (pols := [(1, 2, .hole),(1, 3, .hole),(3, 8, .res []),(3, 7, .hole)]) (keep := none) (by kernel_rfl) rfl
def am329 : AFunc := ⟨3, .seq (.reg [⟨some 6,none,.allocB z0 []⟩])
(.seq (.reg [⟨some 9,none,.mov (.t 1)⟩,⟨some 10,none,.mov (.t 2)⟩,⟨some 11,none,.mov (.t 0)⟩,⟨some 12,none,.call (.c (.func 298 [] [])) [.t 11]⟩,⟨some 13,none,.bslR 10 z0 1 [(0,10,.t 12)]⟩,⟨some 14,none,.call (.c (.func 193 [] [])) [.t 9,.t 10,.t 13]⟩,⟨some 7,none,.hole 10⟩,⟨some 7,none,.fill 10 ⟨.t 14, (some [(6,10)])⟩⟩])
(.seq (.reg [⟨some 15,none,.mov (.t 0)⟩,⟨some 16,none,.call (.c (.func 196 [] [])) [.t 15,.c (j 1),.c (.str [97,115])]⟩])
(.seq (.reg [⟨some 17,none,.mov (.t 0)⟩,⟨some 18,none,.call (.c (.func 306 [] [])) [.t 17]⟩,⟨some 19,none,.bslR 4 z27 1 [(0,4,.t 18)]⟩,⟨some 20,none,.faddr 7 (.t 7)⟩,⟨none,none,.store 1 (.t 20) (.t 19)⟩])
(.seq (.reg [⟨some 21,none,.mov (.t 0)⟩,⟨some 22,none,.call (.c (.func 196 [] [])) [.t 21,.c (j 4),.c (.str [40])]⟩])
(.seq (.dreg [(⟨some 23,none,.faddr 6 (.t 7)⟩,0,0),(⟨some 24,none,.load false 1 (.t 23)⟩,1,5),(⟨some 25,none,.mov (.t 0)⟩,0,0),(⟨some 26,none,.call (.c (.func 106 [] [])) [.t 25]⟩,0,0),(⟨some 27,none,.bslR 10 z0 1 [(0,10,.t 26)]⟩,0,0),(⟨some 28,none,.append 10 160 (.t 24) (.t 27)⟩,0,0),(⟨some 29,none,.faddr 6 (.t 7)⟩,0,0),(⟨none,none,.store 1 (.t 29) (.t 28)⟩,0,0)])
(.seq (.reg [⟨some 30,none,.mov (.t 0)⟩,⟨some 31,none,.call (.c (.func 196 [] [])) [.t 30,.c (j 4),.c (.str [59])]⟩])
(.seq (.dreg [(⟨some 32,none,.faddr 6 (.t 7)⟩,0,0),(⟨some 33,none,.load false 1 (.t 32)⟩,1,5),(⟨some 34,none,.mov (.t 0)⟩,0,0),(⟨some 35,none,.call (.c (.func 106 [] [])) [.t 34]⟩,0,0),(⟨some 36,none,.bslR 10 z0 1 [(0,10,.t 35)]⟩,0,0),(⟨some 37,none,.append 10 160 (.t 33) (.t 36)⟩,0,0),(⟨some 38,none,.faddr 6 (.t 7)⟩,0,0),(⟨none,none,.store 1 (.t 38) (.t 37)⟩,0,0)])
(.seq (.seq (.reg [⟨some 39,none,.mov (.t 1)⟩,⟨some 40,none,.bin .eql (.t 39) (.c (j 22))⟩])
(.cond (.t 40) (.seq (.reg [⟨some 8,none,.allocB z0 []⟩])
(.seq (.seq (.reg [⟨some 41,none,.mov (.t 0)⟩,⟨some 42,none,.call (.c (.func 156 [] [])) [.t 41,.c (j 4),.c (.str [59])]⟩])
(.cond (.t 42) (.reg [⟨some 43,none,.mov (.t 0)⟩,⟨some 44,none,.call (.c (.func 106 [] [])) [.t 43]⟩,⟨none,none,.store 10 (.t 8) (.t 44)⟩]) (.skip)))
(.reg [⟨some 45,none,.faddr 6 (.t 7)⟩,⟨some 46,none,.load false 1 (.t 45)⟩,⟨some 47,none,.load true 10 (.t 8)⟩,⟨some 48,none,.bslR 10 z0 1 [(0,10,.t 47)]⟩,⟨some 49,none,.append 10 160 (.t 46) (.t 48)⟩,⟨some 50,none,.faddr 6 (.t 7)⟩,⟨none,none,.store 1 (.t 50) (.t 49)⟩]))) (.skip)))
(.seq (.reg [⟨some 51,none,.mov (.t 0)⟩,⟨some 52,none,.call (.c (.func 196 [] [])) [.t 51,.c (j 4),.c (.str [41])]⟩])
(.seq (.reg [⟨some 53,none,.load true 10 (.t 7)⟩,⟨none,none,.store 10 (.t 6) (.t 53)⟩])
(.ret))))))))))), [.cell 6 true 10], none⟩
theorem amok329 : FnOk Tryz.prog 329 am329 := FnOk.mk' quiets Tryz.func329 (pols := [(1, 7, .res [(6,10)]),(1, 6, .hole)]) (keep := none) (by kernel_rfl) rfl
def am330 : AFunc := ⟨2, .seq (.reg [⟨some 2,none,.boxB 1 (.t 0) []⟩,⟨some 3,none,.boxB 1 (.t 1) []⟩,⟨some 4,none,.mov (.c (.nilf))⟩])
(.seq (.reg [⟨some 5,none,.hole 1⟩,⟨some 5,none,.fill 1 ⟨.c (j 0), (some [])⟩⟩])
(.seq (.reg [⟨some 6,none,.mkf 332 [] [.t 5,.t 2,.t 3]⟩,⟨some 4,none,.mov (.t 6)⟩])
(.ret))), [.tmp 4], (some 1000)⟩
theorem amok330 : FnOk Tryz.prog 330 am330 := FnOk.mk' quiets Tryz.func330 (pols := [(1, 1, .res []),(1, 0, .hole)]) (keep := some 1000) (by kernel_rfl) rfl
def am332 : AFunc := ⟨3, .seq (.reg [⟨some 3,none,.allocB z0 []⟩])
(.seq (.seq (.reg [⟨some 4,none,.load false 1 (.t 0)⟩,⟨some 5,none,.bin .add (.t 4) (.c (j 1))⟩,⟨none,none,.store 1 (.t 0) (.t 5)⟩])
(.seq (.reg [⟨some 6,none,.load false 1 (.t 0)⟩,⟨some 7,none,.bin .gtr (.t 6) (.c (j 8))⟩])
(.cond (.t 7) (.reg [⟨some 8,none,.load false 1 (.t 1)⟩,⟨some 9,none,.call (.c (.func 109 [] [])) [.t 8,.c (j 3)]⟩]) (.skip))))
(.seq (.reg [⟨some 10,none,.load false 1 (.t 2)⟩,⟨some 11,none,.call (.t 10) []⟩,⟨none,none,.store 10 (.t 3) (.t 11)⟩])
(.ret))), [.cell 3 true 10], none⟩
theorem amok332 : FnOk Tryz.prog 332 am332 := FnOk.mk' quiets Tryz.func332 (pols := []) (keep := none) (by kernel_rfl) rfl
end Go.AM.T
