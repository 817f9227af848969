/- The functions of the abstract machine are the program's. -/
import Derived.Test.YtmmgmcihiilfbaaGreatDoorProg
import Derived.Test.YtmmgmcihiilfbaaGreatDoorTZs
import Derived.Test.YtmmgmcihiilfbaaGreatDoorTQuiet
import Derived.KernelRfl
set_option linter.unusedVariables false
set_option maxRecDepth 100000
namespace Go.AM.T
open Go.Proofs
def am160 : AFunc := ⟨1, .seq (.reg [⟨some 1,none,.boxB 10 (.t 0) []⟩,⟨some 2,none,.mov (.c (.nilf))⟩])
(.seq (.reg [⟨some 3,none,.mkf 201 [] [.t 1]⟩,⟨some 2,none,.mov (.t 3)⟩])
(.ret)), [.tmp 2], none⟩
theorem amok160 : FnOk Tryz.prog 160 am160 := FnOk.mk' quiets Tryz.func160 (pols := []) (keep := none) (by kernel_rfl) rfl
def am166 : AFunc := ⟨2, .seq (.reg [⟨some 4,none,.mov (.c (.bool false))⟩])
(.seq (.reg [⟨some 5,none,.mov (.t 1)⟩,⟨some 6,none,.mov (.t 0)⟩,⟨some 7,none,.len true (.t 6)⟩,⟨some 8,none,.bin .lss (.t 5) (.t 7)⟩,⟨some 9,none,.mov (.t 8)⟩,⟨some 10,some (9,true),.mov (.t 0)⟩,⟨some 11,some (9,true),.mov (.t 1)⟩,⟨some 12,some (9,true),.indexS (.t 10) (.t 11)⟩,⟨some 13,some (9,true),.bin .geq (.t 12) (.c (.int .u8 (.ofNat 48)))⟩,⟨some 14,none,.pick (.t 9) (.t 13) (.c (.bool false))⟩,⟨some 15,none,.mov (.t 14)⟩,⟨some 16,some (15,true),.mov (.t 0)⟩,⟨some 17,some (15,true),.mov (.t 1)⟩,⟨some 18,some (15,true),.indexS (.t 16) (.t 17)⟩,⟨some 19,some (15,true),.bin .leq (.t 18) (.c (.int .u8 (.ofNat 57)))⟩,⟨some 20,none,.pick (.t 15) (.t 19) (.c (.bool false))⟩,⟨some 4,none,.mov (.t 20)⟩])
(.ret)), [.tmp 4], none⟩
theorem amok166 : FnOk Tryz.prog 166 am166 := FnOk.mk' quiets Tryz.func166 (pols := []) (keep := none) (by kernel_rfl) rfl
def am167 : AFunc := ⟨1, .seq (.reg [⟨some 1,none,.boxB 3 (.t 0) []⟩,⟨some 2,none,.allocB z10 []⟩,⟨some 3,none,.mov (.c (j 0))⟩])
(.seq (.reg [⟨some 5,none,.faddr 1 (.t 1)⟩,⟨some 6,none,.load false 1 (.t 5)⟩,⟨some 7,none,.call (.c (.func 209 [] [])) [.t 6]⟩,⟨some 4,none,.mov (.t 7)⟩])
(.seq (.seq (.reg [⟨some 8,none,.mov (.t 4)⟩,⟨some 9,none,.len false (.t 8)⟩,⟨some 10,none,.bin .eql (.t 9) (.c (j 0))⟩])
(.cond (.t 10) (.seq (.reg [⟨some 11,none,.build z10 []⟩,⟨none,none,.store 3 (.t 2) (.t 11)⟩,⟨some 3,none,.mov (.c (j 0))⟩])
(.ret)) (.skip)))
(.seq (.block 0 (.loop (.seq (.seq (.reg [⟨some 12,none,.mov (.t 4)⟩,⟨some 13,none,.iaddr 1 (.t 12) (.c (j 0))⟩,⟨some 14,none,.load false 1 (.t 13)⟩,⟨some 15,none,.bin .eql (.t 14) (.c (j 0))⟩])
(.cond (.t 15) (.skip) (.exit 0)))
(.block 1 (.seq (.reg [⟨some 16,none,.mov (.t 4)⟩,⟨some 17,none,.sliceL 1 (.t 16) (some (.c (j 1))) none none⟩,⟨some 4,none,.mov (.t 17)⟩])
(.reg [⟨some 18,none,.faddr 2 (.t 1)⟩,⟨some 19,none,.load false 1 (.t 18)⟩,⟨some 20,none,.bin .add (.t 19) (.c (j 1))⟩,⟨some 21,none,.faddr 2 (.t 1)⟩,⟨none,none,.store 1 (.t 21) (.t 20)⟩]))))))
(.seq (.block 2 (.seq (.reg [⟨some 23,none,.mov (.t 4)⟩,⟨some 24,none,.len false (.t 23)⟩,⟨some 25,none,.bin .gtr (.t 24) (.c (j 300))⟩,⟨some 22,none,.mov (.t 25)⟩])
(.cond (.t 22) (.seq (.reg [⟨some 26,none,.build z10 []⟩,⟨none,none,.store 3 (.t 2) (.t 26)⟩,⟨some 3,none,.mov (.c (j 51))⟩])
(.ret)) (.seq (.reg [⟨some 28,none,.faddr 2 (.t 1)⟩,⟨some 29,none,.load false 1 (.t 28)⟩,⟨some 30,none,.bin .lss (.t 29) (.c (.int .i64 (.negSucc 999)))⟩,⟨some 31,none,.mov (.t 30)⟩,⟨some 32,some (31,false),.faddr 2 (.t 1)⟩,⟨some 33,some (31,false),.load false 1 (.t 32)⟩,⟨some 34,some (31,false),.bin .gtr (.t 33) (.c (j 1000))⟩,⟨some 35,none,.pick (.t 31) (.c (.bool true)) (.t 34)⟩,⟨some 27,none,.mov (.t 35)⟩])
(.cond (.t 27) (.seq (.reg [⟨some 36,none,.build z10 []⟩,⟨none,none,.store 3 (.t 2) (.t 36)⟩,⟨some 3,none,.mov (.c (j 52))⟩])
(.ret)) (.skip))))))
(.seq (.dreg [(⟨some 37,none,.faddr 0 (.t 1)⟩,0,0),(⟨some 38,none,.load false 1 (.t 37)⟩,1,4),(⟨some 39,none,.mov (.t 4)⟩,0,0),(⟨some 40,none,.call (.c (.func 210 [] [])) [.t 39]⟩,0,0),(⟨some 41,none,.faddr 2 (.t 1)⟩,0,0),(⟨some 42,none,.load false 1 (.t 41)⟩,3,0),(⟨some 43,none,.build z10 [(0,1,.t 38),(1,1,.t 40),(2,1,.t 42)]⟩,0,0),(⟨none,none,.store 3 (.t 2) (.t 43)⟩,0,0),(⟨some 3,none,.mov (.c (j 0))⟩,0,0)])
(.ret)))))), [.cell 2 true 3,.tmp 3], none⟩
theorem amok167 : FnOk Tryz.prog 167 am167 := FnOk.mk' quiets Tryz.func167 (pols := []) (keep := none) (by kernel_rfl) rfl
def am169 : AFunc := ⟨1, .seq (.reg [⟨some 2,none,.mov (.c (.nilsl))⟩])
(.seq (.block 0 (.seq (.reg [⟨some 4,none,.mov (.t 0)⟩,⟨some 5,none,.bin .lss (.t 4) (.c (j 128))⟩,⟨some 3,none,.mov (.t 5)⟩])
(.cond (.t 3) (.seq (.reg [⟨some 6,none,.mov (.t 0)⟩,⟨some 7,none,.convI .u8 (.t 6)⟩,⟨some 8,none,.bslF z8 1 [(0,1,.t 7)]⟩,⟨some 2,none,.mov (.t 8)⟩])
(.ret)) (.seq (.reg [⟨some 10,none,.mov (.t 0)⟩,⟨some 11,none,.bin .lss (.t 10) (.c (j 2048))⟩,⟨some 9,none,.mov (.t 11)⟩])
(.cond (.t 9) (.seq (.reg [⟨some 12,none,.mov (.t 0)⟩,⟨some 13,none,.bin .quo (.t 12) (.c (j 64))⟩,⟨some 14,none,.bin .add (.c (j 192)) (.t 13)⟩,⟨some 15,none,.convI .u8 (.t 14)⟩,⟨some 16,none,.mov (.t 0)⟩,⟨some 17,none,.bin .rem (.t 16) (.c (j 64))⟩,⟨some 18,none,.bin .add (.c (j 128)) (.t 17)⟩,⟨some 19,none,.convI .u8 (.t 18)⟩,⟨some 20,none,.bslF z12 2 [(0,1,.t 15),(1,1,.t 19)]⟩,⟨some 2,none,.mov (.t 20)⟩])
(.ret)) (.seq (.reg [⟨some 22,none,.mov (.t 0)⟩,⟨some 23,none,.bin .lss (.t 22) (.c (j 65536))⟩,⟨some 21,none,.mov (.t 23)⟩])
(.cond (.t 21) (.seq (.reg [⟨some 24,none,.mov (.t 0)⟩,⟨some 25,none,.bin .quo (.t 24) (.c (j 4096))⟩,⟨some 26,none,.bin .add (.c (j 224)) (.t 25)⟩,⟨some 27,none,.convI .u8 (.t 26)⟩,⟨some 28,none,.mov (.t 0)⟩,⟨some 29,none,.bin .quo (.t 28) (.c (j 64))⟩,⟨some 30,none,.bin .rem (.t 29) (.c (j 64))⟩,⟨some 31,none,.bin .add (.c (j 128)) (.t 30)⟩,⟨some 32,none,.convI .u8 (.t 31)⟩,⟨some 33,none,.mov (.t 0)⟩,⟨some 34,none,.bin .rem (.t 33) (.c (j 64))⟩,⟨some 35,none,.bin .add (.c (j 128)) (.t 34)⟩,⟨some 36,none,.convI .u8 (.t 35)⟩,⟨some 37,none,.bslF z13 3 [(0,1,.t 27),(1,1,.t 32),(2,1,.t 36)]⟩,⟨some 2,none,.mov (.t 37)⟩])
(.ret)) (.skip))))))))
(.seq (.reg [⟨some 38,none,.mov (.t 0)⟩,⟨some 39,none,.bin .quo (.t 38) (.c (j 262144))⟩,⟨some 40,none,.bin .add (.c (j 240)) (.t 39)⟩,⟨some 41,none,.convI .u8 (.t 40)⟩,⟨some 42,none,.mov (.t 0)⟩,⟨some 43,none,.bin .quo (.t 42) (.c (j 4096))⟩,⟨some 44,none,.bin .rem (.t 43) (.c (j 64))⟩,⟨some 45,none,.bin .add (.c (j 128)) (.t 44)⟩,⟨some 46,none,.convI .u8 (.t 45)⟩,⟨some 47,none,.mov (.t 0)⟩,⟨some 48,none,.bin .quo (.t 47) (.c (j 64))⟩,⟨some 49,none,.bin .rem (.t 48) (.c (j 64))⟩,⟨some 50,none,.bin .add (.c (j 128)) (.t 49)⟩,⟨some 51,none,.convI .u8 (.t 50)⟩,⟨some 52,none,.mov (.t 0)⟩,⟨some 53,none,.bin .rem (.t 52) (.c (j 64))⟩,⟨some 54,none,.bin .add (.c (j 128)) (.t 53)⟩,⟨some 55,none,.convI .u8 (.t 54)⟩,⟨some 56,none,.bslF z14 4 [(0,1,.t 41),(1,1,.t 46),(2,1,.t 51),(3,1,.t 55)]⟩,⟨some 2,none,.mov (.t 56)⟩])
(.ret))), [.tmp 2], none⟩
theorem amok169 : FnOk Tryz.prog 169 am169 := FnOk.mk' quiets Tryz.func169 (pols := [(2, 2, .frz),(4, 8, .frz),(6, 13, .frz),(7, 18, .frz)]) (keep := none) (by kernel_rfl) rfl
def am170 : AFunc := ⟨1, .seq (.reg [⟨some 2,none,.mov (.c (.bool false))⟩])
(.seq (.reg [⟨some 3,none,.mov (.t 0)⟩,⟨some 4,none,.bin .geq (.t 3) (.c (j 0))⟩,⟨some 5,none,.mov (.t 4)⟩,⟨some 6,some (5,true),.mov (.t 0)⟩,⟨some 7,some (5,true),.bin .leq (.t 6) (.c (j 1114111))⟩,⟨some 8,none,.pick (.t 5) (.t 7) (.c (.bool false))⟩,⟨some 9,none,.mov (.t 8)⟩,⟨some 10,some (9,true),.mov (.t 0)⟩,⟨some 11,some (9,true),.bin .lss (.t 10) (.c (j 55296))⟩,⟨some 12,some (9,true),.mov (.t 11)⟩,⟨some 13,some (12,false),.mov (.t 0)⟩,⟨some 14,some (12,false),.bin .gtr (.t 13) (.c (j 57343))⟩,⟨some 15,some (9,true),.pick (.t 12) (.c (.bool true)) (.t 14)⟩,⟨some 16,none,.pick (.t 9) (.t 15) (.c (.bool false))⟩,⟨some 2,none,.mov (.t 16)⟩])
(.ret)), [.tmp 2], none⟩
theorem amok170 : FnOk Tryz.prog 170 am170 := FnOk.mk' quiets Tryz.func170 (pols := []) (keep := none) (by kernel_rfl) rfl
def am171 : AFunc := ⟨1, .seq (.reg [⟨some 2,none,.mov (.c (.str []))⟩])
(.seq (.seq (.dreg [(⟨some 3,none,.mov (.t 0)⟩,0,0),(⟨some 4,none,.call (.c (.func 172 [] [])) [.t 3]⟩,0,0),(⟨some 5,none,.bin .eql (.t 4) (.c (j 1))⟩,0,0),(⟨some 6,none,.mov (.t 5)⟩,0,0),(⟨some 7,some (6,true),.mov (.t 0)⟩,0,0),(⟨some 8,some (6,true),.nilchk (.t 7)⟩,0,0),(⟨some 9,some (6,true),.faddr 0 (.t 8)⟩,0,0),(⟨some 10,some (6,true),.load false 1 (.t 9)⟩,7,0),(⟨some 11,some (6,true),.mov (.t 0)⟩,0,0),(⟨some 12,some (6,true),.nilchk (.t 11)⟩,0,0),(⟨some 13,some (6,true),.faddr 1 (.t 12)⟩,0,0),(⟨some 14,some (6,true),.load false 1 (.t 13)⟩,11,0),(⟨some 15,some (6,true),.iaddr 6 (.t 10) (.t 14)⟩,0,0),(⟨some 16,some (6,true),.faddr 1 (.t 15)⟩,0,0),(⟨some 17,some (6,true),.load false 1 (.t 16)⟩,14,0),(⟨some 18,some (6,true),.call (.c (.func 208 [] [])) [.t 17]⟩,0,0),(⟨some 19,none,.pick (.t 6) (.t 18) (.c (.bool false))⟩,0,0)])
(.cond (.t 19) (.reg [⟨some 20,none,.mov (.t 0)⟩,⟨some 21,none,.call (.c (.func 60 [] [])) [.t 20]⟩]) (.skip)))
(.seq (.reg [⟨some 22,none,.mov (.t 0)⟩,⟨some 23,none,.call (.c (.func 129 [] [])) [.t 22,.c (j 1)]⟩,⟨some 2,none,.mov (.t 23)⟩])
(.ret))), [.tmp 2], none⟩
theorem amok171 : FnOk Tryz.prog 171 am171 := FnOk.mk' quiets Tryz.func171 (pols := []) (keep := none) (by kernel_rfl) rfl
def am172 : AFunc := ⟨1, .seq (.reg [⟨some 2,none,.mov (.c (j 0))⟩])
(.seq (.seq (.dreg [(⟨some 3,none,.mov (.t 0)⟩,0,0),(⟨some 4,none,.nilchk (.t 3)⟩,0,0),(⟨some 5,none,.faddr 4 (.t 4)⟩,0,0),(⟨some 6,none,.load false 1 (.t 5)⟩,3,0),(⟨some 7,none,.bin .neq (.t 6) (.c (j 0))⟩,0,0),(⟨some 8,none,.mov (.t 7)⟩,0,0),(⟨some 9,some (8,false),.mov (.t 0)⟩,0,0),(⟨some 10,some (8,false),.nilchk (.t 9)⟩,0,0),(⟨some 11,some (8,false),.faddr 1 (.t 10)⟩,0,0),(⟨some 12,some (8,false),.load false 1 (.t 11)⟩,9,0),(⟨some 13,some (8,false),.mov (.t 0)⟩,0,0),(⟨some 14,some (8,false),.nilchk (.t 13)⟩,0,0),(⟨some 15,some (8,false),.faddr 0 (.t 14)⟩,0,0),(⟨some 16,some (8,false),.load false 1 (.t 15)⟩,13,0),(⟨some 17,some (8,false),.len false (.t 16)⟩,0,0),(⟨some 18,some (8,false),.bin .geq (.t 12) (.t 17)⟩,0,0),(⟨some 19,none,.pick (.t 8) (.c (.bool true)) (.t 18)⟩,0,0)])
(.cond (.t 19) (.seq (.reg [⟨some 2,none,.mov (.c (j 0))⟩])
(.ret)) (.skip)))
(.seq (.dreg [(⟨some 20,none,.mov (.t 0)⟩,0,0),(⟨some 21,none,.nilchk (.t 20)⟩,0,0),(⟨some 22,none,.faddr 0 (.t 21)⟩,0,0),(⟨some 23,none,.load false 1 (.t 22)⟩,3,0),(⟨some 24,none,.mov (.t 0)⟩,0,0),(⟨some 25,none,.nilchk (.t 24)⟩,0,0),(⟨some 26,none,.faddr 1 (.t 25)⟩,0,0),(⟨some 27,none,.load false 1 (.t 26)⟩,7,0),(⟨some 28,none,.iaddr 6 (.t 23) (.t 27)⟩,0,0),(⟨some 29,none,.faddr 0 (.t 28)⟩,0,0),(⟨some 30,none,.load false 1 (.t 29)⟩,10,0),(⟨some 2,none,.mov (.t 30)⟩,0,0)])
(.ret))), [.tmp 2], none⟩
theorem amok172 : FnOk Tryz.prog 172 am172 := FnOk.mk' quiets Tryz.func172 (pols := []) (keep := none) (by kernel_rfl) rfl
def am173 : AFunc := ⟨1, .seq (.reg [⟨some 2,none,.allocB z1 []⟩])
(.seq (.reg [⟨some 5,none,.mov (.t 0)⟩,⟨some 6,none,.call (.c (.func 211 [] [])) [.t 5]⟩,⟨some 3,none,.hole 10⟩,⟨some 3,none,.fill 10 ⟨.t 6, none⟩⟩])
(.seq (.reg [⟨some 7,none,.mov (.t 0)⟩,⟨some 8,none,.bslF z15 8 [(0,1,.c (.str [61])),(1,1,.c (.str [124,61])),(2,1,.c (.str [43,61])),(3,1,.c (.str [45,61])),(4,1,.c (.str [42,61])),(5,1,.c (.str [47,61])),(6,1,.c (.str [37,61])),(7,1,.c (.str [47,47,61]))]⟩,⟨some 9,none,.call (.c (.func 212 [] [])) [.t 7,.t 8]⟩,⟨some 4,none,.mov (.t 9)⟩])
(.seq (.seq (.reg [⟨some 10,none,.mov (.t 4)⟩,⟨some 11,none,.bin .eql (.t 10) (.c (.str []))⟩])
(.cond (.t 11) (.seq (.reg [⟨some 12,none,.load true 10 (.t 3)⟩,⟨none,none,.store 10 (.t 2) (.t 12)⟩])
(.ret)) (.skip)))
(.seq (.dreg [(⟨some 13,none,.mov (.t 4)⟩,0,0),(⟨some 14,none,.load true 10 (.t 3)⟩,1,4),(⟨some 15,none,.mov (.t 0)⟩,0,0),(⟨some 16,none,.call (.c (.func 211 [] [])) [.t 15]⟩,0,0),(⟨some 17,none,.call (.c (.func 174 [] [])) [.t 13,.t 14,.t 16]⟩,0,0),(⟨none,none,.store 10 (.t 2) (.t 17)⟩,0,0)])
(.ret))))), [.cell 2 true 10], none⟩
theorem amok173 : FnOk Tryz.prog 173 am173 := FnOk.mk' quiets Tryz.func173 (pols := [(1, 2, .hole),(1, 3, .hole),(2, 1, .frz)]) (keep := none) (by kernel_rfl) rfl
def am174 : AFunc := ⟨3, .seq (.reg [⟨some 4,none,.boxB 10 (.t 1) []⟩,⟨some 5,none,.boxB 10 (.t 2) []⟩,⟨some 6,none,.allocB z1 []⟩])
(.seq (.reg [⟨some 7,none,.mov (.t 0)⟩,⟨some 8,none,.load true 10 (.t 4)⟩,⟨some 9,none,.load true 10 (.t 5)⟩,⟨some 10,none,.bslF z16 2 [(0,10,.t 8),(10,10,.t 9)]⟩,⟨some 11,none,.faddr 9 (.t 4)⟩,⟨some 12,none,.load false 1 (.t 11)⟩,⟨some 13,none,.build z1 [(0,1,.c (j 29)),(1,1,.t 7),(6,1,.t 10),(9,1,.t 12)]⟩,⟨none,none,.store 10 (.t 6) (.t 13)⟩])
(.ret)), [.cell 6 true 10], none⟩
theorem amok174 : FnOk Tryz.prog 174 am174 := FnOk.mk' quiets Tryz.func174 (pols := [(1, 3, .frz)]) (keep := none) (by kernel_rfl) rfl
def am176 : AFunc := ⟨2, .seq (.reg [⟨some 4,none,.mov (.c (j 0))⟩])
(.seq (.seq (.reg [⟨some 6,none,.mov (.t 0)⟩,⟨some 7,none,.len false (.t 6)⟩,⟨some 8,none,.mov (.c (j 0))⟩])
(.block 0 (.loop (.seq (.reg [⟨some 9,none,.bin .lss (.t 8) (.t 7)⟩])
(.seq (.cond (.t 9) (.skip) (.exit 0))
(.seq (.block 1 (.seq (.reg [⟨some 10,none,.mov (.t 8)⟩,⟨some 5,none,.mov (.t 10)⟩])
(.seq (.reg [⟨some 11,none,.mov (.t 1)⟩,⟨some 12,none,.mov (.t 0)⟩,⟨some 13,none,.mov (.t 5)⟩,⟨some 14,none,.iaddr 1 (.t 12) (.t 13)⟩,⟨some 15,none,.load false 1 (.t 14)⟩,⟨some 16,none,.bin .eql (.t 11) (.t 15)⟩])
(.cond (.t 16) (.seq (.reg [⟨some 17,none,.mov (.t 5)⟩,⟨some 4,none,.mov (.t 17)⟩])
(.ret)) (.skip)))))
(.reg [⟨some 18,none,.bin .add (.t 8) (.c (j 1))⟩,⟨some 8,none,.mov (.t 18)⟩])))))))
(.seq (.reg [⟨some 4,none,.mov (.c (.int .i64 (.negSucc 0)))⟩])
(.ret))), [.tmp 4], none⟩
theorem amok176 : FnOk Tryz.prog 176 am176 := FnOk.mk' quiets Tryz.func176 (pols := []) (keep := none) (by kernel_rfl) rfl
def am177 : AFunc := ⟨1, .seq (.reg [⟨some 2,none,.allocB z17 []⟩,⟨some 3,none,.mov (.c (.bool false))⟩])
(.seq (.reg [⟨some 5,none,.mov (.t 0)⟩,⟨some 6,none,.build z18 [(0,1,.t 5),(1,1,.c (.bool true))]⟩,⟨some 7,none,.boxB 2 (.t 6) []⟩,⟨some 4,none,.mov (.t 7)⟩])
(.seq (.reg [⟨some 8,none,.mov (.t 4)⟩,⟨some 9,none,.call (.c (.func 213 [] [])) [.t 8,.c (.str [45])]⟩,⟨some 10,none,.faddr 0 (.t 2)⟩,⟨none,none,.store 1 (.t 10) (.t 9)⟩])
(.seq (.reg [⟨some 11,none,.mov (.t 4)⟩,⟨some 12,none,.call (.c (.func 214 [] [])) [.t 11]⟩,⟨some 13,none,.faddr 2 (.t 2)⟩,⟨none,none,.store 1 (.t 13) (.t 12)⟩])
(.seq (.seq (.reg [⟨some 14,none,.mov (.t 4)⟩,⟨some 15,none,.call (.c (.func 213 [] [])) [.t 14,.c (.str [46])]⟩])
(.cond (.t 15) (.reg [⟨some 16,none,.mov (.t 4)⟩,⟨some 17,none,.call (.c (.func 214 [] [])) [.t 16]⟩,⟨some 18,none,.faddr 3 (.t 2)⟩,⟨none,none,.store 1 (.t 18) (.t 17)⟩]) (.skip)))
(.seq (.seq (.reg [⟨some 19,none,.mov (.t 4)⟩,⟨some 20,none,.call (.c (.func 213 [] [])) [.t 19,.c (.str [101,69])]⟩])
(.cond (.t 20) (.seq (.reg [⟨some 21,none,.mov (.t 4)⟩,⟨some 22,none,.nilchk (.t 21)⟩,⟨some 23,none,.faddr 0 (.t 22)⟩,⟨some 24,none,.load false 1 (.t 23)⟩,⟨some 25,none,.bin .neq (.t 24) (.c (.str []))⟩,⟨some 26,none,.mov (.t 25)⟩,⟨some 27,some (26,true),.mov (.t 4)⟩,⟨some 28,some (26,true),.nilchk (.t 27)⟩,⟨some 29,some (26,true),.faddr 0 (.t 28)⟩,⟨some 30,some (26,true),.load false 1 (.t 29)⟩,⟨some 31,some (26,true),.indexS (.t 30) (.c (j 0))⟩,⟨some 32,some (26,true),.bin .eql (.t 31) (.c (.int .u8 (.ofNat 45)))⟩,⟨some 33,none,.pick (.t 26) (.t 32) (.c (.bool false))⟩,⟨some 34,none,.faddr 1 (.t 2)⟩,⟨none,none,.store 1 (.t 34) (.t 33)⟩])
(.seq (.reg [⟨some 35,none,.mov (.t 4)⟩,⟨some 36,none,.call (.c (.func 213 [] [])) [.t 35,.c (.str [43,45])]⟩])
(.reg [⟨some 37,none,.mov (.t 4)⟩,⟨some 38,none,.call (.c (.func 214 [] [])) [.t 37]⟩,⟨some 39,none,.faddr 4 (.t 2)⟩,⟨none,none,.store 1 (.t 39) (.t 38)⟩]))) (.skip)))
(.seq (.dreg [(⟨some 40,none,.load true 5 (.t 2)⟩,0,0),(⟨some 41,none,.mov (.t 4)⟩,0,0),(⟨some 42,none,.nilchk (.t 41)⟩,0,0),(⟨some 43,none,.faddr 1 (.t 42)⟩,0,0),(⟨some 44,none,.load false 1 (.t 43)⟩,4,0),(⟨some 45,none,.mov (.t 44)⟩,0,0),(⟨some 46,some (45,true),.mov (.t 4)⟩,0,0),(⟨some 47,some (45,true),.nilchk (.t 46)⟩,0,0),(⟨some 48,some (45,true),.faddr 0 (.t 47)⟩,0,0),(⟨some 49,some (45,true),.load false 1 (.t 48)⟩,9,0),(⟨some 50,some (45,true),.bin .eql (.t 49) (.c (.str []))⟩,0,0),(⟨some 51,none,.pick (.t 45) (.t 50) (.c (.bool false))⟩,0,0),(⟨some 52,none,.mov (.t 51)⟩,0,0),(⟨some 53,some (52,true),.faddr 2 (.t 2)⟩,0,0),(⟨some 54,some (52,true),.load false 1 (.t 53)⟩,14,0),(⟨some 55,some (52,true),.len true (.t 54)⟩,0,0),(⟨some 56,some (52,true),.bin .eql (.t 55) (.c (j 1))⟩,0,0),(⟨some 57,some (52,true),.mov (.t 56)⟩,0,0),(⟨some 58,some (57,false),.faddr 2 (.t 2)⟩,0,0),(⟨some 59,some (57,false),.load false 1 (.t 58)⟩,19,0),(⟨some 60,some (57,false),.indexS (.t 59) (.c (j 0))⟩,0,0),(⟨some 61,some (57,false),.bin .neq (.t 60) (.c (.int .u8 (.ofNat 48)))⟩,0,0),(⟨some 62,some (52,true),.pick (.t 57) (.c (.bool true)) (.t 61)⟩,0,0),(⟨some 63,none,.pick (.t 52) (.t 62) (.c (.bool false))⟩,0,0),(⟨none,none,.store 5 (.t 2) (.t 40)⟩,0,0),(⟨some 3,none,.mov (.t 63)⟩,0,0)])
(.ret))))))), [.cell 2 true 5,.tmp 3], none⟩
theorem amok177 : FnOk Tryz.prog 177 am177 := FnOk.mk' quiets Tryz.func177 (pols := []) (keep := none) (by kernel_rfl) rfl
def am178 : AFunc := ⟨2, .seq (.reg [⟨some 4,none,.mov (.c (j 0))⟩,⟨some 5,none,.mov (.c (.bool false))⟩])
(.seq (.reg [⟨some 9,none,.mov (.t 0)⟩,⟨some 10,none,.call (.c (.func 215 [] [])) [.t 9,.c (.str [48])]⟩,⟨some 0,none,.mov (.t 10)⟩])
(.seq (.seq (.reg [⟨some 11,none,.mov (.t 0)⟩,⟨some 12,none,.len true (.t 11)⟩,⟨some 13,none,.bin .gtr (.t 12) (.c (j 6))⟩])
(.cond (.t 13) (.seq (.reg [⟨some 4,none,.mov (.c (j 0))⟩,⟨some 5,none,.mov (.c (.bool false))⟩])
(.ret)) (.skip)))
(.seq (.reg [⟨some 6,none,.mov (.c (j 0))⟩])
(.seq (.seq (.reg [⟨some 14,none,.mov (.t 0)⟩,⟨some 15,none,.convSB (.t 14)⟩,⟨some 16,none,.len false (.t 15)⟩,⟨some 17,none,.mov (.c (j 0))⟩])
(.block 0 (.loop (.seq (.reg [⟨some 18,none,.bin .lss (.t 17) (.t 16)⟩])
(.seq (.cond (.t 18) (.skip) (.exit 0))
(.seq (.block 1 (.seq (.reg [⟨some 19,none,.iaddr 1 (.t 15) (.t 17)⟩,⟨some 20,none,.load false 1 (.t 19)⟩,⟨some 8,none,.mov (.t 20)⟩])
(.reg [⟨some 21,none,.mov (.t 6)⟩,⟨some 22,none,.bin .mul (.c (j 10)) (.t 21)⟩,⟨some 23,none,.mov (.t 8)⟩,⟨some 24,none,.bin .sub (.t 23) (.c (.int .u8 (.ofNat 48)))⟩,⟨some 25,none,.convI .i64 (.t 24)⟩,⟨some 26,none,.bin .add (.t 22) (.t 25)⟩,⟨some 6,none,.mov (.t 26)⟩])))
(.reg [⟨some 27,none,.bin .add (.t 17) (.c (j 1))⟩,⟨some 17,none,.mov (.t 27)⟩])))))))
(.seq (.seq (.reg [⟨some 28,none,.mov (.t 1)⟩])
(.cond (.t 28) (.reg [⟨some 29,none,.mov (.t 6)⟩,⟨some 30,none,.un .neg (.t 29)⟩,⟨some 6,none,.mov (.t 30)⟩]) (.skip)))
(.seq (.reg [⟨some 31,none,.mov (.t 6)⟩,⟨some 4,none,.mov (.t 31)⟩,⟨some 5,none,.mov (.c (.bool true))⟩])
(.ret))))))), [.tmp 4,.tmp 5], none⟩
theorem amok178 : FnOk Tryz.prog 178 am178 := FnOk.mk' quiets Tryz.func178 (pols := []) (keep := none) (by kernel_rfl) rfl
def am179 : AFunc := ⟨2, .seq (.reg [⟨some 4,none,.mov (.c (.nilsl))⟩])
(.seq (.reg [⟨some 5,none,.mov (.t 0)⟩,⟨some 4,none,.mov (.t 5)⟩])
(.ret)), [.tmp 4], none⟩
theorem amok179 : FnOk Tryz.prog 179 am179 := FnOk.mk' quiets Tryz.func179 (pols := []) (keep := none) (by kernel_rfl) rfl
def am180 : AFunc := ⟨1, .seq (.reg [⟨some 2,none,.mov (.c (.nilsl))⟩,⟨some 3,none,.mov (.c (j 0))⟩])
(.seq (.block 0 (.seq (.reg [⟨some 7,none,.mov (.t 0)⟩,⟨some 8,none,.len true (.t 7)⟩,⟨some 9,none,.bin .eql (.t 8) (.c (j 0))⟩,⟨some 6,none,.mov (.t 9)⟩])
(.cond (.t 6) (.seq (.reg [⟨some 2,none,.mov (.c (.nilsl))⟩,⟨some 3,none,.mov (.c (j 8))⟩])
(.ret)) (.seq (.reg [⟨some 11,none,.mov (.t 0)⟩,⟨some 12,none,.len true (.t 11)⟩,⟨some 13,none,.bin .gtr (.t 12) (.c (j 2400))⟩,⟨some 10,none,.mov (.t 13)⟩])
(.cond (.t 10) (.seq (.reg [⟨some 2,none,.mov (.c (.nilsl))⟩,⟨some 3,none,.mov (.c (j 5))⟩])
(.ret)) (.seq (.reg [⟨some 15,none,.mov (.t 0)⟩,⟨some 16,none,.convSB (.t 15)⟩,⟨some 17,none,.call (.c (.func 188 [] [])) [.t 16,.c (.func 216 [] [])]⟩,⟨some 14,none,.mov (.t 17)⟩])
(.cond (.t 14) (.seq (.reg [⟨some 2,none,.mov (.c (.nilsl))⟩,⟨some 3,none,.mov (.c (j 32))⟩])
(.ret)) (.skip))))))))
(.seq (.reg [⟨some 4,none,.mov (.c (.nilsl))⟩])
(.seq (.block 1 (.loop (.seq (.seq (.reg [⟨some 18,none,.mov (.t 0)⟩,⟨some 19,none,.bin .neq (.t 18) (.c (.str []))⟩])
(.cond (.t 19) (.skip) (.exit 1)))
(.block 2 (.seq (.reg [⟨some 20,none,.mov (.t 0)⟩,⟨some 21,none,.len true (.t 20)⟩,⟨some 22,none,.bin .sub (.t 21) (.c (j 1))⟩,⟨some 23,none,.bin .rem (.t 22) (.c (j 9))⟩,⟨some 24,none,.bin .add (.t 23) (.c (j 1))⟩,⟨some 5,none,.mov (.t 24)⟩])
(.seq (.dreg [(⟨some 25,none,.mov (.t 4)⟩,0,0),(⟨some 26,none,.bslF z19 1 [(0,1,.c (.int .u32 (.ofNat 1000000000)))]⟩,0,0),(⟨some 27,none,.call (.c (.func 217 [] [])) [.t 25,.t 26]⟩,0,0),(⟨some 28,none,.mov (.t 0)⟩,0,0),(⟨some 29,none,.mov (.t 5)⟩,0,0),(⟨some 30,none,.sliceS (.t 28) none (some (.t 29))⟩,0,0),(⟨some 31,none,.call (.c (.func 219 [] [])) [.t 30]⟩,0,0),(⟨some 32,none,.bslF z19 1 [(0,1,.t 31)]⟩,0,0),(⟨some 33,none,.call (.c (.func 220 [] [])) [.t 32]⟩,0,0),(⟨some 34,none,.call (.c (.func 218 [] [])) [.t 27,.t 33]⟩,0,0),(⟨some 4,none,.mov (.t 34)⟩,0,0)])
(.reg [⟨some 35,none,.mov (.t 0)⟩,⟨some 36,none,.mov (.t 5)⟩,⟨some 37,none,.sliceS (.t 35) (some (.t 36)) none⟩,⟨some 0,none,.mov (.t 37)⟩])))))))
(.seq (.reg [⟨some 38,none,.mov (.t 4)⟩,⟨some 2,none,.mov (.t 38)⟩,⟨some 3,none,.mov (.c (j 0))⟩])
(.ret))))), [.tmp 2,.tmp 3], none⟩
theorem amok180 : FnOk Tryz.prog 180 am180 := FnOk.mk' quiets Tryz.func180 (pols := [(10, 1, .frz),(10, 7, .frz)]) (keep := none) (by kernel_rfl) rfl
def am181 : AFunc := ⟨1, .seq (.reg [⟨some 1,none,.boxB 3 (.t 0) []⟩,⟨some 2,none,.allocB z10 []⟩,⟨some 3,none,.mov (.c (j 0))⟩])
(.seq (.seq (.reg [⟨some 4,none,.load true 3 (.t 1)⟩,⟨some 5,none,.call (.c (.func 221 [] [])) [.t 4]⟩])
(.cond (.t 5) (.seq (.reg [⟨some 6,none,.build z10 []⟩,⟨none,none,.store 3 (.t 2) (.t 6)⟩,⟨some 3,none,.mov (.c (j 0))⟩])
(.ret)) (.skip)))
(.seq (.reg [⟨some 7,none,.load true 3 (.t 1)⟩,⟨some 8,none,.call (.c (.func 222 [] [])) [.t 7]⟩,⟨none,none,.store 3 (.t 1) (.t 8)⟩])
(.seq (.block 0 (.seq (.reg [⟨some 10,none,.faddr 0 (.t 1)⟩,⟨some 11,none,.faddr 1 (.t 10)⟩,⟨some 12,none,.load false 1 (.t 11)⟩,⟨some 13,none,.call (.c (.func 223 [] [])) [.t 12]⟩,⟨some 14,none,.bin .gtr (.t 13) (.c (j 300))⟩,⟨some 9,none,.mov (.t 14)⟩])
(.cond (.t 9) (.seq (.reg [⟨some 15,none,.build z10 []⟩,⟨none,none,.store 3 (.t 2) (.t 15)⟩,⟨some 3,none,.mov (.c (j 51))⟩])
(.ret)) (.seq (.reg [⟨some 17,none,.faddr 0 (.t 1)⟩,⟨some 18,none,.faddr 2 (.t 17)⟩,⟨some 19,none,.load false 1 (.t 18)⟩,⟨some 20,none,.bin .lss (.t 19) (.c (.int .i64 (.negSucc 999)))⟩,⟨some 21,none,.mov (.t 20)⟩,⟨some 22,some (21,false),.faddr 0 (.t 1)⟩,⟨some 23,some (21,false),.faddr 2 (.t 22)⟩,⟨some 24,some (21,false),.load false 1 (.t 23)⟩,⟨some 25,some (21,false),.bin .gtr (.t 24) (.c (j 1000))⟩,⟨some 26,none,.pick (.t 21) (.c (.bool true)) (.t 25)⟩,⟨some 16,none,.mov (.t 26)⟩])
(.cond (.t 16) (.seq (.reg [⟨some 27,none,.build z10 []⟩,⟨none,none,.store 3 (.t 2) (.t 27)⟩,⟨some 3,none,.mov (.c (j 52))⟩])
(.ret)) (.skip))))))
(.seq (.reg [⟨some 28,none,.faddr 0 (.t 1)⟩,⟨some 29,none,.load true 3 (.t 28)⟩,⟨none,none,.store 3 (.t 2) (.t 29)⟩,⟨some 3,none,.mov (.c (j 0))⟩])
(.ret))))), [.cell 2 true 3,.tmp 3], none⟩
theorem amok181 : FnOk Tryz.prog 181 am181 := FnOk.mk' quiets Tryz.func181 (pols := []) (keep := none) (by kernel_rfl) rfl
def am183 : AFunc := ⟨2, .seq (.reg [⟨some 4,none,.mov (.c (.nilsl))⟩])
(.seq (.dreg [(⟨some 8,none,.mov (.t 0)⟩,0,0),(⟨some 9,none,.nilchk (.t 8)⟩,0,0),(⟨some 10,none,.faddr 0 (.t 9)⟩,0,0),(⟨some 11,none,.load false 1 (.t 10)⟩,3,0),(⟨some 12,none,.mov (.t 0)⟩,0,0),(⟨some 13,none,.nilchk (.t 12)⟩,0,0),(⟨some 14,none,.faddr 1 (.t 13)⟩,0,0),(⟨some 15,none,.load false 1 (.t 14)⟩,7,0),(⟨some 16,none,.sliceS (.t 11) (some (.t 15)) none⟩,0,0),(⟨some 17,none,.call (.c (.func 225 [] [])) [.t 16]⟩,0,0),(⟨some 7,none,.mov (.t 17)⟩,0,0),(⟨some 18,none,.extract (.t 7) 0⟩,0,0),(⟨some 19,none,.extract (.t 7) 1⟩,0,0),(⟨some 5,none,.mov (.t 18)⟩,0,0),(⟨some 6,none,.mov (.t 19)⟩,0,0)])
(.seq (.reg [⟨some 20,none,.mov (.t 5)⟩,⟨some 21,none,.bin .neq (.t 20) (.c (.int .i32 (.ofNat 65533)))⟩,⟨some 22,none,.mov (.t 21)⟩,⟨some 23,some (22,false),.mov (.t 6)⟩,⟨some 24,some (22,false),.bin .gtr (.t 23) (.c (j 1))⟩,⟨some 25,none,.pick (.t 22) (.c (.bool true)) (.t 24)⟩,⟨some 26,none,.mov (.t 0)⟩,⟨some 27,none,.nilchk (.t 26)⟩,⟨some 28,none,.faddr 1 (.t 27)⟩,⟨some 29,none,.load false 1 (.t 28)⟩,⟨some 30,none,.call (.c (.func 104 [] [])) [.t 25,.t 29,.c (j 61)]⟩])
(.seq (.reg [⟨some 31,none,.mov (.t 5)⟩,⟨some 32,none,.bin .geq (.t 31) (.c (.int .i32 (.ofNat 32)))⟩,⟨some 33,none,.mov (.t 0)⟩,⟨some 34,none,.nilchk (.t 33)⟩,⟨some 35,none,.faddr 1 (.t 34)⟩,⟨some 36,none,.load false 1 (.t 35)⟩,⟨some 37,none,.call (.c (.func 104 [] [])) [.t 32,.t 36,.c (j 32)]⟩])
(.seq (.reg [⟨some 38,none,.mov (.t 0)⟩,⟨some 39,none,.nilchk (.t 38)⟩,⟨some 40,none,.faddr 1 (.t 39)⟩,⟨some 41,none,.load false 1 (.t 40)⟩,⟨some 42,none,.mov (.t 6)⟩,⟨some 43,none,.bin .add (.t 41) (.t 42)⟩,⟨some 44,none,.nilchk (.t 38)⟩,⟨some 45,none,.faddr 1 (.t 44)⟩,⟨none,none,.store 1 (.t 45) (.t 43)⟩])
(.seq (.reg [⟨some 46,none,.mov (.t 1)⟩,⟨some 47,none,.mov (.t 5)⟩,⟨some 48,none,.call (.c (.func 226 [] [])) [.t 46,.t 47]⟩,⟨some 4,none,.mov (.t 48)⟩])
(.ret)))))), [.tmp 4], (some 0)⟩
theorem amok183 : FnOk Tryz.prog 183 am183 := FnOk.mk' quiets Tryz.func183 (pols := []) (keep := some 0) (by kernel_rfl) rfl
def am187 : AFunc := ⟨2, .seq (.reg [⟨some 4,none,.mov (.c (.bool false))⟩])
(.seq (.reg [⟨some 5,none,.mov (.t 0)⟩,⟨some 6,none,.len true (.t 5)⟩,⟨some 7,none,.mov (.t 1)⟩,⟨some 8,none,.len true (.t 7)⟩,⟨some 9,none,.bin .geq (.t 6) (.t 8)⟩,⟨some 10,none,.mov (.t 9)⟩,⟨some 11,some (10,true),.mov (.t 0)⟩,⟨some 12,some (10,true),.mov (.t 1)⟩,⟨some 13,some (10,true),.len true (.t 12)⟩,⟨some 14,some (10,true),.sliceS (.t 11) none (some (.t 13))⟩,⟨some 15,some (10,true),.mov (.t 1)⟩,⟨some 16,some (10,true),.bin .eql (.t 14) (.t 15)⟩,⟨some 17,none,.pick (.t 10) (.t 16) (.c (.bool false))⟩,⟨some 4,none,.mov (.t 17)⟩])
(.ret)), [.tmp 4], none⟩
theorem amok187 : FnOk Tryz.prog 187 am187 := FnOk.mk' quiets Tryz.func187 (pols := []) (keep := none) (by kernel_rfl) rfl
def am188 : AFunc := ⟨2, .seq (.reg [⟨some 4,none,.mov (.c (.bool false))⟩])
(.seq (.reg [⟨some 5,none,.mov (.t 0)⟩,⟨some 6,none,.mov (.t 1)⟩,⟨some 7,none,.call (.c (.func 231 [] [])) [.t 5,.t 6]⟩,⟨some 8,none,.bin .geq (.t 7) (.c (j 0))⟩,⟨some 4,none,.mov (.t 8)⟩])
(.ret)), [.tmp 4], none⟩
theorem amok188 : FnOk Tryz.prog 188 am188 := FnOk.mk' quiets Tryz.func188 (pols := []) (keep := none) (by kernel_rfl) rfl
def am189 : AFunc := ⟨1, .seq (.reg [⟨some 2,none,.mov (.c (.bool false))⟩])
(.seq (.reg [⟨some 3,none,.mov (.t 0)⟩,⟨some 4,none,.call (.c (.func 141 [] [])) [.t 3]⟩,⟨some 5,none,.un .not (.t 4)⟩,⟨some 2,none,.mov (.t 5)⟩])
(.ret)), [.tmp 2], none⟩
theorem amok189 : FnOk Tryz.prog 189 am189 := FnOk.mk' quiets Tryz.func189 (pols := []) (keep := none) (by kernel_rfl) rfl
def am190 : AFunc := ⟨1, .seq (.reg [⟨some 1,none,.boxF 1 (.t 0)⟩,⟨some 2,none,.mov (.c (.nilf))⟩])
(.seq (.reg [⟨some 3,none,.mkf 232 [] [.t 1]⟩,⟨some 2,none,.mov (.t 3)⟩])
(.ret)), [.tmp 2], none⟩
theorem amok190 : FnOk Tryz.prog 190 am190 := FnOk.mk' quiets Tryz.func190 (pols := [(0, 0, .frz)]) (keep := none) (by kernel_rfl) rfl
def am191 : AFunc := ⟨1, .seq (.reg [⟨some 2,none,.mov (.c (j 0))⟩])
(.seq (.seq (.reg [⟨some 3,none,.mov (.t 0)⟩,⟨some 4,none,.nilchk (.t 3)⟩,⟨some 5,none,.faddr 0 (.t 4)⟩,⟨some 6,none,.load false 1 (.t 5)⟩,⟨some 7,none,.len false (.t 6)⟩,⟨some 8,none,.bin .eql (.t 7) (.c (j 0))⟩])
(.cond (.t 8) (.seq (.reg [⟨some 2,none,.mov (.c (j 0))⟩])
(.ret)) (.skip)))
(.seq (.reg [⟨some 9,none,.mov (.t 0)⟩,⟨some 10,none,.nilchk (.t 9)⟩,⟨some 11,none,.faddr 0 (.t 10)⟩,⟨some 12,none,.load false 1 (.t 11)⟩,⟨some 13,none,.iaddr 6 (.t 12) (.c (j 0))⟩,⟨some 14,none,.faddr 0 (.t 13)⟩,⟨some 15,none,.load false 1 (.t 14)⟩,⟨some 2,none,.mov (.t 15)⟩])
(.ret))), [.tmp 2], none⟩
theorem amok191 : FnOk Tryz.prog 191 am191 := FnOk.mk' quiets Tryz.func191 (pols := []) (keep := none) (by kernel_rfl) rfl
def am192 : AFunc := ⟨1, .seq (.reg [⟨some 2,none,.allocB z0 []⟩])
(.seq (.reg [⟨some 4,none,.mov (.t 0)⟩,⟨some 5,none,.call (.c (.func 233 [] [])) [.t 4]⟩,⟨some 6,none,.build z0 [(0,1,.t 5)]⟩,⟨some 3,none,.hole 12⟩,⟨some 3,none,.fill 12 ⟨.t 6, (some [])⟩⟩])
(.seq (.seq (.reg [⟨some 7,none,.mov (.t 0)⟩,⟨some 8,none,.call (.c (.func 156 [] [])) [.t 7,.c (j 4),.c (.str [40])]⟩])
(.cond (.t 8) (.seq (.reg [⟨some 9,none,.mov (.t 0)⟩,⟨some 10,none,.mov (.t 0)⟩,⟨some 11,none,.mov (.t 0)⟩,⟨some 12,none,.mkf 236 [.t 11] []⟩,⟨some 13,none,.call (.c (.func 235 [] [])) [.t 10,.t 12]⟩,⟨some 14,none,.call (.c (.func 234 [] [])) [.t 9,.c (.str [59]),.t 13]⟩,⟨some 15,none,.faddr 1 (.t 3)⟩,⟨none,none,.store 1 (.t 15) (.t 14)⟩])
(.reg [⟨some 16,none,.mov (.t 0)⟩,⟨some 17,none,.call (.c (.func 196 [] [])) [.t 16,.c (j 4),.c (.str [41])]⟩])) (.skip)))
(.seq (.reg [⟨some 18,none,.mov (.t 0)⟩,⟨some 19,none,.call (.c (.func 196 [] [])) [.t 18,.c (j 4),.c (.str [58])]⟩])
(.seq (.reg [⟨some 20,none,.mov (.t 0)⟩,⟨some 21,none,.call (.c (.func 106 [] [])) [.t 20]⟩,⟨some 22,none,.faddr 2 (.t 3)⟩,⟨none,none,.store 10 (.t 22) (.t 21)⟩])
(.seq (.reg [⟨some 23,none,.mov (.t 0)⟩,⟨some 24,none,.call (.c (.func 196 [] [])) [.t 23,.c (j 4),.c (.str [59])]⟩])
(.seq (.reg [⟨some 25,none,.load true 12 (.t 3)⟩,⟨none,none,.store 12 (.t 2) (.t 25)⟩])
(.ret))))))), [.cell 2 true 12], none⟩
theorem amok192 : FnOk Tryz.prog 192 am192 := FnOk.mk' quiets Tryz.func192 (pols := [(1, 4, .res []),(1, 3, .hole)]) (keep := none) (by kernel_rfl) rfl
def am193 : AFunc := ⟨3, .seq (.reg [⟨some 6,none,.allocB z1 []⟩])
(.seq (.reg [⟨some 7,none,.mov (.t 0)⟩,⟨some 8,none,.mov (.t 2)⟩,⟨some 9,none,.mov (.t 1)⟩,⟨some 10,none,.build z1 [(0,1,.t 7),(6,1,.t 8),(9,1,.t 9)]⟩,⟨none,none,.store 10 (.t 6) (.t 10)⟩])
(.ret)), [.cell 6 true 10], none⟩
theorem amok193 : FnOk Tryz.prog 193 am193 := FnOk.mk' quiets Tryz.func193 (pols := []) (keep := none) (by kernel_rfl) rfl
def am194 : AFunc := ⟨1, .seq (.reg [⟨some 2,none,.allocB z1 []⟩])
(.seq (.seq (.reg [⟨some 3,none,.mov (.t 0)⟩,⟨some 4,none,.nilchk (.t 3)⟩,⟨some 5,none,.faddr 0 (.t 4)⟩,⟨some 6,none,.load false 1 (.t 5)⟩,⟨some 7,none,.len false (.t 6)⟩,⟨some 8,none,.bin .eql (.t 7) (.c (j 0))⟩])
(.cond (.t 8) (.seq (.reg [⟨some 9,none,.mov (.t 0)⟩,⟨some 10,none,.nilchk (.t 9)⟩,⟨some 11,none,.faddr 1 (.t 10)⟩,⟨some 12,none,.load false 1 (.t 11)⟩,⟨some 13,none,.build z1 [(0,1,.c (j 1)),(9,1,.t 12)]⟩,⟨none,none,.store 10 (.t 2) (.t 13)⟩])
(.ret)) (.skip)))
(.seq (.reg [⟨some 14,none,.mov (.t 0)⟩,⟨some 15,none,.call (.c (.func 106 [] [])) [.t 14]⟩,⟨none,none,.store 10 (.t 2) (.t 15)⟩])
(.ret))), [.cell 2 true 10], none⟩
theorem amok194 : FnOk Tryz.prog 194 am194 := FnOk.mk' quiets Tryz.func194 (pols := []) (keep := none) (by kernel_rfl) rfl
def am195 : AFunc := ⟨2, .seq (.reg [⟨some 4,none,.mov (.c (.str []))⟩])
(.seq (.seq (.reg [⟨some 5,none,.mov (.t 0)⟩,⟨some 6,none,.call (.c (.func 191 [] [])) [.t 5]⟩,⟨some 7,none,.mov (.t 1)⟩,⟨some 8,none,.bin .neq (.t 6) (.t 7)⟩])
(.cond (.t 8) (.reg [⟨some 9,none,.mov (.t 0)⟩,⟨some 10,none,.call (.c (.func 107 [] [])) [.t 9]⟩]) (.skip)))
(.seq (.reg [⟨some 11,none,.mov (.t 0)⟩,⟨some 12,none,.call (.c (.func 199 [] [])) [.t 11]⟩,⟨some 13,none,.field false 1 1 (.t 12)⟩,⟨some 4,none,.mov (.t 13)⟩])
(.ret))), [.tmp 4], none⟩
theorem amok195 : FnOk Tryz.prog 195 am195 := FnOk.mk' quiets Tryz.func195 (pols := []) (keep := none) (by kernel_rfl) rfl
def am196 : AFunc := ⟨3, .seq (.reg [⟨some 6,none,.mov (.t 0)⟩,⟨some 7,none,.mov (.t 1)⟩,⟨some 8,none,.mov (.t 2)⟩,⟨some 9,none,.call (.c (.func 156 [] [])) [.t 6,.t 7,.t 8]⟩,⟨some 10,none,.un .not (.t 9)⟩])
(.cond (.t 10) (.reg [⟨some 11,none,.mov (.t 0)⟩,⟨some 12,none,.call (.c (.func 107 [] [])) [.t 11]⟩]) (.skip)), [], none⟩
theorem amok196 : FnOk Tryz.prog 196 am196 := FnOk.mk' quiets Tryz.func196 (pols := []) (keep := none) (by kernel_rfl) rfl
def am197 : AFunc := ⟨3, .seq (.reg [⟨some 6,none,.resv 10⟩])
(.seq (.reg [⟨some 8,none,.mov (.t 2)⟩,⟨some 9,none,.call (.t 8) []⟩,⟨some 10,none,.bslR 10 z1 1 [(0,10,.t 9)]⟩,⟨some 7,none,.mov (.t 10)⟩])
(.seq (.block 0 (.loop (.seq (.seq (.reg [⟨some 11,none,.mov (.t 0)⟩,⟨some 12,none,.mov (.t 1)⟩,⟨some 13,none,.call (.c (.func 156 [] [])) [.t 11,.c (j 4),.t 12]⟩])
(.cond (.t 13) (.skip) (.exit 0)))
(.block 1 (.reg [⟨some 14,none,.mov (.t 7)⟩,⟨some 15,none,.mov (.t 2)⟩,⟨some 16,none,.call (.t 15) []⟩,⟨some 17,none,.bslF z1 1 [(0,10,.t 16)]⟩,⟨some 18,none,.append 10 160 (.t 14) (.t 17)⟩,⟨some 7,none,.mov (.t 18)⟩])))))
(.seq (.reg [⟨some 19,none,.mov (.t 7)⟩,⟨some 6,none,.mov (.t 19)⟩])
(.ret)))), [.tmp 6], none⟩
theorem amok197 : FnOk Tryz.prog 197 am197 := FnOk.mk' quiets Tryz.func197 (pols := [(0, 0, .res [(0,10)]),(3, 3, .frz)]) (keep := none) (by kernel_rfl) rfl
def am198 : AFunc := ⟨1, .seq (.reg [⟨some 2,none,.allocB z1 []⟩])
(.seq (.reg [⟨some 7,none,.mov (.t 0)⟩,⟨some 8,none,.mov (.t 0)⟩,⟨some 9,none,.mkf 237 [.t 8] []⟩,⟨some 10,none,.call (.c (.func 197 [] [])) [.t 7,.c (.str [47,47]),.t 9]⟩,⟨some 3,none,.mov (.t 10)⟩])
(.seq (.reg [⟨some 11,none,.mov (.t 3)⟩,⟨some 12,none,.mov (.t 3)⟩,⟨some 13,none,.len false (.t 12)⟩,⟨some 14,none,.bin .sub (.t 13) (.c (j 1))⟩,⟨some 15,none,.iaddr 10 (.t 11) (.t 14)⟩,⟨some 16,none,.load true 10 (.t 15)⟩,⟨some 4,none,.hole 10⟩,⟨some 4,none,.fill 10 ⟨.t 16, (some [])⟩⟩])
(.seq (.seq (.reg [⟨some 17,none,.mov (.t 3)⟩,⟨some 18,none,.mov (.t 3)⟩,⟨some 19,none,.len false (.t 18)⟩,⟨some 20,none,.bin .sub (.t 19) (.c (j 1))⟩,⟨some 21,none,.sliceL 10 (.t 17) none (some (.t 20)) none⟩,⟨some 22,none,.call (.c (.func 238 [] [])) [.t 21]⟩])
(.block 0 (.rangeF (.t 22) [23,24] (.reg [⟨some 6,none,.hole 10⟩,⟨some 6,none,.fill 10 ⟨.t 24, none⟩⟩]) (.block 1 (.reg [⟨some 25,none,.load true 10 (.t 6)⟩,⟨some 26,none,.load true 10 (.t 4)⟩,⟨some 27,none,.call (.c (.func 239 [] [])) [.c (.str [47,47]),.t 25,.t 26]⟩,⟨none,none,.store 10 (.t 4) (.t 27)⟩])))))
(.seq (.reg [⟨some 28,none,.load true 10 (.t 4)⟩,⟨none,none,.store 10 (.t 2) (.t 28)⟩])
(.ret))))), [.cell 2 true 10], none⟩
theorem amok198 : FnOk Tryz.prog 198 am198 := FnOk.mk' quiets Tryz.func198 (pols := [(2, 7, .res []),(2, 6, .hole),(4, 0, .hole),(4, 1, .hole)]) (keep := none) (by kernel_rfl) rfl
def am199 : AFunc := ⟨1, .seq (.reg [⟨some 2,none,.allocB z9 []⟩])
(.seq (.reg [⟨some 4,none,.mov (.t 0)⟩,⟨some 5,none,.nilchk (.t 4)⟩,⟨some 6,none,.faddr 0 (.t 5)⟩,⟨some 7,none,.load false 1 (.t 6)⟩,⟨some 8,none,.iaddr 6 (.t 7) (.c (j 0))⟩,⟨some 9,none,.load true 6 (.t 8)⟩,⟨some 3,none,.hole 6⟩,⟨some 3,none,.fill 6 ⟨.t 9, none⟩⟩])
(.seq (.dreg [(⟨some 10,none,.mov (.t 0)⟩,0,0),(⟨some 11,none,.mov (.t 0)⟩,0,0),(⟨some 12,none,.mov (.t 0)⟩,0,0),(⟨some 13,none,.nilchk (.t 12)⟩,0,0),(⟨some 14,none,.faddr 0 (.t 13)⟩,0,0),(⟨some 15,none,.load false 1 (.t 14)⟩,5,0),(⟨some 16,none,.sliceL 6 (.t 15) (some (.c (j 1))) none none⟩,0,0),(⟨some 17,none,.faddr 0 (.t 3)⟩,0,0),(⟨some 18,none,.load false 1 (.t 17)⟩,8,12),(⟨some 19,none,.nilchk (.t 10)⟩,0,0),(⟨some 20,none,.faddr 0 (.t 19)⟩,0,0),(⟨none,none,.store 1 (.t 20) (.t 16)⟩,0,0),(⟨some 21,none,.nilchk (.t 11)⟩,0,0),(⟨some 22,none,.faddr 3 (.t 21)⟩,0,0),(⟨none,none,.store 1 (.t 22) (.t 18)⟩,0,0)])
(.seq (.reg [⟨some 23,none,.load true 6 (.t 3)⟩,⟨none,none,.store 6 (.t 2) (.t 23)⟩])
(.ret)))), [.cell 2 true 6], none⟩
theorem amok199 : FnOk Tryz.prog 199 am199 := FnOk.mk' quiets Tryz.func199 (pols := [(1, 6, .hole),(1, 7, .hole)]) (keep := none) (by kernel_rfl) rfl
def am200 : AFunc := ⟨2, .seq (.reg [⟨some 4,none,.mov (.c (j 0))⟩])
(.seq (.reg [⟨some 5,none,.mov (.c (j 0))⟩])
(.seq (.seq (.reg [⟨some 8,none,.mov (.t 0)⟩,⟨some 9,none,.len false (.t 8)⟩,⟨some 10,none,.mov (.c (j 0))⟩])
(.block 0 (.loop (.seq (.reg [⟨some 11,none,.bin .lss (.t 10) (.t 9)⟩])
(.seq (.cond (.t 11) (.skip) (.exit 0))
(.seq (.block 1 (.seq (.reg [⟨some 12,none,.iaddr 4 (.t 8) (.t 10)⟩,⟨some 13,none,.load true 4 (.t 12)⟩,⟨some 7,none,.hole 4⟩,⟨some 7,none,.fill 4 ⟨.t 13, none⟩⟩])
(.seq (.reg [⟨some 14,none,.mov (.t 1)⟩,⟨some 15,none,.bin .gtr (.t 14) (.c (j 0))⟩])
(.cond (.t 15) (.reg [⟨some 16,none,.mov (.t 5)⟩,⟨some 17,none,.faddr 3 (.t 7)⟩,⟨some 18,none,.load false 1 (.t 17)⟩,⟨some 19,none,.mov (.t 1)⟩,⟨some 20,none,.bin .sub (.t 19) (.c (j 1))⟩,⟨some 21,none,.call (.c (.func 200 [] [])) [.t 18,.t 20]⟩,⟨some 22,none,.bin .add (.c (j 1)) (.t 21)⟩,⟨some 23,none,.maxs (.t 16) [.t 22]⟩,⟨some 5,none,.mov (.t 23)⟩]) (.skip)))))
(.reg [⟨some 24,none,.bin .add (.t 10) (.c (j 1))⟩,⟨some 10,none,.mov (.t 24)⟩])))))))
(.seq (.reg [⟨some 25,none,.mov (.t 5)⟩,⟨some 4,none,.mov (.t 25)⟩])
(.ret)))), [.tmp 4], none⟩
theorem amok200 : FnOk Tryz.prog 200 am200 := FnOk.mk' quiets Tryz.func200 (pols := [(4, 2, .hole),(4, 3, .hole)]) (keep := none) (by kernel_rfl) rfl
def am201 : AFunc := ⟨2, .seq (.reg [⟨some 2,none,.boxB 1 (.t 0) []⟩])
(.seq (.reg [⟨some 6,none,.mkf 202 [] [.t 2]⟩,⟨some 3,none,.mov (.t 6)⟩])
(.seq (.seq (.reg [⟨some 7,none,.faddr 6 (.t 1)⟩,⟨some 8,none,.load false 1 (.t 7)⟩,⟨some 9,none,.mov (.t 3)⟩,⟨some 10,none,.call (.c (.func 203 [] [])) [.t 8,.t 9]⟩,⟨some 11,none,.mov (.t 10)⟩,⟨some 12,some (11,false),.faddr 7 (.t 1)⟩,⟨some 13,some (11,false),.load false 1 (.t 12)⟩,⟨some 14,some (11,false),.mkf 205 [] [.t 2]⟩,⟨some 15,some (11,false),.call (.c (.func 204 [] [])) [.t 13,.t 14]⟩,⟨some 16,none,.pick (.t 11) (.c (.bool true)) (.t 15)⟩])
(.cond (.t 16) (.ret) (.skip)))
(.seq (.reg [⟨some 17,none,.faddr 8 (.t 1)⟩,⟨some 18,none,.load false 1 (.t 17)⟩,⟨some 19,none,.len false (.t 18)⟩,⟨some 20,none,.mov (.c (j 0))⟩])
(.block 0 (.loop (.seq (.reg [⟨some 21,none,.bin .lss (.t 20) (.t 19)⟩])
(.seq (.cond (.t 21) (.skip) (.exit 0))
(.seq (.block 1 (.seq (.reg [⟨some 22,none,.iaddr 12 (.t 18) (.t 20)⟩,⟨some 23,none,.load true 12 (.t 22)⟩,⟨some 5,none,.hole 12⟩,⟨some 5,none,.fill 12 ⟨.t 23, none⟩⟩])
(.seq (.reg [⟨some 24,none,.mov (.t 3)⟩,⟨some 25,none,.faddr 2 (.t 5)⟩,⟨some 26,none,.load true 10 (.t 25)⟩,⟨some 27,none,.call (.t 24) [.t 26]⟩])
(.cond (.t 27) (.ret) (.skip)))))
(.reg [⟨some 28,none,.bin .add (.t 20) (.c (j 1))⟩,⟨some 20,none,.mov (.t 28)⟩]))))))))), [], none⟩
theorem amok201 : FnOk Tryz.prog 201 am201 := FnOk.mk' quiets Tryz.func201 (pols := [(5, 2, .hole),(5, 3, .hole)]) (keep := none) (by kernel_rfl) rfl
def am202 : AFunc := ⟨2, .seq (.reg [⟨some 2,none,.boxB 10 (.t 0) []⟩,⟨some 3,none,.mov (.c (.bool false))⟩])
(.seq (.reg [⟨some 4,none,.load false 1 (.t 1)⟩,⟨some 5,none,.load true 10 (.t 2)⟩,⟨some 6,none,.call (.t 4) [.t 5]⟩,⟨some 7,none,.un .not (.t 6)⟩,⟨some 3,none,.mov (.t 7)⟩])
(.ret)), [.tmp 3], none⟩
theorem amok202 : FnOk Tryz.prog 202 am202 := FnOk.mk' quiets Tryz.func202 (pols := []) (keep := none) (by kernel_rfl) rfl
def am203 : AFunc := ⟨2, .seq (.reg [⟨some 4,none,.mov (.c (.bool false))⟩])
(.seq (.reg [⟨some 5,none,.mov (.t 0)⟩,⟨some 6,none,.mov (.t 1)⟩,⟨some 7,none,.call (.c (.func 240 [] [])) [.t 5,.t 6]⟩,⟨some 8,none,.bin .geq (.t 7) (.c (j 0))⟩,⟨some 4,none,.mov (.t 8)⟩])
(.ret)), [.tmp 4], none⟩
theorem amok203 : FnOk Tryz.prog 203 am203 := FnOk.mk' quiets Tryz.func203 (pols := []) (keep := none) (by kernel_rfl) rfl
def am204 : AFunc := ⟨2, .seq (.reg [⟨some 4,none,.mov (.c (.bool false))⟩])
(.seq (.reg [⟨some 5,none,.mov (.t 0)⟩,⟨some 6,none,.mov (.t 1)⟩,⟨some 7,none,.call (.c (.func 241 [] [])) [.t 5,.t 6]⟩,⟨some 8,none,.bin .geq (.t 7) (.c (j 0))⟩,⟨some 4,none,.mov (.t 8)⟩])
(.ret)), [.tmp 4], none⟩
theorem amok204 : FnOk Tryz.prog 204 am204 := FnOk.mk' quiets Tryz.func204 (pols := []) (keep := none) (by kernel_rfl) rfl
def am205 : AFunc := ⟨2, .seq (.reg [⟨some 2,none,.boxF 4 (.t 0)⟩,⟨some 3,none,.mov (.c (.bool false))⟩])
(.seq (.reg [⟨some 4,none,.load true 4 (.t 2)⟩,⟨some 5,none,.load false 1 (.t 1)⟩,⟨some 6,none,.call (.c (.func 206 [] [])) [.t 4,.t 5]⟩,⟨some 7,none,.un .not (.t 6)⟩,⟨some 3,none,.mov (.t 7)⟩])
(.ret)), [.tmp 3], none⟩
theorem amok205 : FnOk Tryz.prog 205 am205 := FnOk.mk' quiets Tryz.func205 (pols := [(0, 0, .frz)]) (keep := none) (by kernel_rfl) rfl
def am206 : AFunc := ⟨2, .seq (.reg [⟨some 2,none,.boxF 4 (.t 0)⟩,⟨some 3,none,.boxB 1 (.t 1) []⟩,⟨some 4,none,.mov (.c (.bool false))⟩])
(.seq (.reg [⟨some 5,none,.faddr 2 (.t 2)⟩,⟨some 6,none,.load false 1 (.t 5)⟩,⟨some 7,none,.mkf 242 [] [.t 3]⟩,⟨some 8,none,.call (.c (.func 203 [] [])) [.t 6,.t 7]⟩,⟨some 9,none,.un .not (.t 8)⟩,⟨some 10,none,.mov (.t 9)⟩,⟨some 11,some (10,true),.faddr 3 (.t 2)⟩,⟨some 12,some (10,true),.load false 1 (.t 11)⟩,⟨some 13,some (10,true),.mkf 243 [] [.t 3]⟩,⟨some 14,some (10,true),.call (.c (.func 204 [] [])) [.t 12,.t 13]⟩,⟨some 15,some (10,true),.un .not (.t 14)⟩,⟨some 16,none,.pick (.t 10) (.t 15) (.c (.bool false))⟩,⟨some 4,none,.mov (.t 16)⟩])
(.ret)), [.tmp 4], none⟩
theorem amok206 : FnOk Tryz.prog 206 am206 := FnOk.mk' quiets Tryz.func206 (pols := [(0, 0, .frz)]) (keep := none) (by kernel_rfl) rfl
def am208 : AFunc := ⟨1, .seq (.reg [⟨some 2,none,.mov (.c (.bool false))⟩])
(.seq (.reg [⟨some 5,none,.bslF z20 15 [(0,1,.c (.str [100,101,102])),(1,1,.c (.str [105,102])),(2,1,.c (.str [116,104,101,110])),(3,1,.c (.str [101,108,105,102])),(4,1,.c (.str [101,108,115,101])),(5,1,.c (.str [101,110,100])),(6,1,.c (.str [97,115])),(7,1,.c (.str [116,114,121])),(8,1,.c (.str [99,97,116,99,104])),(9,1,.c (.str [114,101,100,117,99,101])),(10,1,.c (.str [102,111,114,101,97,99,104])),(11,1,.c (.str [108,97,98,101,108])),(12,1,.c (.str [98,114,101,97,107])),(13,1,.c (.str [111,114])),(14,1,.c (.str [97,110,100]))]⟩,⟨some 3,none,.mov (.t 5)⟩])
(.seq (.seq (.reg [⟨some 4,none,.mov (.c (j 0))⟩])
(.block 0 (.loop (.seq (.seq (.reg [⟨some 6,none,.mov (.t 4)⟩,⟨some 7,none,.mov (.t 3)⟩,⟨some 8,none,.len false (.t 7)⟩,⟨some 9,none,.bin .lss (.t 6) (.t 8)⟩])
(.cond (.t 9) (.skip) (.exit 0)))
(.seq (.block 1 (.seq (.reg [⟨some 12,none,.mov (.t 3)⟩,⟨some 13,none,.mov (.t 4)⟩,⟨some 14,none,.iaddr 1 (.t 12) (.t 13)⟩,⟨some 15,none,.load false 1 (.t 14)⟩,⟨some 16,none,.mov (.t 0)⟩,⟨some 17,none,.bin .eql (.t 15) (.t 16)⟩])
(.cond (.t 17) (.seq (.reg [⟨some 2,none,.mov (.c (.bool true))⟩])
(.ret)) (.skip))))
(.reg [⟨some 10,none,.mov (.t 4)⟩,⟨some 11,none,.bin .add (.t 10) (.c (j 1))⟩,⟨some 4,none,.mov (.t 11)⟩]))))))
(.seq (.reg [⟨some 2,none,.mov (.c (.bool false))⟩])
(.ret)))), [.tmp 2], none⟩
theorem amok208 : FnOk Tryz.prog 208 am208 := FnOk.mk' quiets Tryz.func208 (pols := [(1, 0, .frz)]) (keep := none) (by kernel_rfl) rfl
def am209 : AFunc := ⟨1, .seq (.reg [⟨some 2,none,.mov (.c (.nilsl))⟩])
(.seq (.reg [⟨some 4,none,.mov (.t 0)⟩,⟨some 5,none,.len false (.t 4)⟩,⟨some 3,none,.mov (.t 5)⟩])
(.seq (.block 0 (.loop (.seq (.seq (.reg [⟨some 6,none,.mov (.t 3)⟩,⟨some 7,none,.bin .gtr (.t 6) (.c (j 0))⟩,⟨some 8,none,.mov (.t 7)⟩,⟨some 9,some (8,true),.mov (.t 0)⟩,⟨some 10,some (8,true),.mov (.t 3)⟩,⟨some 11,some (8,true),.bin .sub (.t 10) (.c (j 1))⟩,⟨some 12,some (8,true),.iaddr 1 (.t 9) (.t 11)⟩,⟨some 13,some (8,true),.load false 1 (.t 12)⟩,⟨some 14,some (8,true),.bin .eql (.t 13) (.c (j 0))⟩,⟨some 15,none,.pick (.t 8) (.t 14) (.c (.bool false))⟩])
(.cond (.t 15) (.skip) (.exit 0)))
(.block 1 (.reg [⟨some 16,none,.mov (.t 3)⟩,⟨some 17,none,.bin .sub (.t 16) (.c (j 1))⟩,⟨some 3,none,.mov (.t 17)⟩])))))
(.seq (.reg [⟨some 18,none,.mov (.t 0)⟩,⟨some 19,none,.mov (.t 3)⟩,⟨some 20,none,.sliceL 1 (.t 18) none (some (.t 19)) none⟩,⟨some 2,none,.mov (.t 20)⟩])
(.ret)))), [.tmp 2], none⟩
theorem amok209 : FnOk Tryz.prog 209 am209 := FnOk.mk' quiets Tryz.func209 (pols := []) (keep := none) (by kernel_rfl) rfl
def am210 : AFunc := ⟨1, .seq (.reg [⟨some 2,none,.resv 1⟩])
(.seq (.reg [⟨some 3,none,.resv 1⟩])
(.seq (.reg [⟨some 4,none,.resv 1⟩])
(.seq (.reg [⟨some 7,none,.mov (.t 4)⟩,⟨some 8,none,.mov (.t 0)⟩,⟨some 9,none,.append 1 8 (.t 7) (.t 8)⟩,⟨some 4,none,.mov (.t 9)⟩])
(.seq (.block 0 (.loop (.seq (.seq (.reg [⟨some 10,none,.mov (.t 4)⟩,⟨some 11,none,.len false (.t 10)⟩,⟨some 12,none,.bin .gtr (.t 11) (.c (j 0))⟩])
(.cond (.t 12) (.skip) (.exit 0)))
(.block 1 (.seq (.reg [⟨some 5,none,.mov (.c (j 0))⟩])
(.seq (.seq (.reg [⟨some 13,none,.mov (.t 4)⟩,⟨some 14,none,.len false (.t 13)⟩,⟨some 15,none,.bin .sub (.t 14) (.c (j 1))⟩,⟨some 6,none,.mov (.t 15)⟩])
(.block 2 (.loop (.seq (.seq (.reg [⟨some 16,none,.mov (.t 6)⟩,⟨some 17,none,.bin .geq (.t 16) (.c (j 0))⟩])
(.cond (.t 17) (.skip) (.exit 2)))
(.seq (.block 3 (.seq (.reg [⟨some 20,none,.mov (.t 5)⟩,⟨some 21,none,.bin .mul (.t 20) (.c (j 10))⟩,⟨some 22,none,.mov (.t 4)⟩,⟨some 23,none,.mov (.t 6)⟩,⟨some 24,none,.iaddr 1 (.t 22) (.t 23)⟩,⟨some 25,none,.load false 1 (.t 24)⟩,⟨some 26,none,.bin .add (.t 21) (.t 25)⟩,⟨some 5,none,.mov (.t 26)⟩])
(.seq (.reg [⟨some 27,none,.mov (.t 4)⟩,⟨some 28,none,.mov (.t 6)⟩,⟨some 29,none,.mov (.t 5)⟩,⟨some 30,none,.bin .shr (.t 29) (.c (.int .u64 (.ofNat 32)))⟩,⟨some 31,none,.iaddr 1 (.t 27) (.t 28)⟩,⟨none,none,.store 1 (.t 31) (.t 30)⟩])
(.reg [⟨some 32,none,.mov (.t 5)⟩,⟨some 33,none,.mov (.t 4)⟩,⟨some 34,none,.mov (.t 6)⟩,⟨some 35,none,.iaddr 1 (.t 33) (.t 34)⟩,⟨some 36,none,.load false 1 (.t 35)⟩,⟨some 37,none,.bin .shl (.t 36) (.c (.int .u64 (.ofNat 32)))⟩,⟨some 38,none,.bin .sub (.t 32) (.t 37)⟩,⟨some 5,none,.mov (.t 38)⟩]))))
(.reg [⟨some 18,none,.mov (.t 6)⟩,⟨some 19,none,.bin .sub (.t 18) (.c (j 1))⟩,⟨some 6,none,.mov (.t 19)⟩]))))))
(.seq (.reg [⟨some 39,none,.mov (.t 3)⟩,⟨some 40,none,.mov (.t 5)⟩,⟨some 41,none,.convI .u32 (.t 40)⟩,⟨some 42,none,.bslF z19 1 [(0,1,.t 41)]⟩,⟨some 43,none,.append 1 4 (.t 39) (.t 42)⟩,⟨some 3,none,.mov (.t 43)⟩])
(.reg [⟨some 44,none,.mov (.t 4)⟩,⟨some 45,none,.call (.c (.func 245 [] [])) [.t 44]⟩,⟨some 4,none,.mov (.t 45)⟩]))))))))
(.seq (.reg [⟨some 46,none,.mov (.t 3)⟩,⟨some 2,none,.mov (.t 46)⟩])
(.ret)))))), [.tmp 2], none⟩
theorem amok210 : FnOk Tryz.prog 210 am210 := FnOk.mk' quiets Tryz.func210 (pols := [(0, 0, .res [(0,1)]),(1, 0, .res [(0,1)]),(2, 0, .res [(0,1)]),(12, 3, .frz)]) (keep := none) (by kernel_rfl) rfl
def am211 : AFunc := ⟨1, .seq (.reg [⟨some 2,none,.allocB z1 []⟩])
(.seq (.reg [⟨some 4,none,.mov (.t 0)⟩,⟨some 5,none,.call (.c (.func 246 [] [])) [.t 4]⟩,⟨some 3,none,.hole 10⟩,⟨some 3,none,.fill 10 ⟨.t 5, (some [])⟩⟩])
(.seq (.block 0 (.loop (.seq (.seq (.reg [⟨some 6,none,.mov (.t 0)⟩,⟨some 7,none,.call (.c (.func 91 [] [])) [.t 6,.c (j 1),.c (.str [111,114])]⟩])
(.cond (.t 7) (.skip) (.exit 0)))
(.block 1 (.dreg [(⟨some 8,none,.load true 10 (.t 3)⟩,0,3),(⟨some 9,none,.mov (.t 0)⟩,0,0),(⟨some 10,none,.call (.c (.func 246 [] [])) [.t 9]⟩,0,0),(⟨some 11,none,.call (.c (.func 174 [] [])) [.c (.str [111,114]),.t 8,.t 10]⟩,0,0),(⟨none,none,.store 10 (.t 3) (.t 11)⟩,0,0)])))))
(.seq (.reg [⟨some 12,none,.load true 10 (.t 3)⟩,⟨none,none,.store 10 (.t 2) (.t 12)⟩])
(.ret)))), [.cell 2 true 10], none⟩
theorem amok211 : FnOk Tryz.prog 211 am211 := FnOk.mk' quiets Tryz.func211 (pols := [(1, 3, .res []),(1, 2, .hole)]) (keep := none) (by kernel_rfl) rfl
def am212 : AFunc := ⟨2, .seq (.reg [⟨some 4,none,.mov (.c (.str []))⟩])
(.seq (.seq (.reg [⟨some 5,none,.mov (.c (j 0))⟩])
(.block 0 (.loop (.seq (.seq (.reg [⟨some 6,none,.mov (.t 5)⟩,⟨some 7,none,.mov (.t 1)⟩,⟨some 8,none,.len false (.t 7)⟩,⟨some 9,none,.bin .lss (.t 6) (.t 8)⟩])
(.cond (.t 9) (.skip) (.exit 0)))
(.seq (.block 1 (.seq (.reg [⟨some 12,none,.mov (.t 0)⟩,⟨some 13,none,.mov (.t 1)⟩,⟨some 14,none,.mov (.t 5)⟩,⟨some 15,none,.iaddr 1 (.t 13) (.t 14)⟩,⟨some 16,none,.load false 1 (.t 15)⟩,⟨some 17,none,.call (.c (.func 91 [] [])) [.t 12,.c (j 4),.t 16]⟩])
(.cond (.t 17) (.seq (.reg [⟨some 18,none,.mov (.t 1)⟩,⟨some 19,none,.mov (.t 5)⟩,⟨some 20,none,.iaddr 1 (.t 18) (.t 19)⟩,⟨some 21,none,.load false 1 (.t 20)⟩,⟨some 4,none,.mov (.t 21)⟩])
(.ret)) (.skip))))
(.reg [⟨some 10,none,.mov (.t 5)⟩,⟨some 11,none,.bin .add (.t 10) (.c (j 1))⟩,⟨some 5,none,.mov (.t 11)⟩]))))))
(.seq (.reg [⟨some 4,none,.mov (.c (.str []))⟩])
(.ret))), [.tmp 4], none⟩
theorem amok212 : FnOk Tryz.prog 212 am212 := FnOk.mk' quiets Tryz.func212 (pols := []) (keep := none) (by kernel_rfl) rfl
def am213 : AFunc := ⟨2, .seq (.reg [⟨some 4,none,.mov (.c (.bool false))⟩])
(.seq (.seq (.reg [⟨some 5,none,.mov (.t 0)⟩,⟨some 6,none,.nilchk (.t 5)⟩,⟨some 7,none,.faddr 0 (.t 6)⟩,⟨some 8,none,.load false 1 (.t 7)⟩,⟨some 9,none,.bin .neq (.t 8) (.c (.str []))⟩,⟨some 10,none,.mov (.t 9)⟩,⟨some 11,some (10,true),.mov (.t 1)⟩,⟨some 12,some (10,true),.mov (.t 0)⟩,⟨some 13,some (10,true),.nilchk (.t 12)⟩,⟨some 14,some (10,true),.faddr 0 (.t 13)⟩,⟨some 15,some (10,true),.load false 1 (.t 14)⟩,⟨some 16,some (10,true),.indexS (.t 15) (.c (j 0))⟩,⟨some 17,some (10,true),.call (.c (.func 95 [] [])) [.t 11,.t 16]⟩,⟨some 18,some (10,true),.bin .geq (.t 17) (.c (j 0))⟩,⟨some 19,none,.pick (.t 10) (.t 18) (.c (.bool false))⟩])
(.cond (.t 19) (.seq (.reg [⟨some 20,none,.mov (.t 0)⟩,⟨some 21,none,.mov (.t 0)⟩,⟨some 22,none,.nilchk (.t 21)⟩,⟨some 23,none,.faddr 0 (.t 22)⟩,⟨some 24,none,.load false 1 (.t 23)⟩,⟨some 25,none,.sliceS (.t 24) (some (.c (j 1))) none⟩,⟨some 26,none,.nilchk (.t 20)⟩,⟨some 27,none,.faddr 0 (.t 26)⟩,⟨none,none,.store 1 (.t 27) (.t 25)⟩])
(.seq (.reg [⟨some 4,none,.mov (.c (.bool true))⟩])
(.ret))) (.skip)))
(.seq (.reg [⟨some 4,none,.mov (.c (.bool false))⟩])
(.ret))), [.tmp 4], none⟩
theorem amok213 : FnOk Tryz.prog 213 am213 := FnOk.mk' quiets Tryz.func213 (pols := []) (keep := none) (by kernel_rfl) rfl
def am214 : AFunc := ⟨1, .seq (.reg [⟨some 2,none,.mov (.c (.str []))⟩])
(.seq (.reg [⟨some 3,none,.mov (.c (j 0))⟩])
(.seq (.block 0 (.loop (.seq (.seq (.reg [⟨some 5,none,.mov (.t 3)⟩,⟨some 6,none,.mov (.t 0)⟩,⟨some 7,none,.nilchk (.t 6)⟩,⟨some 8,none,.faddr 0 (.t 7)⟩,⟨some 9,none,.load false 1 (.t 8)⟩,⟨some 10,none,.len true (.t 9)⟩,⟨some 11,none,.bin .lss (.t 5) (.t 10)⟩,⟨some 12,none,.mov (.t 11)⟩,⟨some 13,some (12,true),.mov (.t 0)⟩,⟨some 14,some (12,true),.nilchk (.t 13)⟩,⟨some 15,some (12,true),.faddr 0 (.t 14)⟩,⟨some 16,some (12,true),.load false 1 (.t 15)⟩,⟨some 17,some (12,true),.mov (.t 3)⟩,⟨some 18,some (12,true),.indexS (.t 16) (.t 17)⟩,⟨some 19,some (12,true),.bin .geq (.t 18) (.c (.int .u8 (.ofNat 48)))⟩,⟨some 20,none,.pick (.t 12) (.t 19) (.c (.bool false))⟩,⟨some 21,none,.mov (.t 20)⟩,⟨some 22,some (21,true),.mov (.t 0)⟩,⟨some 23,some (21,true),.nilchk (.t 22)⟩,⟨some 24,some (21,true),.faddr 0 (.t 23)⟩,⟨some 25,some (21,true),.load false 1 (.t 24)⟩,⟨some 26,some (21,true),.mov (.t 3)⟩,⟨some 27,some (21,true),.indexS (.t 25) (.t 26)⟩,⟨some 28,some (21,true),.bin .leq (.t 27) (.c (.int .u8 (.ofNat 57)))⟩,⟨some 29,none,.pick (.t 21) (.t 28) (.c (.bool false))⟩])
(.cond (.t 29) (.skip) (.exit 0)))
(.block 1 (.reg [⟨some 30,none,.mov (.t 3)⟩,⟨some 31,none,.bin .add (.t 30) (.c (j 1))⟩,⟨some 3,none,.mov (.t 31)⟩])))))
(.seq (.reg [⟨some 32,none,.mov (.t 0)⟩,⟨some 33,none,.nilchk (.t 32)⟩,⟨some 34,none,.faddr 0 (.t 33)⟩,⟨some 35,none,.load false 1 (.t 34)⟩,⟨some 36,none,.mov (.t 3)⟩,⟨some 37,none,.sliceS (.t 35) none (some (.t 36))⟩,⟨some 4,none,.mov (.t 37)⟩])
(.seq (.reg [⟨some 38,none,.mov (.t 0)⟩,⟨some 39,none,.mov (.t 0)⟩,⟨some 40,none,.nilchk (.t 39)⟩,⟨some 41,none,.faddr 0 (.t 40)⟩,⟨some 42,none,.load false 1 (.t 41)⟩,⟨some 43,none,.mov (.t 3)⟩,⟨some 44,none,.sliceS (.t 42) (some (.t 43)) none⟩,⟨some 45,none,.nilchk (.t 38)⟩,⟨some 46,none,.faddr 0 (.t 45)⟩,⟨none,none,.store 1 (.t 46) (.t 44)⟩])
(.seq (.reg [⟨some 47,none,.mov (.t 0)⟩,⟨some 48,none,.mov (.t 0)⟩,⟨some 49,none,.nilchk (.t 48)⟩,⟨some 50,none,.faddr 1 (.t 49)⟩,⟨some 51,none,.load false 1 (.t 50)⟩,⟨some 52,none,.mov (.t 51)⟩,⟨some 53,some (52,true),.mov (.t 3)⟩,⟨some 54,some (52,true),.bin .gtr (.t 53) (.c (j 0))⟩,⟨some 55,none,.pick (.t 52) (.t 54) (.c (.bool false))⟩,⟨some 56,none,.nilchk (.t 47)⟩,⟨some 57,none,.faddr 1 (.t 56)⟩,⟨none,none,.store 1 (.t 57) (.t 55)⟩])
(.seq (.reg [⟨some 58,none,.mov (.t 4)⟩,⟨some 2,none,.mov (.t 58)⟩])
(.ret))))))), [.tmp 2], none⟩
theorem amok214 : FnOk Tryz.prog 214 am214 := FnOk.mk' quiets Tryz.func214 (pols := []) (keep := none) (by kernel_rfl) rfl
def am215 : AFunc := ⟨2, .seq (.reg [⟨some 4,none,.mov (.c (.str []))⟩])
(.seq (.seq (.reg [⟨some 7,none,.mov (.t 0)⟩,⟨some 8,none,.bin .eql (.t 7) (.c (.str []))⟩,⟨some 9,none,.mov (.t 8)⟩,⟨some 10,some (9,false),.mov (.t 1)⟩,⟨some 11,some (9,false),.bin .eql (.t 10) (.c (.str []))⟩,⟨some 12,none,.pick (.t 9) (.c (.bool true)) (.t 11)⟩])
(.cond (.t 12) (.seq (.reg [⟨some 13,none,.mov (.t 0)⟩,⟨some 4,none,.mov (.t 13)⟩])
(.ret)) (.skip)))
(.seq (.seq (.reg [⟨some 14,none,.mov (.t 1)⟩,⟨some 15,none,.len true (.t 14)⟩,⟨some 16,none,.bin .eql (.t 15) (.c (j 1))⟩,⟨some 17,none,.mov (.t 16)⟩,⟨some 18,some (17,true),.mov (.t 1)⟩,⟨some 19,some (17,true),.indexS (.t 18) (.c (j 0))⟩,⟨some 20,some (17,true),.bin .lss (.t 19) (.c (.int .u8 (.ofNat 128)))⟩,⟨some 21,none,.pick (.t 17) (.t 20) (.c (.bool false))⟩])
(.cond (.t 21) (.seq (.reg [⟨some 22,none,.mov (.t 0)⟩,⟨some 23,none,.mov (.t 1)⟩,⟨some 24,none,.indexS (.t 23) (.c (j 0))⟩,⟨some 25,none,.call (.c (.func 247 [] [])) [.t 22,.t 24]⟩,⟨some 4,none,.mov (.t 25)⟩])
(.ret)) (.skip)))
(.seq (.seq (.reg [⟨some 27,none,.mov (.t 1)⟩,⟨some 28,none,.call (.c (.func 248 [] [])) [.t 27]⟩,⟨some 26,none,.mov (.t 28)⟩,⟨some 29,none,.extract (.t 26) 0⟩,⟨some 30,none,.extract (.t 26) 1⟩,⟨some 5,none,.hole 256⟩,⟨some 5,none,.fill 256 ⟨.t 29, (some [])⟩⟩,⟨some 6,none,.mov (.t 30)⟩])
(.seq (.reg [⟨some 31,none,.mov (.t 6)⟩])
(.cond (.t 31) (.seq (.reg [⟨some 32,none,.mov (.t 0)⟩,⟨some 33,none,.call (.c (.func 249 [] [])) [.t 32,.t 5]⟩,⟨some 4,none,.mov (.t 33)⟩])
(.ret)) (.skip))))
(.seq (.reg [⟨some 34,none,.mov (.t 0)⟩,⟨some 35,none,.mov (.t 1)⟩,⟨some 36,none,.call (.c (.func 250 [] [])) [.t 34,.t 35]⟩,⟨some 4,none,.mov (.t 36)⟩])
(.ret))))), [.tmp 4], none⟩
theorem amok215 : FnOk Tryz.prog 215 am215 := FnOk.mk' quiets Tryz.func215 (pols := [(5, 6, .res []),(5, 5, .hole)]) (keep := none) (by kernel_rfl) rfl
def am216 : AFunc := ⟨1, .seq (.reg [⟨some 2,none,.mov (.c (.bool false))⟩])
(.seq (.reg [⟨some 3,none,.mov (.t 0)⟩,⟨some 4,none,.bin .lss (.t 3) (.c (.int .u8 (.ofNat 48)))⟩,⟨some 5,none,.mov (.t 4)⟩,⟨some 6,some (5,false),.mov (.t 0)⟩,⟨some 7,some (5,false),.bin .gtr (.t 6) (.c (.int .u8 (.ofNat 57)))⟩,⟨some 8,none,.pick (.t 5) (.c (.bool true)) (.t 7)⟩,⟨some 2,none,.mov (.t 8)⟩])
(.ret)), [.tmp 2], none⟩
theorem amok216 : FnOk Tryz.prog 216 am216 := FnOk.mk' quiets Tryz.func216 (pols := []) (keep := none) (by kernel_rfl) rfl
def am217 : AFunc := ⟨2, .seq (.reg [⟨some 4,none,.mov (.c (.nilsl))⟩])
(.seq (.reg [⟨some 12,none,.mov (.t 0)⟩,⟨some 13,none,.len false (.t 12)⟩,⟨some 14,none,.mov (.t 1)⟩,⟨some 15,none,.len false (.t 14)⟩,⟨some 16,none,.bin .add (.t 13) (.t 15)⟩,⟨some 17,none,.msl 1 4 z19 (.t 16) (.t 16)⟩,⟨some 5,none,.mov (.t 17)⟩])
(.seq (.seq (.reg [⟨some 18,none,.mov (.t 0)⟩,⟨some 19,none,.len false (.t 18)⟩,⟨some 20,none,.mov (.c (j 0))⟩])
(.block 0 (.loop (.seq (.reg [⟨some 21,none,.bin .lss (.t 20) (.t 19)⟩])
(.seq (.cond (.t 21) (.skip) (.exit 0))
(.seq (.block 1 (.seq (.reg [⟨some 22,none,.mov (.t 20)⟩,⟨some 23,none,.iaddr 1 (.t 18) (.t 20)⟩,⟨some 24,none,.load false 1 (.t 23)⟩,⟨some 6,none,.mov (.t 22)⟩,⟨some 7,none,.mov (.t 24)⟩])
(.seq (.reg [⟨some 8,none,.mov (.c (.int .u64 (.ofNat 0)))⟩])
(.seq (.seq (.reg [⟨some 25,none,.mov (.t 1)⟩,⟨some 26,none,.len false (.t 25)⟩,⟨some 27,none,.mov (.c (j 0))⟩])
(.block 2 (.loop (.seq (.reg [⟨some 28,none,.bin .lss (.t 27) (.t 26)⟩])
(.seq (.cond (.t 28) (.skip) (.exit 2))
(.seq (.block 3 (.seq (.reg [⟨some 29,none,.mov (.t 27)⟩,⟨some 30,none,.iaddr 1 (.t 25) (.t 27)⟩,⟨some 31,none,.load false 1 (.t 30)⟩,⟨some 9,none,.mov (.t 29)⟩,⟨some 10,none,.mov (.t 31)⟩])
(.seq (.reg [⟨some 32,none,.mov (.t 7)⟩,⟨some 33,none,.convI .u64 (.t 32)⟩,⟨some 34,none,.mov (.t 10)⟩,⟨some 35,none,.convI .u64 (.t 34)⟩,⟨some 36,none,.bin .mul (.t 33) (.t 35)⟩,⟨some 37,none,.mov (.t 5)⟩,⟨some 38,none,.mov (.t 6)⟩,⟨some 39,none,.mov (.t 9)⟩,⟨some 40,none,.bin .add (.t 38) (.t 39)⟩,⟨some 41,none,.iaddr 1 (.t 37) (.t 40)⟩,⟨some 42,none,.load false 1 (.t 41)⟩,⟨some 43,none,.convI .u64 (.t 42)⟩,⟨some 44,none,.bin .add (.t 36) (.t 43)⟩,⟨some 45,none,.mov (.t 8)⟩,⟨some 46,none,.bin .add (.t 44) (.t 45)⟩,⟨some 11,none,.mov (.t 46)⟩])
(.reg [⟨some 47,none,.mov (.t 5)⟩,⟨some 48,none,.mov (.t 6)⟩,⟨some 49,none,.mov (.t 9)⟩,⟨some 50,none,.bin .add (.t 48) (.t 49)⟩,⟨some 51,none,.mov (.t 11)⟩,⟨some 52,none,.convI .u32 (.t 51)⟩,⟨some 53,none,.mov (.t 11)⟩,⟨some 54,none,.bin .shr (.t 53) (.c (.int .u64 (.ofNat 32)))⟩,⟨some 55,none,.iaddr 1 (.t 47) (.t 50)⟩,⟨none,none,.store 1 (.t 55) (.t 52)⟩,⟨some 8,none,.mov (.t 54)⟩]))))
(.reg [⟨some 56,none,.bin .add (.t 27) (.c (j 1))⟩,⟨some 27,none,.mov (.t 56)⟩])))))))
(.reg [⟨some 57,none,.mov (.t 5)⟩,⟨some 58,none,.mov (.t 6)⟩,⟨some 59,none,.mov (.t 1)⟩,⟨some 60,none,.len false (.t 59)⟩,⟨some 61,none,.bin .add (.t 58) (.t 60)⟩,⟨some 62,none,.mov (.t 8)⟩,⟨some 63,none,.convI .u32 (.t 62)⟩,⟨some 64,none,.iaddr 1 (.t 57) (.t 61)⟩,⟨none,none,.store 1 (.t 64) (.t 63)⟩])))))
(.reg [⟨some 65,none,.bin .add (.t 20) (.c (j 1))⟩,⟨some 20,none,.mov (.t 65)⟩])))))))
(.seq (.reg [⟨some 66,none,.mov (.t 5)⟩,⟨some 67,none,.call (.c (.func 220 [] [])) [.t 66]⟩,⟨some 4,none,.mov (.t 67)⟩])
(.ret)))), [.tmp 4], none⟩
theorem amok217 : FnOk Tryz.prog 217 am217 := FnOk.mk' quiets Tryz.func217 (pols := []) (keep := none) (by kernel_rfl) rfl
def am218 : AFunc := ⟨2, .seq (.reg [⟨some 4,none,.mov (.c (.nilsl))⟩])
(.seq (.seq (.reg [⟨some 12,none,.mov (.t 0)⟩,⟨some 13,none,.len false (.t 12)⟩,⟨some 14,none,.mov (.t 1)⟩,⟨some 15,none,.len false (.t 14)⟩,⟨some 16,none,.bin .lss (.t 13) (.t 15)⟩])
(.cond (.t 16) (.reg [⟨some 17,none,.mov (.t 1)⟩,⟨some 18,none,.mov (.t 0)⟩,⟨some 0,none,.mov (.t 17)⟩,⟨some 1,none,.mov (.t 18)⟩]) (.skip)))
(.seq (.reg [⟨some 19,none,.mov (.t 0)⟩,⟨some 20,none,.len false (.t 19)⟩,⟨some 21,none,.bin .add (.t 20) (.c (j 1))⟩,⟨some 22,none,.msl 1 4 z19 (.c (j 0)) (.t 21)⟩,⟨some 5,none,.mov (.t 22)⟩])
(.seq (.reg [⟨some 6,none,.mov (.c (.int .u32 (.ofNat 0)))⟩])
(.seq (.seq (.reg [⟨some 23,none,.mov (.t 0)⟩,⟨some 24,none,.len false (.t 23)⟩,⟨some 25,none,.mov (.c (j 0))⟩])
(.block 0 (.loop (.seq (.reg [⟨some 26,none,.bin .lss (.t 25) (.t 24)⟩])
(.seq (.cond (.t 26) (.skip) (.exit 0))
(.seq (.block 1 (.seq (.reg [⟨some 27,none,.mov (.t 25)⟩,⟨some 28,none,.iaddr 1 (.t 23) (.t 25)⟩,⟨some 29,none,.load false 1 (.t 28)⟩,⟨some 7,none,.mov (.t 27)⟩,⟨some 8,none,.mov (.t 29)⟩])
(.seq (.reg [⟨some 9,none,.mov (.c (.int .u32 (.ofNat 0)))⟩])
(.seq (.seq (.reg [⟨some 30,none,.mov (.t 7)⟩,⟨some 31,none,.mov (.t 1)⟩,⟨some 32,none,.len false (.t 31)⟩,⟨some 33,none,.bin .lss (.t 30) (.t 32)⟩])
(.cond (.t 33) (.reg [⟨some 34,none,.mov (.t 1)⟩,⟨some 35,none,.mov (.t 7)⟩,⟨some 36,none,.iaddr 1 (.t 34) (.t 35)⟩,⟨some 37,none,.load false 1 (.t 36)⟩,⟨some 9,none,.mov (.t 37)⟩]) (.skip)))
(.seq (.reg [⟨some 39,none,.mov (.t 8)⟩,⟨some 40,none,.mov (.t 9)⟩,⟨some 41,none,.mov (.t 6)⟩,⟨some 42,none,.call (.c (.func 251 [] [])) [.t 39,.t 40,.t 41]⟩,⟨some 38,none,.mov (.t 42)⟩,⟨some 43,none,.extract (.t 38) 0⟩,⟨some 44,none,.extract (.t 38) 1⟩,⟨some 10,none,.mov (.t 43)⟩,⟨some 11,none,.mov (.t 44)⟩])
(.reg [⟨some 45,none,.mov (.t 5)⟩,⟨some 46,none,.mov (.t 10)⟩,⟨some 47,none,.bslF z19 1 [(0,1,.t 46)]⟩,⟨some 48,none,.append 1 4 (.t 45) (.t 47)⟩,⟨some 49,none,.mov (.t 11)⟩,⟨some 5,none,.mov (.t 48)⟩,⟨some 6,none,.mov (.t 49)⟩]))))))
(.reg [⟨some 50,none,.bin .add (.t 25) (.c (j 1))⟩,⟨some 25,none,.mov (.t 50)⟩])))))))
(.seq (.reg [⟨some 51,none,.mov (.t 5)⟩,⟨some 52,none,.mov (.t 6)⟩,⟨some 53,none,.bslF z19 1 [(0,1,.t 52)]⟩,⟨some 54,none,.append 1 4 (.t 51) (.t 53)⟩,⟨some 55,none,.call (.c (.func 220 [] [])) [.t 54]⟩,⟨some 4,none,.mov (.t 55)⟩])
(.ret)))))), [.tmp 4], none⟩
theorem amok218 : FnOk Tryz.prog 218 am218 := FnOk.mk' quiets Tryz.func218 (pols := [(12, 2, .frz),(14, 2, .frz)]) (keep := none) (by kernel_rfl) rfl
def am219 : AFunc := ⟨1, .seq (.reg [⟨some 2,none,.mov (.c (.int .u32 (.ofNat 0)))⟩])
(.seq (.reg [⟨some 3,none,.mov (.c (.int .u32 (.ofNat 0)))⟩])
(.seq (.seq (.reg [⟨some 6,none,.mov (.t 0)⟩,⟨some 7,none,.convSB (.t 6)⟩,⟨some 8,none,.len false (.t 7)⟩,⟨some 9,none,.mov (.c (j 0))⟩])
(.block 0 (.loop (.seq (.reg [⟨some 10,none,.bin .lss (.t 9) (.t 8)⟩])
(.seq (.cond (.t 10) (.skip) (.exit 0))
(.seq (.block 1 (.seq (.reg [⟨some 11,none,.iaddr 1 (.t 7) (.t 9)⟩,⟨some 12,none,.load false 1 (.t 11)⟩,⟨some 5,none,.mov (.t 12)⟩])
(.reg [⟨some 13,none,.mov (.t 3)⟩,⟨some 14,none,.bin .mul (.t 13) (.c (.int .u32 (.ofNat 10)))⟩,⟨some 15,none,.mov (.t 5)⟩,⟨some 16,none,.bin .sub (.t 15) (.c (.int .u8 (.ofNat 48)))⟩,⟨some 17,none,.convI .u32 (.t 16)⟩,⟨some 18,none,.bin .add (.t 14) (.t 17)⟩,⟨some 3,none,.mov (.t 18)⟩])))
(.reg [⟨some 19,none,.bin .add (.t 9) (.c (j 1))⟩,⟨some 9,none,.mov (.t 19)⟩])))))))
(.seq (.reg [⟨some 20,none,.mov (.t 3)⟩,⟨some 2,none,.mov (.t 20)⟩])
(.ret)))), [.tmp 2], none⟩
theorem amok219 : FnOk Tryz.prog 219 am219 := FnOk.mk' quiets Tryz.func219 (pols := []) (keep := none) (by kernel_rfl) rfl
def am220 : AFunc := ⟨1, .seq (.reg [⟨some 2,none,.mov (.c (.nilsl))⟩])
(.seq (.block 0 (.loop (.seq (.seq (.reg [⟨some 3,none,.mov (.t 0)⟩,⟨some 4,none,.len false (.t 3)⟩,⟨some 5,none,.bin .gtr (.t 4) (.c (j 0))⟩,⟨some 6,none,.mov (.t 5)⟩,⟨some 7,some (6,true),.mov (.t 0)⟩,⟨some 8,some (6,true),.mov (.t 0)⟩,⟨some 9,some (6,true),.len false (.t 8)⟩,⟨some 10,some (6,true),.bin .sub (.t 9) (.c (j 1))⟩,⟨some 11,some (6,true),.iaddr 1 (.t 7) (.t 10)⟩,⟨some 12,some (6,true),.load false 1 (.t 11)⟩,⟨some 13,some (6,true),.bin .eql (.t 12) (.c (.int .u32 (.ofNat 0)))⟩,⟨some 14,none,.pick (.t 6) (.t 13) (.c (.bool false))⟩])
(.cond (.t 14) (.skip) (.exit 0)))
(.block 1 (.reg [⟨some 15,none,.mov (.t 0)⟩,⟨some 16,none,.mov (.t 0)⟩,⟨some 17,none,.len false (.t 16)⟩,⟨some 18,none,.bin .sub (.t 17) (.c (j 1))⟩,⟨some 19,none,.sliceL 1 (.t 15) none (some (.t 18)) none⟩,⟨some 0,none,.mov (.t 19)⟩])))))
(.seq (.seq (.reg [⟨some 20,none,.mov (.t 0)⟩,⟨some 21,none,.len false (.t 20)⟩,⟨some 22,none,.bin .eql (.t 21) (.c (j 0))⟩])
(.cond (.t 22) (.seq (.reg [⟨some 2,none,.mov (.c (.nilsl))⟩])
(.ret)) (.skip)))
(.seq (.reg [⟨some 23,none,.mov (.t 0)⟩,⟨some 2,none,.mov (.t 23)⟩])
(.ret)))), [.tmp 2], none⟩
theorem amok220 : FnOk Tryz.prog 220 am220 := FnOk.mk' quiets Tryz.func220 (pols := []) (keep := none) (by kernel_rfl) rfl
def am221 : AFunc := ⟨1, .seq (.reg [⟨some 1,none,.boxF 3 (.t 0)⟩,⟨some 2,none,.mov (.c (.bool false))⟩])
(.seq (.reg [⟨some 3,none,.faddr 0 (.t 1)⟩,⟨some 4,none,.faddr 1 (.t 3)⟩,⟨some 5,none,.load false 1 (.t 4)⟩,⟨some 6,none,.len false (.t 5)⟩,⟨some 7,none,.bin .eql (.t 6) (.c (j 0))⟩,⟨some 2,none,.mov (.t 7)⟩])
(.ret)), [.tmp 2], none⟩
theorem amok221 : FnOk Tryz.prog 221 am221 := FnOk.mk' quiets Tryz.func221 (pols := [(0, 0, .frz)]) (keep := none) (by kernel_rfl) rfl
def am222 : AFunc := ⟨1, .seq (.reg [⟨some 1,none,.boxB 3 (.t 0) []⟩,⟨some 2,none,.allocB z10 []⟩])
(.seq (.reg [⟨some 5,none,.faddr 0 (.t 1)⟩,⟨some 6,none,.faddr 1 (.t 5)⟩,⟨some 7,none,.load false 1 (.t 6)⟩,⟨some 8,none,.call (.c (.func 253 [] [])) [.t 7]⟩,⟨some 9,none,.extract (.t 8) 0⟩,⟨some 10,none,.extract (.t 8) 1⟩,⟨some 11,none,.call (.c (.func 252 [] [])) [.t 9,.t 10]⟩,⟨some 3,none,.mov (.t 11)⟩])
(.seq (.reg [⟨some 12,none,.mov (.t 3)⟩,⟨some 13,none,.call (.c (.func 254 [] [])) [.t 12,.c (.str [48])]⟩,⟨some 4,none,.mov (.t 13)⟩])
(.seq (.seq (.reg [⟨some 14,none,.mov (.t 4)⟩,⟨some 15,none,.len true (.t 14)⟩,⟨some 16,none,.mov (.t 3)⟩,⟨some 17,none,.len true (.t 16)⟩,⟨some 18,none,.bin .eql (.t 15) (.t 17)⟩])
(.cond (.t 18) (.seq (.reg [⟨some 19,none,.load true 3 (.t 1)⟩,⟨none,none,.store 3 (.t 2) (.t 19)⟩])
(.ret)) (.skip)))
(.seq (.reg [⟨some 20,none,.mov (.t 4)⟩,⟨some 21,none,.call (.c (.func 180 [] [])) [.t 20]⟩,⟨some 22,none,.extract (.t 21) 0⟩,⟨some 23,none,.extract (.t 21) 1⟩,⟨some 24,none,.call (.c (.func 179 [] [])) [.t 22,.t 23]⟩,⟨some 25,none,.faddr 0 (.t 1)⟩,⟨some 26,none,.faddr 1 (.t 25)⟩,⟨none,none,.store 1 (.t 26) (.t 24)⟩])
(.seq (.reg [⟨some 27,none,.faddr 0 (.t 1)⟩,⟨some 28,none,.faddr 2 (.t 27)⟩,⟨some 29,none,.load false 1 (.t 28)⟩,⟨some 30,none,.mov (.t 3)⟩,⟨some 31,none,.len true (.t 30)⟩,⟨some 32,none,.mov (.t 4)⟩,⟨some 33,none,.len true (.t 32)⟩,⟨some 34,none,.bin .sub (.t 31) (.t 33)⟩,⟨some 35,none,.bin .add (.t 29) (.t 34)⟩,⟨some 36,none,.faddr 0 (.t 1)⟩,⟨some 37,none,.faddr 2 (.t 36)⟩,⟨none,none,.store 1 (.t 37) (.t 35)⟩])
(.seq (.reg [⟨some 38,none,.load true 3 (.t 1)⟩,⟨none,none,.store 3 (.t 2) (.t 38)⟩])
(.ret))))))), [.cell 2 true 3], none⟩
theorem amok222 : FnOk Tryz.prog 222 am222 := FnOk.mk' quiets Tryz.func222 (pols := []) (keep := none) (by kernel_rfl) rfl
def am223 : AFunc := ⟨1, .seq (.reg [⟨some 2,none,.mov (.c (j 0))⟩])
(.seq (.reg [⟨some 6,none,.mov (.t 0)⟩,⟨some 7,none,.call (.c (.func 253 [] [])) [.t 6]⟩,⟨some 5,none,.mov (.t 7)⟩,⟨some 8,none,.extract (.t 5) 0⟩,⟨some 9,none,.extract (.t 5) 1⟩,⟨some 3,none,.mov (.t 8)⟩,⟨some 4,none,.mov (.t 9)⟩])
(.seq (.seq (.reg [⟨some 10,none,.mov (.t 0)⟩,⟨some 11,none,.len false (.t 10)⟩,⟨some 12,none,.bin .eql (.t 11) (.c (j 0))⟩])
(.cond (.t 12) (.seq (.reg [⟨some 2,none,.mov (.c (j 0))⟩])
(.ret)) (.skip)))
(.seq (.reg [⟨some 13,none,.mov (.t 3)⟩,⟨some 14,none,.len true (.t 13)⟩,⟨some 2,none,.mov (.t 14)⟩])
(.ret)))), [.tmp 2], none⟩
theorem amok223 : FnOk Tryz.prog 223 am223 := FnOk.mk' quiets Tryz.func223 (pols := []) (keep := none) (by kernel_rfl) rfl
def am225 : AFunc := ⟨1, .seq (.reg [⟨some 2,none,.mov (.c (.int .i32 (.ofNat 0)))⟩,⟨some 3,none,.mov (.c (j 0))⟩])
(.seq (.seq (.reg [⟨some 4,none,.mov (.t 0)⟩,⟨some 5,none,.bin .neq (.t 4) (.c (.str []))⟩,⟨some 6,none,.mov (.t 5)⟩,⟨some 7,some (6,true),.mov (.t 0)⟩,⟨some 8,some (6,true),.indexS (.t 7) (.c (j 0))⟩,⟨some 9,some (6,true),.bin .lss (.t 8) (.c (.int .u8 (.ofNat 128)))⟩,⟨some 10,none,.pick (.t 6) (.t 9) (.c (.bool false))⟩])
(.cond (.t 10) (.seq (.reg [⟨some 11,none,.mov (.t 0)⟩,⟨some 12,none,.indexS (.t 11) (.c (j 0))⟩,⟨some 13,none,.convI .i32 (.t 12)⟩,⟨some 2,none,.mov (.t 13)⟩,⟨some 3,none,.mov (.c (j 1))⟩])
(.ret)) (.reg [⟨some 15,none,.mov (.t 0)⟩,⟨some 16,none,.call (.c (.func 257 [] [])) [.t 15]⟩,⟨some 14,none,.mov (.t 16)⟩,⟨some 17,none,.extract (.t 14) 0⟩,⟨some 18,none,.extract (.t 14) 1⟩,⟨some 2,none,.mov (.t 17)⟩,⟨some 3,none,.mov (.t 18)⟩])))
(.ret)), [.tmp 2,.tmp 3], none⟩
theorem amok225 : FnOk Tryz.prog 225 am225 := FnOk.mk' quiets Tryz.func225 (pols := []) (keep := none) (by kernel_rfl) rfl
def am226 : AFunc := ⟨2, .seq (.reg [⟨some 4,none,.resv 1⟩])
(.seq (.seq (.reg [⟨some 5,none,.mov (.t 1)⟩,⟨some 6,none,.convI .u32 (.t 5)⟩,⟨some 7,none,.bin .leq (.t 6) (.c (.int .u32 (.ofNat 127)))⟩])
(.cond (.t 7) (.seq (.reg [⟨some 8,none,.mov (.t 0)⟩,⟨some 9,none,.mov (.t 1)⟩,⟨some 10,none,.convI .u8 (.t 9)⟩,⟨some 11,none,.bslF z8 1 [(0,1,.t 10)]⟩,⟨some 12,none,.append 1 1 (.t 8) (.t 11)⟩,⟨some 4,none,.mov (.t 12)⟩])
(.ret)) (.skip)))
(.seq (.reg [⟨some 13,none,.mov (.t 0)⟩,⟨some 14,none,.mov (.t 1)⟩,⟨some 15,none,.call (.c (.func 258 [] [])) [.t 13,.t 14]⟩,⟨some 4,none,.mov (.t 15)⟩])
(.ret))), [.tmp 4], (some 0)⟩
theorem amok226 : FnOk Tryz.prog 226 am226 := FnOk.mk' quiets Tryz.func226 (pols := [(0, 0, .res [(0,1)]),(2, 3, .frz)]) (keep := some 0) (by kernel_rfl) rfl
def am231 : AFunc := ⟨2, .seq (.reg [⟨some 4,none,.mov (.c (j 0))⟩])
(.seq (.seq (.reg [⟨some 6,none,.mov (.t 0)⟩,⟨some 7,none,.len false (.t 6)⟩,⟨some 8,none,.mov (.c (j 0))⟩])
(.block 0 (.loop (.seq (.reg [⟨some 9,none,.bin .lss (.t 8) (.t 7)⟩])
(.seq (.cond (.t 9) (.skip) (.exit 0))
(.seq (.block 1 (.seq (.reg [⟨some 10,none,.mov (.t 8)⟩,⟨some 5,none,.mov (.t 10)⟩])
(.seq (.reg [⟨some 11,none,.mov (.t 1)⟩,⟨some 12,none,.mov (.t 0)⟩,⟨some 13,none,.mov (.t 5)⟩,⟨some 14,none,.iaddr 1 (.t 12) (.t 13)⟩,⟨some 15,none,.load false 1 (.t 14)⟩,⟨some 16,none,.call (.t 11) [.t 15]⟩])
(.cond (.t 16) (.seq (.reg [⟨some 17,none,.mov (.t 5)⟩,⟨some 4,none,.mov (.t 17)⟩])
(.ret)) (.skip)))))
(.reg [⟨some 18,none,.bin .add (.t 8) (.c (j 1))⟩,⟨some 8,none,.mov (.t 18)⟩])))))))
(.seq (.reg [⟨some 4,none,.mov (.c (.int .i64 (.negSucc 0)))⟩])
(.ret))), [.tmp 4], none⟩
theorem amok231 : FnOk Tryz.prog 231 am231 := FnOk.mk' quiets Tryz.func231 (pols := []) (keep := none) (by kernel_rfl) rfl
def am232 : AFunc := ⟨2, .seq (.reg [⟨some 3,none,.mov (.c (j 0))⟩])
(.block 0 (.loop (.seq (.seq (.reg [⟨some 6,none,.mov (.t 3)⟩,⟨some 7,none,.load false 1 (.t 1)⟩,⟨some 8,none,.len true (.t 7)⟩,⟨some 9,none,.bin .lss (.t 6) (.t 8)⟩])
(.cond (.t 9) (.skip) (.exit 0)))
(.block 1 (.seq (.reg [⟨some 11,none,.load false 1 (.t 1)⟩,⟨some 12,none,.mov (.t 3)⟩,⟨some 13,none,.sliceS (.t 11) (some (.t 12)) none⟩,⟨some 14,none,.call (.c (.func 225 [] [])) [.t 13]⟩,⟨some 10,none,.mov (.t 14)⟩,⟨some 15,none,.extract (.t 10) 0⟩,⟨some 16,none,.extract (.t 10) 1⟩,⟨some 4,none,.mov (.t 15)⟩,⟨some 5,none,.mov (.t 16)⟩])
(.seq (.seq (.reg [⟨some 17,none,.mov (.t 4)⟩,⟨some 18,none,.bin .eql (.t 17) (.c (.int .i32 (.ofNat 65533)))⟩,⟨some 19,none,.mov (.t 18)⟩,⟨some 20,some (19,true),.mov (.t 5)⟩,⟨some 21,some (19,true),.bin .eql (.t 20) (.c (j 1))⟩,⟨some 22,none,.pick (.t 19) (.t 21) (.c (.bool false))⟩])
(.cond (.t 22) (.reg [⟨some 4,none,.mov (.c (.int .i32 (.negSucc 0)))⟩]) (.skip)))
(.seq (.seq (.reg [⟨some 23,none,.mov (.t 0)⟩,⟨some 24,none,.mov (.t 3)⟩,⟨some 25,none,.mov (.t 4)⟩,⟨some 26,none,.call (.t 23) [.t 24,.t 25]⟩,⟨some 27,none,.un .not (.t 26)⟩])
(.cond (.t 27) (.ret) (.skip)))
(.reg [⟨some 28,none,.mov (.t 3)⟩,⟨some 29,none,.mov (.t 5)⟩,⟨some 30,none,.bin .add (.t 28) (.t 29)⟩,⟨some 3,none,.mov (.t 30)⟩])))))))), [], none⟩
theorem amok232 : FnOk Tryz.prog 232 am232 := FnOk.mk' quiets Tryz.func232 (pols := []) (keep := none) (by kernel_rfl) rfl
def am233 : AFunc := ⟨1, .seq (.reg [⟨some 2,none,.mov (.c (.str []))⟩])
(.seq (.seq (.reg [⟨some 3,none,.mov (.t 0)⟩,⟨some 4,none,.call (.c (.func 191 [] [])) [.t 3]⟩,⟨some 5,none,.bin .eql (.t 4) (.c (j 1))⟩,⟨some 6,none,.mov (.t 5)⟩,⟨some 7,some (6,true),.mov (.t 0)⟩,⟨some 8,some (6,true),.nilchk (.t 7)⟩,⟨some 9,some (6,true),.faddr 0 (.t 8)⟩,⟨some 10,some (6,true),.load false 1 (.t 9)⟩,⟨some 11,some (6,true),.iaddr 6 (.t 10) (.c (j 0))⟩,⟨some 12,some (6,true),.faddr 1 (.t 11)⟩,⟨some 13,some (6,true),.load false 1 (.t 12)⟩,⟨some 14,some (6,true),.call (.c (.func 262 [] [])) [.t 13]⟩,⟨some 15,none,.pick (.t 6) (.t 14) (.c (.bool false))⟩])
(.cond (.t 15) (.reg [⟨some 16,none,.mov (.t 0)⟩,⟨some 17,none,.call (.c (.func 107 [] [])) [.t 16]⟩]) (.skip)))
(.seq (.reg [⟨some 18,none,.mov (.t 0)⟩,⟨some 19,none,.call (.c (.func 195 [] [])) [.t 18,.c (j 1)]⟩,⟨some 2,none,.mov (.t 19)⟩])
(.ret))), [.tmp 2], none⟩
theorem amok233 : FnOk Tryz.prog 233 am233 := FnOk.mk' quiets Tryz.func233 (pols := []) (keep := none) (by kernel_rfl) rfl
def am234 : AFunc := ⟨3, .seq (.reg [⟨some 6,none,.resv 1⟩])
(.seq (.reg [⟨some 8,none,.mov (.t 2)⟩,⟨some 9,none,.call (.t 8) []⟩,⟨some 10,none,.bslR 1 [.str []] 1 [(0,1,.t 9)]⟩,⟨some 7,none,.mov (.t 10)⟩])
(.seq (.block 0 (.loop (.seq (.seq (.reg [⟨some 11,none,.mov (.t 0)⟩,⟨some 12,none,.mov (.t 1)⟩,⟨some 13,none,.call (.c (.func 156 [] [])) [.t 11,.c (j 4),.t 12]⟩])
(.cond (.t 13) (.skip) (.exit 0)))
(.block 1 (.reg [⟨some 14,none,.mov (.t 7)⟩,⟨some 15,none,.mov (.t 2)⟩,⟨some 16,none,.call (.t 15) []⟩,⟨some 17,none,.bslF [.str []] 1 [(0,1,.t 16)]⟩,⟨some 18,none,.append 1 16 (.t 14) (.t 17)⟩,⟨some 7,none,.mov (.t 18)⟩])))))
(.seq (.reg [⟨some 19,none,.mov (.t 7)⟩,⟨some 6,none,.mov (.t 19)⟩])
(.ret)))), [.tmp 6], none⟩
theorem amok234 : FnOk Tryz.prog 234 am234 := FnOk.mk' quiets Tryz.func234 (pols := [(0, 0, .res [(0,1)]),(3, 3, .frz)]) (keep := none) (by kernel_rfl) rfl
def am235 : AFunc := ⟨2, .seq (.reg [⟨some 2,none,.boxB 1 (.t 0) []⟩,⟨some 3,none,.boxB 1 (.t 1) []⟩,⟨some 4,none,.mov (.c (.nilf))⟩])
(.seq (.reg [⟨some 5,none,.hole 1⟩,⟨some 5,none,.fill 1 ⟨.c (j 0), (some [])⟩⟩])
(.seq (.reg [⟨some 6,none,.mkf 263 [] [.t 5,.t 2,.t 3]⟩,⟨some 4,none,.mov (.t 6)⟩])
(.ret))), [.tmp 4], (some 1000)⟩
theorem amok235 : FnOk Tryz.prog 235 am235 := FnOk.mk' quiets Tryz.func235 (pols := [(1, 1, .res []),(1, 0, .hole)]) (keep := some 1000) (by kernel_rfl) rfl
def am236 : AFunc := ⟨1, .seq (.reg [⟨some 2,none,.mov (.c (.str []))⟩])
(.seq (.seq (.reg [⟨some 3,none,.mov (.t 0)⟩,⟨some 4,none,.call (.c (.func 191 [] [])) [.t 3]⟩,⟨some 5,none,.bin .eql (.t 4) (.c (j 5))⟩])
(.cond (.t 5) (.seq (.reg [⟨some 6,none,.mov (.t 0)⟩,⟨some 7,none,.call (.c (.func 199 [] [])) [.t 6]⟩,⟨some 8,none,.field false 1 1 (.t 7)⟩,⟨some 9,none,.bin .add (.c (.str [36])) (.t 8)⟩,⟨some 2,none,.mov (.t 9)⟩])
(.ret)) (.skip)))
(.seq (.reg [⟨some 10,none,.mov (.t 0)⟩,⟨some 11,none,.call (.c (.func 233 [] [])) [.t 10]⟩,⟨some 2,none,.mov (.t 11)⟩])
(.ret))), [.tmp 2], none⟩
theorem amok236 : FnOk Tryz.prog 236 am236 := FnOk.mk' quiets Tryz.func236 (pols := []) (keep := none) (by kernel_rfl) rfl
def am237 : AFunc := ⟨1, .seq (.reg [⟨some 2,none,.allocB z1 []⟩])
(.seq (.reg [⟨some 3,none,.mov (.t 0)⟩,⟨some 4,none,.mov (.t 0)⟩,⟨some 5,none,.mkf 265 [.t 4] []⟩,⟨some 6,none,.call (.c (.func 264 [] [])) [.t 3,.c (.str [61,32,124,61,32,43,61,32,45,61,32,42,61,32,47,61,32,37,61,32,47,47,61]),.t 5]⟩,⟨none,none,.store 10 (.t 2) (.t 6)⟩])
(.ret)), [.cell 2 true 10], none⟩
theorem amok237 : FnOk Tryz.prog 237 am237 := FnOk.mk' quiets Tryz.func237 (pols := []) (keep := none) (by kernel_rfl) rfl
def am238 : AFunc := ⟨1, .seq (.reg [⟨some 1,none,.boxF 1 (.t 0)⟩,⟨some 2,none,.mov (.c (.nilf))⟩])
(.seq (.reg [⟨some 3,none,.mkf 266 [] [.t 1]⟩,⟨some 2,none,.mov (.t 3)⟩])
(.ret)), [.tmp 2], none⟩
theorem amok238 : FnOk Tryz.prog 238 am238 := FnOk.mk' quiets Tryz.func238 (pols := [(0, 0, .frz)]) (keep := none) (by kernel_rfl) rfl
def am239 : AFunc := ⟨3, .seq (.reg [⟨some 4,none,.boxB 10 (.t 1) []⟩,⟨some 5,none,.boxB 10 (.t 2) []⟩,⟨some 6,none,.allocB z1 []⟩])
(.seq (.reg [⟨some 8,none,.faddr 9 (.t 4)⟩,⟨some 9,none,.load false 1 (.t 8)⟩,⟨some 10,none,.load true 10 (.t 4)⟩,⟨some 11,none,.load true 10 (.t 5)⟩,⟨some 12,none,.bslF z16 2 [(0,10,.t 10),(10,10,.t 11)]⟩,⟨some 13,none,.call (.c (.func 193 [] [])) [.c (j 29),.t 9,.t 12]⟩,⟨some 7,none,.hole 10⟩,⟨some 7,none,.fill 10 ⟨.t 13, (some [])⟩⟩])
(.seq (.reg [⟨some 14,none,.mov (.t 0)⟩,⟨some 15,none,.faddr 1 (.t 7)⟩,⟨none,none,.store 1 (.t 15) (.t 14)⟩])
(.seq (.reg [⟨some 16,none,.load true 10 (.t 7)⟩,⟨none,none,.store 10 (.t 6) (.t 16)⟩])
(.ret)))), [.cell 6 true 10], none⟩
theorem amok239 : FnOk Tryz.prog 239 am239 := FnOk.mk' quiets Tryz.func239 (pols := [(1, 4, .frz),(1, 7, .res []),(1, 6, .hole)]) (keep := none) (by kernel_rfl) rfl
def am240 : AFunc := ⟨2, .seq (.reg [⟨some 4,none,.mov (.c (j 0))⟩])
(.seq (.seq (.reg [⟨some 6,none,.mov (.t 0)⟩,⟨some 7,none,.len false (.t 6)⟩,⟨some 8,none,.mov (.c (j 0))⟩])
(.block 0 (.loop (.seq (.reg [⟨some 9,none,.bin .lss (.t 8) (.t 7)⟩])
(.seq (.cond (.t 9) (.skip) (.exit 0))
(.seq (.block 1 (.seq (.reg [⟨some 10,none,.mov (.t 8)⟩,⟨some 5,none,.mov (.t 10)⟩])
(.seq (.reg [⟨some 11,none,.mov (.t 1)⟩,⟨some 12,none,.mov (.t 0)⟩,⟨some 13,none,.mov (.t 5)⟩,⟨some 14,none,.iaddr 10 (.t 12) (.t 13)⟩,⟨some 15,none,.load true 10 (.t 14)⟩,⟨some 16,none,.call (.t 11) [.t 15]⟩])
(.cond (.t 16) (.seq (.reg [⟨some 17,none,.mov (.t 5)⟩,⟨some 4,none,.mov (.t 17)⟩])
(.ret)) (.skip)))))
(.reg [⟨some 18,none,.bin .add (.t 8) (.c (j 1))⟩,⟨some 8,none,.mov (.t 18)⟩])))))))
(.seq (.reg [⟨some 4,none,.mov (.c (.int .i64 (.negSucc 0)))⟩])
(.ret))), [.tmp 4], none⟩
theorem amok240 : FnOk Tryz.prog 240 am240 := FnOk.mk' quiets Tryz.func240 (pols := []) (keep := none) (by kernel_rfl) rfl
def am241 : AFunc := ⟨2, .seq (.reg [⟨some 4,none,.mov (.c (j 0))⟩])
(.seq (.seq (.reg [⟨some 6,none,.mov (.t 0)⟩,⟨some 7,none,.len false (.t 6)⟩,⟨some 8,none,.mov (.c (j 0))⟩])
(.block 0 (.loop (.seq (.reg [⟨some 9,none,.bin .lss (.t 8) (.t 7)⟩])
(.seq (.cond (.t 9) (.skip) (.exit 0))
(.seq (.block 1 (.seq (.reg [⟨some 10,none,.mov (.t 8)⟩,⟨some 5,none,.mov (.t 10)⟩])
(.seq (.reg [⟨some 11,none,.mov (.t 1)⟩,⟨some 12,none,.mov (.t 0)⟩,⟨some 13,none,.mov (.t 5)⟩,⟨some 14,none,.iaddr 4 (.t 12) (.t 13)⟩,⟨some 15,none,.load true 4 (.t 14)⟩,⟨some 16,none,.call (.t 11) [.t 15]⟩])
(.cond (.t 16) (.seq (.reg [⟨some 17,none,.mov (.t 5)⟩,⟨some 4,none,.mov (.t 17)⟩])
(.ret)) (.skip)))))
(.reg [⟨some 18,none,.bin .add (.t 8) (.c (j 1))⟩,⟨some 8,none,.mov (.t 18)⟩])))))))
(.seq (.reg [⟨some 4,none,.mov (.c (.int .i64 (.negSucc 0)))⟩])
(.ret))), [.tmp 4], none⟩
theorem amok241 : FnOk Tryz.prog 241 am241 := FnOk.mk' quiets Tryz.func241 (pols := []) (keep := none) (by kernel_rfl) rfl
def am245 : AFunc := ⟨1, .seq (.reg [⟨some 2,none,.mov (.c (.nilsl))⟩])
(.seq (.reg [⟨some 3,none,.resv 1⟩])
(.seq (.reg [⟨some 4,none,.mov (.c (j 0))⟩])
(.seq (.seq (.reg [⟨some 5,none,.mov (.c (j 0))⟩])
(.block 0 (.loop (.seq (.seq (.reg [⟨some 6,none,.mov (.t 5)⟩,⟨some 7,none,.mov (.t 0)⟩,⟨some 8,none,.len false (.t 7)⟩,⟨some 9,none,.bin .lss (.t 6) (.t 8)⟩])
(.cond (.t 9) (.skip) (.exit 0)))
(.seq (.block 1 (.seq (.reg [⟨some 12,none,.mov (.t 4)⟩,⟨some 13,none,.mov (.t 0)⟩,⟨some 14,none,.mov (.t 5)⟩,⟨some 15,none,.iaddr 1 (.t 13) (.t 14)⟩,⟨some 16,none,.load false 1 (.t 15)⟩,⟨some 17,none,.bin .add (.t 12) (.t 16)⟩,⟨some 4,none,.mov (.t 17)⟩])
(.seq (.reg [⟨some 18,none,.mov (.t 3)⟩,⟨some 19,none,.mov (.t 4)⟩,⟨some 20,none,.bin .rem (.t 19) (.c (j 10))⟩,⟨some 21,none,.bslF [j 0] 1 [(0,1,.t 20)]⟩,⟨some 22,none,.append 1 8 (.t 18) (.t 21)⟩,⟨some 3,none,.mov (.t 22)⟩])
(.reg [⟨some 23,none,.mov (.t 4)⟩,⟨some 24,none,.bin .quo (.t 23) (.c (j 10))⟩,⟨some 4,none,.mov (.t 24)⟩]))))
(.reg [⟨some 10,none,.mov (.t 5)⟩,⟨some 11,none,.bin .add (.t 10) (.c (j 1))⟩,⟨some 5,none,.mov (.t 11)⟩]))))))
(.seq (.block 2 (.loop (.seq (.seq (.reg [⟨some 25,none,.mov (.t 4)⟩,⟨some 26,none,.bin .gtr (.t 25) (.c (j 0))⟩])
(.cond (.t 26) (.skip) (.exit 2)))
(.block 3 (.seq (.reg [⟨some 27,none,.mov (.t 3)⟩,⟨some 28,none,.mov (.t 4)⟩,⟨some 29,none,.bin .rem (.t 28) (.c (j 10))⟩,⟨some 30,none,.bslF [j 0] 1 [(0,1,.t 29)]⟩,⟨some 31,none,.append 1 8 (.t 27) (.t 30)⟩,⟨some 3,none,.mov (.t 31)⟩])
(.reg [⟨some 32,none,.mov (.t 4)⟩,⟨some 33,none,.bin .quo (.t 32) (.c (j 10))⟩,⟨some 4,none,.mov (.t 33)⟩]))))))
(.seq (.reg [⟨some 34,none,.mov (.t 3)⟩,⟨some 35,none,.call (.c (.func 209 [] [])) [.t 34]⟩,⟨some 2,none,.mov (.t 35)⟩])
(.ret)))))), [.tmp 2], (some 0)⟩
theorem amok245 : FnOk Tryz.prog 245 am245 := FnOk.mk' quiets Tryz.func245 (pols := [(1, 0, .res [(0,1)]),(7, 3, .frz),(10, 3, .frz)]) (keep := some 0) (by kernel_rfl) rfl
def am246 : AFunc := ⟨1, .seq (.reg [⟨some 2,none,.allocB z1 []⟩])
(.seq (.reg [⟨some 4,none,.mov (.t 0)⟩,⟨some 5,none,.call (.c (.func 267 [] [])) [.t 4]⟩,⟨some 3,none,.hole 10⟩,⟨some 3,none,.fill 10 ⟨.t 5, (some [])⟩⟩])
(.seq (.block 0 (.loop (.seq (.seq (.reg [⟨some 6,none,.mov (.t 0)⟩,⟨some 7,none,.call (.c (.func 91 [] [])) [.t 6,.c (j 1),.c (.str [97,110,100])]⟩])
(.cond (.t 7) (.skip) (.exit 0)))
(.block 1 (.dreg [(⟨some 8,none,.load true 10 (.t 3)⟩,0,3),(⟨some 9,none,.mov (.t 0)⟩,0,0),(⟨some 10,none,.call (.c (.func 267 [] [])) [.t 9]⟩,0,0),(⟨some 11,none,.call (.c (.func 174 [] [])) [.c (.str [97,110,100]),.t 8,.t 10]⟩,0,0),(⟨none,none,.store 10 (.t 3) (.t 11)⟩,0,0)])))))
(.seq (.reg [⟨some 12,none,.load true 10 (.t 3)⟩,⟨none,none,.store 10 (.t 2) (.t 12)⟩])
(.ret)))), [.cell 2 true 10], none⟩
theorem amok246 : FnOk Tryz.prog 246 am246 := FnOk.mk' quiets Tryz.func246 (pols := [(1, 3, .res []),(1, 2, .hole)]) (keep := none) (by kernel_rfl) rfl
def am251 : AFunc := ⟨3, .seq (.reg [⟨some 6,none,.mov (.c (.int .u32 (.ofNat 0)))⟩,⟨some 7,none,.mov (.c (.int .u32 (.ofNat 0)))⟩])
(.seq (.reg [⟨some 9,none,.mov (.t 0)⟩,⟨some 10,none,.convI .u64 (.t 9)⟩,⟨some 11,none,.mov (.t 1)⟩,⟨some 12,none,.convI .u64 (.t 11)⟩,⟨some 13,none,.bin .add (.t 10) (.t 12)⟩,⟨some 14,none,.mov (.t 2)⟩,⟨some 15,none,.convI .u64 (.t 14)⟩,⟨some 16,none,.bin .add (.t 13) (.t 15)⟩,⟨some 8,none,.mov (.t 16)⟩])
(.seq (.reg [⟨some 17,none,.mov (.t 8)⟩,⟨some 18,none,.convI .u32 (.t 17)⟩,⟨some 6,none,.mov (.t 18)⟩])
(.seq (.reg [⟨some 19,none,.mov (.t 8)⟩,⟨some 20,none,.bin .shr (.t 19) (.c (.int .u64 (.ofNat 32)))⟩,⟨some 21,none,.convI .u32 (.t 20)⟩,⟨some 7,none,.mov (.t 21)⟩])
(.ret)))), [.tmp 6,.tmp 7], none⟩
theorem amok251 : FnOk Tryz.prog 251 am251 := FnOk.mk' quiets Tryz.func251 (pols := []) (keep := none) (by kernel_rfl) rfl
def am252 : AFunc := ⟨2, .seq (.reg [⟨some 4,none,.mov (.c (.str []))⟩])
(.seq (.reg [⟨some 5,none,.mov (.t 0)⟩,⟨some 4,none,.mov (.t 5)⟩])
(.ret)), [.tmp 4], none⟩
theorem amok252 : FnOk Tryz.prog 252 am252 := FnOk.mk' quiets Tryz.func252 (pols := []) (keep := none) (by kernel_rfl) rfl
def am253 : AFunc := ⟨1, .seq (.reg [⟨some 2,none,.mov (.c (.str []))⟩,⟨some 3,none,.mov (.c (j 0))⟩])
(.seq (.seq (.reg [⟨some 10,none,.mov (.t 0)⟩,⟨some 11,none,.call (.c (.func 270 [] [])) [.t 10]⟩,⟨some 4,none,.mov (.t 11)⟩])
(.seq (.reg [⟨some 12,none,.mov (.t 4)⟩,⟨some 13,none,.bin .neq (.t 12) (.c (j 0))⟩])
(.cond (.t 13) (.seq (.reg [⟨some 14,none,.mov (.t 4)⟩,⟨some 2,none,.mov (.c (.str []))⟩,⟨some 3,none,.mov (.t 14)⟩])
(.ret)) (.skip))))
(.seq (.reg [⟨some 5,none,.resv 1⟩])
(.seq (.seq (.reg [⟨some 15,none,.mov (.t 0)⟩,⟨some 6,none,.mov (.t 15)⟩])
(.block 0 (.loop (.seq (.seq (.reg [⟨some 16,none,.mov (.t 6)⟩,⟨some 17,none,.len false (.t 16)⟩,⟨some 18,none,.bin .gtr (.t 17) (.c (j 0))⟩])
(.cond (.t 18) (.skip) (.exit 0)))
(.block 1 (.seq (.reg [⟨some 20,none,.mov (.t 6)⟩,⟨some 21,none,.call (.c (.func 271 [] [])) [.t 20,.c (.int .u32 (.ofNat 1000000000))]⟩,⟨some 19,none,.mov (.t 21)⟩,⟨some 22,none,.extract (.t 19) 0⟩,⟨some 23,none,.extract (.t 19) 1⟩,⟨some 7,none,.mov (.t 22)⟩,⟨some 8,none,.mov (.t 23)⟩])
(.seq (.seq (.reg [⟨some 9,none,.mov (.c (j 0))⟩])
(.block 2 (.loop (.seq (.seq (.reg [⟨some 24,none,.mov (.t 9)⟩,⟨some 25,none,.bin .lss (.t 24) (.c (j 9))⟩,⟨some 26,none,.mov (.t 25)⟩,⟨some 27,some (26,true),.mov (.t 7)⟩,⟨some 28,some (26,true),.len false (.t 27)⟩,⟨some 29,some (26,true),.bin .gtr (.t 28) (.c (j 0))⟩,⟨some 30,some (26,true),.mov (.t 29)⟩,⟨some 31,some (30,false),.mov (.t 8)⟩,⟨some 32,some (30,false),.bin .gtr (.t 31) (.c (.int .u32 (.ofNat 0)))⟩,⟨some 33,some (26,true),.pick (.t 30) (.c (.bool true)) (.t 32)⟩,⟨some 34,none,.pick (.t 26) (.t 33) (.c (.bool false))⟩])
(.cond (.t 34) (.skip) (.exit 2)))
(.seq (.block 3 (.seq (.reg [⟨some 37,none,.mov (.t 5)⟩,⟨some 38,none,.mov (.t 8)⟩,⟨some 39,none,.bin .rem (.t 38) (.c (.int .u32 (.ofNat 10)))⟩,⟨some 40,none,.bin .add (.c (.int .u32 (.ofNat 48))) (.t 39)⟩,⟨some 41,none,.convI .u8 (.t 40)⟩,⟨some 42,none,.bslF z8 1 [(0,1,.t 41)]⟩,⟨some 43,none,.append 1 1 (.t 37) (.t 42)⟩,⟨some 5,none,.mov (.t 43)⟩])
(.reg [⟨some 44,none,.mov (.t 8)⟩,⟨some 45,none,.bin .quo (.t 44) (.c (.int .u32 (.ofNat 10)))⟩,⟨some 8,none,.mov (.t 45)⟩])))
(.reg [⟨some 35,none,.mov (.t 9)⟩,⟨some 36,none,.bin .add (.t 35) (.c (j 1))⟩,⟨some 9,none,.mov (.t 36)⟩]))))))
(.reg [⟨some 46,none,.mov (.t 7)⟩,⟨some 6,none,.mov (.t 46)⟩]))))))))
(.seq (.seq (.reg [⟨some 47,none,.mov (.t 5)⟩,⟨some 48,none,.len false (.t 47)⟩,⟨some 49,none,.bin .eql (.t 48) (.c (j 0))⟩])
(.cond (.t 49) (.seq (.reg [⟨some 2,none,.mov (.c (.str [48]))⟩,⟨some 3,none,.mov (.c (j 0))⟩])
(.ret)) (.skip)))
(.seq (.reg [⟨some 50,none,.mov (.t 5)⟩,⟨some 51,none,.call (.c (.func 74 [] [])) [.t 50]⟩])
(.seq (.reg [⟨some 52,none,.mov (.t 5)⟩,⟨some 53,none,.convBS (.t 52)⟩,⟨some 2,none,.mov (.t 53)⟩,⟨some 3,none,.mov (.c (j 0))⟩])
(.ret))))))), [.tmp 2,.tmp 3], none⟩
theorem amok253 : FnOk Tryz.prog 253 am253 := FnOk.mk' quiets Tryz.func253 (pols := [(4, 0, .res [(0,1)]),(11, 5, .frz)]) (keep := none) (by kernel_rfl) rfl
def am254 : AFunc := ⟨2, .seq (.reg [⟨some 4,none,.mov (.c (.str []))⟩])
(.seq (.seq (.reg [⟨some 7,none,.mov (.t 0)⟩,⟨some 8,none,.bin .eql (.t 7) (.c (.str []))⟩,⟨some 9,none,.mov (.t 8)⟩,⟨some 10,some (9,false),.mov (.t 1)⟩,⟨some 11,some (9,false),.bin .eql (.t 10) (.c (.str []))⟩,⟨some 12,none,.pick (.t 9) (.c (.bool true)) (.t 11)⟩])
(.cond (.t 12) (.seq (.reg [⟨some 13,none,.mov (.t 0)⟩,⟨some 4,none,.mov (.t 13)⟩])
(.ret)) (.skip)))
(.seq (.seq (.reg [⟨some 14,none,.mov (.t 1)⟩,⟨some 15,none,.len true (.t 14)⟩,⟨some 16,none,.bin .eql (.t 15) (.c (j 1))⟩,⟨some 17,none,.mov (.t 16)⟩,⟨some 18,some (17,true),.mov (.t 1)⟩,⟨some 19,some (17,true),.indexS (.t 18) (.c (j 0))⟩,⟨some 20,some (17,true),.bin .lss (.t 19) (.c (.int .u8 (.ofNat 128)))⟩,⟨some 21,none,.pick (.t 17) (.t 20) (.c (.bool false))⟩])
(.cond (.t 21) (.seq (.reg [⟨some 22,none,.mov (.t 0)⟩,⟨some 23,none,.mov (.t 1)⟩,⟨some 24,none,.indexS (.t 23) (.c (j 0))⟩,⟨some 25,none,.call (.c (.func 272 [] [])) [.t 22,.t 24]⟩,⟨some 4,none,.mov (.t 25)⟩])
(.ret)) (.skip)))
(.seq (.seq (.reg [⟨some 27,none,.mov (.t 1)⟩,⟨some 28,none,.call (.c (.func 248 [] [])) [.t 27]⟩,⟨some 26,none,.mov (.t 28)⟩,⟨some 29,none,.extract (.t 26) 0⟩,⟨some 30,none,.extract (.t 26) 1⟩,⟨some 5,none,.hole 256⟩,⟨some 5,none,.fill 256 ⟨.t 29, (some [])⟩⟩,⟨some 6,none,.mov (.t 30)⟩])
(.seq (.reg [⟨some 31,none,.mov (.t 6)⟩])
(.cond (.t 31) (.seq (.reg [⟨some 32,none,.mov (.t 0)⟩,⟨some 33,none,.call (.c (.func 273 [] [])) [.t 32,.t 5]⟩,⟨some 4,none,.mov (.t 33)⟩])
(.ret)) (.skip))))
(.seq (.reg [⟨some 34,none,.mov (.t 0)⟩,⟨some 35,none,.mov (.t 1)⟩,⟨some 36,none,.call (.c (.func 274 [] [])) [.t 34,.t 35]⟩,⟨some 4,none,.mov (.t 36)⟩])
(.ret))))), [.tmp 4], none⟩
theorem amok254 : FnOk Tryz.prog 254 am254 := FnOk.mk' quiets Tryz.func254 (pols := [(5, 6, .res []),(5, 5, .hole)]) (keep := none) (by kernel_rfl) rfl
def am262 : AFunc := ⟨1, .seq (.reg [⟨some 2,none,.mov (.c (.bool false))⟩])
(.seq (.reg [⟨some 3,none,.call (.c (.func 147 [] [])) [.c (.str [100,101,102,32,105,102,32,116,104,101,110,32,101,108,105,102,32,101,108,115,101,32,101,110,100,32,97,115,32,116,114,121,32,99,97,116,99,104,32,114,101,100,117,99,101,32,102,111,114,101,97,99,104,32,108,97,98,101,108,32,98,114,101,97,107,32,111,114,32,97,110,100])]⟩,⟨some 4,none,.mov (.t 0)⟩,⟨some 5,none,.call (.c (.func 136 [] [])) [.t 3,.t 4]⟩,⟨some 2,none,.mov (.t 5)⟩])
(.ret)), [.tmp 2], none⟩
theorem amok262 : FnOk Tryz.prog 262 am262 := FnOk.mk' quiets Tryz.func262 (pols := []) (keep := none) (by kernel_rfl) rfl
def am263 : AFunc := ⟨3, .seq (.reg [⟨some 3,none,.mov (.c (.str []))⟩])
(.seq (.seq (.reg [⟨some 4,none,.load false 1 (.t 0)⟩,⟨some 5,none,.bin .add (.t 4) (.c (j 1))⟩,⟨none,none,.store 1 (.t 0) (.t 5)⟩])
(.seq (.reg [⟨some 6,none,.load false 1 (.t 0)⟩,⟨some 7,none,.bin .gtr (.t 6) (.c (j 8))⟩])
(.cond (.t 7) (.reg [⟨some 8,none,.load false 1 (.t 1)⟩,⟨some 9,none,.call (.c (.func 109 [] [])) [.t 8,.c (j 3)]⟩]) (.skip))))
(.seq (.reg [⟨some 10,none,.load false 1 (.t 2)⟩,⟨some 11,none,.call (.t 10) []⟩,⟨some 3,none,.mov (.t 11)⟩])
(.ret))), [.tmp 3], none⟩
theorem amok263 : FnOk Tryz.prog 263 am263 := FnOk.mk' quiets Tryz.func263 (pols := []) (keep := none) (by kernel_rfl) rfl
def am264 : AFunc := ⟨3, .seq (.reg [⟨some 6,none,.allocB z1 []⟩])
(.seq (.reg [⟨some 10,none,.mov (.t 2)⟩,⟨some 11,none,.call (.t 10) []⟩,⟨some 7,none,.hole 10⟩,⟨some 7,none,.fill 10 ⟨.t 11, none⟩⟩])
(.seq (.seq (.reg [⟨some 13,none,.mov (.t 0)⟩,⟨some 14,none,.mov (.t 1)⟩,⟨some 15,none,.call (.c (.func 275 [] [])) [.t 13,.t 14]⟩,⟨some 12,none,.mov (.t 15)⟩,⟨some 16,none,.extract (.t 12) 0⟩,⟨some 17,none,.extract (.t 12) 1⟩,⟨some 8,none,.mov (.t 16)⟩,⟨some 9,none,.mov (.t 17)⟩])
(.seq (.reg [⟨some 18,none,.mov (.t 9)⟩])
(.cond (.t 18) (.seq (.dreg [(⟨some 19,none,.mov (.t 8)⟩,0,0),(⟨some 20,none,.load true 10 (.t 7)⟩,1,4),(⟨some 21,none,.mov (.t 2)⟩,0,0),(⟨some 22,none,.call (.t 21) []⟩,0,0),(⟨some 23,none,.call (.c (.func 239 [] [])) [.t 19,.t 20,.t 22]⟩,0,0),(⟨none,none,.store 10 (.t 6) (.t 23)⟩,0,0)])
(.ret)) (.skip))))
(.seq (.reg [⟨some 24,none,.load true 10 (.t 7)⟩,⟨none,none,.store 10 (.t 6) (.t 24)⟩])
(.ret)))), [.cell 6 true 10], none⟩
theorem amok264 : FnOk Tryz.prog 264 am264 := FnOk.mk' quiets Tryz.func264 (pols := [(1, 2, .hole),(1, 3, .hole)]) (keep := none) (by kernel_rfl) rfl
def am265 : AFunc := ⟨1, .seq (.reg [⟨some 2,none,.allocB z1 []⟩])
(.seq (.reg [⟨some 3,none,.mov (.t 0)⟩,⟨some 4,none,.mov (.t 0)⟩,⟨some 5,none,.mkf 277 [.t 4] []⟩,⟨some 6,none,.call (.c (.func 276 [] [])) [.t 3,.c (.str [111,114]),.t 5]⟩,⟨none,none,.store 10 (.t 2) (.t 6)⟩])
(.ret)), [.cell 2 true 10], none⟩
theorem amok265 : FnOk Tryz.prog 265 am265 := FnOk.mk' quiets Tryz.func265 (pols := []) (keep := none) (by kernel_rfl) rfl
def am266 : AFunc := ⟨2, .seq (.reg [⟨some 4,none,.load false 1 (.t 1)⟩,⟨some 5,none,.len false (.t 4)⟩,⟨some 6,none,.bin .sub (.t 5) (.c (j 1))⟩,⟨some 3,none,.mov (.t 6)⟩])
(.block 0 (.loop (.seq (.seq (.reg [⟨some 7,none,.mov (.t 3)⟩,⟨some 8,none,.bin .geq (.t 7) (.c (j 0))⟩])
(.cond (.t 8) (.skip) (.exit 0)))
(.seq (.block 1 (.seq (.reg [⟨some 11,none,.mov (.t 0)⟩,⟨some 12,none,.mov (.t 3)⟩,⟨some 13,none,.load false 1 (.t 1)⟩,⟨some 14,none,.mov (.t 3)⟩,⟨some 15,none,.iaddr 10 (.t 13) (.t 14)⟩,⟨some 16,none,.load true 10 (.t 15)⟩,⟨some 17,none,.call (.t 11) [.t 12,.t 16]⟩,⟨some 18,none,.un .not (.t 17)⟩])
(.cond (.t 18) (.ret) (.skip))))
(.reg [⟨some 9,none,.mov (.t 3)⟩,⟨some 10,none,.bin .sub (.t 9) (.c (j 1))⟩,⟨some 3,none,.mov (.t 10)⟩]))))), [], none⟩
theorem amok266 : FnOk Tryz.prog 266 am266 := FnOk.mk' quiets Tryz.func266 (pols := []) (keep := none) (by kernel_rfl) rfl
def am267 : AFunc := ⟨1, .seq (.reg [⟨some 2,none,.allocB z1 []⟩])
(.seq (.reg [⟨some 5,none,.mov (.t 0)⟩,⟨some 6,none,.call (.c (.func 278 [] [])) [.t 5]⟩,⟨some 3,none,.hole 10⟩,⟨some 3,none,.fill 10 ⟨.t 6, none⟩⟩])
(.seq (.reg [⟨some 7,none,.mov (.t 0)⟩,⟨some 8,none,.bslF z21 6 [(0,1,.c (.str [61,61])),(1,1,.c (.str [33,61])),(2,1,.c (.str [60,61])),(3,1,.c (.str [62,61])),(4,1,.c (.str [60])),(5,1,.c (.str [62]))]⟩,⟨some 9,none,.call (.c (.func 212 [] [])) [.t 7,.t 8]⟩,⟨some 4,none,.mov (.t 9)⟩])
(.seq (.seq (.reg [⟨some 10,none,.mov (.t 4)⟩,⟨some 11,none,.bin .eql (.t 10) (.c (.str []))⟩])
(.cond (.t 11) (.seq (.reg [⟨some 12,none,.load true 10 (.t 3)⟩,⟨none,none,.store 10 (.t 2) (.t 12)⟩])
(.ret)) (.skip)))
(.seq (.dreg [(⟨some 13,none,.mov (.t 4)⟩,0,0),(⟨some 14,none,.load true 10 (.t 3)⟩,1,4),(⟨some 15,none,.mov (.t 0)⟩,0,0),(⟨some 16,none,.call (.c (.func 278 [] [])) [.t 15]⟩,0,0),(⟨some 17,none,.call (.c (.func 174 [] [])) [.t 13,.t 14,.t 16]⟩,0,0),(⟨none,none,.store 10 (.t 2) (.t 17)⟩,0,0)])
(.ret))))), [.cell 2 true 10], none⟩
theorem amok267 : FnOk Tryz.prog 267 am267 := FnOk.mk' quiets Tryz.func267 (pols := [(1, 2, .hole),(1, 3, .hole),(2, 1, .frz)]) (keep := none) (by kernel_rfl) rfl
def am270 : AFunc := ⟨1, .seq (.reg [⟨some 2,none,.mov (.c (j 0))⟩])
(.seq (.block 0 (.seq (.reg [⟨some 4,none,.mov (.t 0)⟩,⟨some 5,none,.len false (.t 4)⟩,⟨some 6,none,.bin .gtr (.t 5) (.c (j 256))⟩,⟨some 3,none,.mov (.t 6)⟩])
(.cond (.t 3) (.seq (.reg [⟨some 2,none,.mov (.c (j 5))⟩])
(.ret)) (.seq (.reg [⟨some 8,none,.mov (.t 0)⟩,⟨some 9,none,.len false (.t 8)⟩,⟨some 10,none,.bin .gtr (.t 9) (.c (j 0))⟩,⟨some 11,none,.mov (.t 10)⟩,⟨some 12,some (11,true),.mov (.t 0)⟩,⟨some 13,some (11,true),.mov (.t 0)⟩,⟨some 14,some (11,true),.len false (.t 13)⟩,⟨some 15,some (11,true),.bin .sub (.t 14) (.c (j 1))⟩,⟨some 16,some (11,true),.iaddr 1 (.t 12) (.t 15)⟩,⟨some 17,some (11,true),.load false 1 (.t 16)⟩,⟨some 18,some (11,true),.bin .eql (.t 17) (.c (.int .u32 (.ofNat 0)))⟩,⟨some 19,none,.pick (.t 11) (.t 18) (.c (.bool false))⟩,⟨some 7,none,.mov (.t 19)⟩])
(.cond (.t 7) (.seq (.reg [⟨some 2,none,.mov (.c (j 9))⟩])
(.ret)) (.skip))))))
(.seq (.reg [⟨some 2,none,.mov (.c (j 0))⟩])
(.ret))), [.tmp 2], none⟩
theorem amok270 : FnOk Tryz.prog 270 am270 := FnOk.mk' quiets Tryz.func270 (pols := []) (keep := none) (by kernel_rfl) rfl
def am271 : AFunc := ⟨2, .seq (.reg [⟨some 2,none,.boxF 1 (.t 0)⟩,⟨some 3,none,.boxF 1 (.t 1)⟩,⟨some 4,none,.mov (.c (.nilsl))⟩,⟨some 5,none,.mov (.c (.int .u32 (.ofNat 0)))⟩])
(.seq (.reg [⟨some 9,none,.load false 1 (.t 2)⟩,⟨some 10,none,.len false (.t 9)⟩,⟨some 11,none,.msl 1 4 z19 (.t 10) (.t 10)⟩,⟨some 6,none,.hole 1⟩,⟨some 6,none,.fill 1 ⟨.t 11, (some [])⟩⟩])
(.seq (.reg [⟨some 7,none,.allocB z19 []⟩])
(.seq (.seq (.reg [⟨some 12,none,.load false 1 (.t 2)⟩,⟨some 13,none,.call (.c (.func 280 [] [])) [.t 12]⟩])
(.block 0 (.rangeF (.t 13) [14,15] (.reg [⟨some 8,none,.mov (.t 14)⟩]) (.block 1 (.dreg [(⟨some 17,none,.load false 1 (.t 6)⟩,0,9),(⟨some 18,none,.mov (.t 8)⟩,0,0),(⟨some 19,none,.load false 1 (.t 7)⟩,2,0),(⟨some 20,none,.load false 1 (.t 2)⟩,3,0),(⟨some 21,none,.mov (.t 8)⟩,0,0),(⟨some 22,none,.iaddr 1 (.t 20) (.t 21)⟩,0,0),(⟨some 23,none,.load false 1 (.t 22)⟩,6,0),(⟨some 24,none,.load false 1 (.t 3)⟩,7,0),(⟨some 25,none,.call (.c (.func 281 [] [])) [.t 19,.t 23,.t 24]⟩,0,0),(⟨some 16,none,.mov (.t 25)⟩,0,0),(⟨some 26,none,.extract (.t 16) 0⟩,0,0),(⟨some 27,none,.extract (.t 16) 1⟩,0,0),(⟨some 28,none,.iaddr 1 (.t 17) (.t 18)⟩,0,0),(⟨none,none,.store 1 (.t 28) (.t 26)⟩,0,0),(⟨none,none,.store 1 (.t 7) (.t 27)⟩,0,0)])))))
(.seq (.dreg [(⟨some 29,none,.load false 1 (.t 6)⟩,0,0),(⟨some 30,none,.call (.c (.func 220 [] [])) [.t 29]⟩,0,0),(⟨some 31,none,.load false 1 (.t 7)⟩,1,0),(⟨some 4,none,.mov (.t 30)⟩,0,0),(⟨some 5,none,.mov (.t 31)⟩,0,0)])
(.ret))))), [.tmp 4,.tmp 5], none⟩
theorem amok271 : FnOk Tryz.prog 271 am271 := FnOk.mk' quiets Tryz.func271 (pols := [(0, 0, .frz),(0, 1, .frz),(1, 4, .res []),(1, 3, .hole)]) (keep := none) (by kernel_rfl) rfl
def am272 : AFunc := ⟨2, .seq (.reg [⟨some 4,none,.mov (.c (.str []))⟩])
(.seq (.block 0 (.loop (.seq (.seq (.reg [⟨some 5,none,.mov (.t 0)⟩,⟨some 6,none,.len true (.t 5)⟩,⟨some 7,none,.bin .gtr (.t 6) (.c (j 0))⟩,⟨some 8,none,.mov (.t 7)⟩,⟨some 9,some (8,true),.mov (.t 0)⟩,⟨some 10,some (8,true),.mov (.t 0)⟩,⟨some 11,some (8,true),.len true (.t 10)⟩,⟨some 12,some (8,true),.bin .sub (.t 11) (.c (j 1))⟩,⟨some 13,some (8,true),.indexS (.t 9) (.t 12)⟩,⟨some 14,some (8,true),.mov (.t 1)⟩,⟨some 15,some (8,true),.bin .eql (.t 13) (.t 14)⟩,⟨some 16,none,.pick (.t 8) (.t 15) (.c (.bool false))⟩])
(.cond (.t 16) (.skip) (.exit 0)))
(.block 1 (.reg [⟨some 17,none,.mov (.t 0)⟩,⟨some 18,none,.mov (.t 0)⟩,⟨some 19,none,.len true (.t 18)⟩,⟨some 20,none,.bin .sub (.t 19) (.c (j 1))⟩,⟨some 21,none,.sliceS (.t 17) none (some (.t 20))⟩,⟨some 0,none,.mov (.t 21)⟩])))))
(.seq (.reg [⟨some 22,none,.mov (.t 0)⟩,⟨some 4,none,.mov (.t 22)⟩])
(.ret))), [.tmp 4], none⟩
theorem amok272 : FnOk Tryz.prog 272 am272 := FnOk.mk' quiets Tryz.func272 (pols := []) (keep := none) (by kernel_rfl) rfl
def am275 : AFunc := ⟨2, .seq (.reg [⟨some 4,none,.mov (.c (.str []))⟩,⟨some 5,none,.mov (.c (.bool false))⟩])
(.seq (.reg [⟨some 7,none,.mov (.t 0)⟩,⟨some 8,none,.call (.c (.func 191 [] [])) [.t 7]⟩,⟨some 6,none,.mov (.t 8)⟩])
(.seq (.seq (.dreg [(⟨some 9,none,.mov (.t 6)⟩,0,0),(⟨some 10,none,.bin .neq (.t 9) (.c (j 4))⟩,0,0),(⟨some 11,none,.mov (.t 10)⟩,0,0),(⟨some 12,some (11,true),.mov (.t 6)⟩,0,0),(⟨some 13,some (11,true),.bin .neq (.t 12) (.c (j 1))⟩,0,0),(⟨some 14,none,.pick (.t 11) (.t 13) (.c (.bool false))⟩,0,0),(⟨some 15,none,.mov (.t 14)⟩,0,0),(⟨some 16,some (15,false),.mov (.t 1)⟩,0,0),(⟨some 17,some (15,false),.call (.c (.func 147 [] [])) [.t 16]⟩,0,0),(⟨some 18,some (15,false),.mov (.t 0)⟩,0,0),(⟨some 19,some (15,false),.nilchk (.t 18)⟩,0,0),(⟨some 20,some (15,false),.faddr 0 (.t 19)⟩,0,0),(⟨some 21,some (15,false),.load false 1 (.t 20)⟩,8,0),(⟨some 22,some (15,false),.iaddr 6 (.t 21) (.c (j 0))⟩,0,0),(⟨some 23,some (15,false),.faddr 1 (.t 22)⟩,0,0),(⟨some 24,some (15,false),.load false 1 (.t 23)⟩,8,0),(⟨some 25,some (15,false),.call (.c (.func 136 [] [])) [.t 17,.t 24]⟩,0,0),(⟨some 26,some (15,false),.un .not (.t 25)⟩,0,0),(⟨some 27,none,.pick (.t 15) (.c (.bool true)) (.t 26)⟩,0,0)])
(.cond (.t 27) (.seq (.reg [⟨some 4,none,.mov (.c (.str []))⟩,⟨some 5,none,.mov (.c (.bool false))⟩])
(.ret)) (.skip)))
(.seq (.reg [⟨some 28,none,.mov (.t 0)⟩,⟨some 29,none,.call (.c (.func 199 [] [])) [.t 28]⟩,⟨some 30,none,.field false 1 1 (.t 29)⟩,⟨some 4,none,.mov (.t 30)⟩,⟨some 5,none,.mov (.c (.bool true))⟩])
(.ret)))), [.tmp 4,.tmp 5], none⟩
theorem amok275 : FnOk Tryz.prog 275 am275 := FnOk.mk' quiets Tryz.func275 (pols := []) (keep := none) (by kernel_rfl) rfl
def am276 : AFunc := ⟨3, .seq (.reg [⟨some 6,none,.allocB z1 []⟩])
(.seq (.reg [⟨some 10,none,.mov (.t 2)⟩,⟨some 11,none,.call (.t 10) []⟩,⟨some 7,none,.hole 10⟩,⟨some 7,none,.fill 10 ⟨.t 11, (some [])⟩⟩])
(.block 0 (.loop (.block 1 (.seq (.reg [⟨some 13,none,.mov (.t 0)⟩,⟨some 14,none,.mov (.t 1)⟩,⟨some 15,none,.call (.c (.func 275 [] [])) [.t 13,.t 14]⟩,⟨some 12,none,.mov (.t 15)⟩,⟨some 16,none,.extract (.t 12) 0⟩,⟨some 17,none,.extract (.t 12) 1⟩,⟨some 8,none,.mov (.t 16)⟩,⟨some 9,none,.mov (.t 17)⟩])
(.seq (.seq (.reg [⟨some 18,none,.mov (.t 9)⟩,⟨some 19,none,.un .not (.t 18)⟩])
(.cond (.t 19) (.seq (.reg [⟨some 20,none,.load true 10 (.t 7)⟩,⟨none,none,.store 10 (.t 6) (.t 20)⟩])
(.ret)) (.skip)))
(.dreg [(⟨some 21,none,.mov (.t 8)⟩,0,0),(⟨some 22,none,.load true 10 (.t 7)⟩,1,4),(⟨some 23,none,.mov (.t 2)⟩,0,0),(⟨some 24,none,.call (.t 23) []⟩,0,0),(⟨some 25,none,.call (.c (.func 239 [] [])) [.t 21,.t 22,.t 24]⟩,0,0),(⟨none,none,.store 10 (.t 7) (.t 25)⟩,0,0)]))))))), [.cell 6 true 10], none⟩
theorem amok276 : FnOk Tryz.prog 276 am276 := FnOk.mk' quiets Tryz.func276 (pols := [(1, 3, .res []),(1, 2, .hole)]) (keep := none) (by kernel_rfl) rfl
def am277 : AFunc := ⟨1, .seq (.reg [⟨some 2,none,.allocB z1 []⟩])
(.seq (.reg [⟨some 3,none,.mov (.t 0)⟩,⟨some 4,none,.mov (.t 0)⟩,⟨some 5,none,.mkf 283 [.t 4] []⟩,⟨some 6,none,.call (.c (.func 276 [] [])) [.t 3,.c (.str [97,110,100]),.t 5]⟩,⟨none,none,.store 10 (.t 2) (.t 6)⟩])
(.ret)), [.cell 2 true 10], none⟩
theorem amok277 : FnOk Tryz.prog 277 am277 := FnOk.mk' quiets Tryz.func277 (pols := []) (keep := none) (by kernel_rfl) rfl
def am278 : AFunc := ⟨1, .seq (.reg [⟨some 2,none,.allocB z1 []⟩])
(.seq (.reg [⟨some 5,none,.mov (.t 0)⟩,⟨some 6,none,.call (.c (.func 284 [] [])) [.t 5]⟩,⟨some 3,none,.hole 10⟩,⟨some 3,none,.fill 10 ⟨.t 6, (some [])⟩⟩])
(.block 0 (.loop (.block 1 (.seq (.reg [⟨some 7,none,.mov (.t 0)⟩,⟨some 8,none,.bslF z22 2 [(0,1,.c (.str [43])),(1,1,.c (.str [45]))]⟩,⟨some 9,none,.call (.c (.func 212 [] [])) [.t 7,.t 8]⟩,⟨some 4,none,.mov (.t 9)⟩])
(.seq (.seq (.reg [⟨some 10,none,.mov (.t 4)⟩,⟨some 11,none,.bin .eql (.t 10) (.c (.str []))⟩])
(.cond (.t 11) (.seq (.reg [⟨some 12,none,.load true 10 (.t 3)⟩,⟨none,none,.store 10 (.t 2) (.t 12)⟩])
(.ret)) (.skip)))
(.dreg [(⟨some 13,none,.mov (.t 4)⟩,0,0),(⟨some 14,none,.load true 10 (.t 3)⟩,1,4),(⟨some 15,none,.mov (.t 0)⟩,0,0),(⟨some 16,none,.call (.c (.func 284 [] [])) [.t 15]⟩,0,0),(⟨some 17,none,.call (.c (.func 174 [] [])) [.t 13,.t 14,.t 16]⟩,0,0),(⟨none,none,.store 10 (.t 3) (.t 17)⟩,0,0)]))))))), [.cell 2 true 10], none⟩
theorem amok278 : FnOk Tryz.prog 278 am278 := FnOk.mk' quiets Tryz.func278 (pols := [(1, 3, .res []),(1, 2, .hole),(2, 1, .frz)]) (keep := none) (by kernel_rfl) rfl
def am280 : AFunc := ⟨1, .seq (.reg [⟨some 1,none,.boxF 1 (.t 0)⟩,⟨some 2,none,.mov (.c (.nilf))⟩])
(.seq (.reg [⟨some 3,none,.mkf 285 [] [.t 1]⟩,⟨some 2,none,.mov (.t 3)⟩])
(.ret)), [.tmp 2], none⟩
theorem amok280 : FnOk Tryz.prog 280 am280 := FnOk.mk' quiets Tryz.func280 (pols := [(0, 0, .frz)]) (keep := none) (by kernel_rfl) rfl
def am281 : AFunc := ⟨3, .seq (.reg [⟨some 6,none,.mov (.c (.int .u32 (.ofNat 0)))⟩,⟨some 7,none,.mov (.c (.int .u32 (.ofNat 0)))⟩])
(.seq (.seq (.reg [⟨some 9,none,.mov (.t 2)⟩,⟨some 10,none,.bin .neq (.t 9) (.c (.int .u32 (.ofNat 0)))⟩,⟨some 11,none,.mov (.t 10)⟩,⟨some 12,some (11,true),.mov (.t 2)⟩,⟨some 13,some (11,true),.mov (.t 0)⟩,⟨some 14,some (11,true),.bin .leq (.t 12) (.t 13)⟩,⟨some 15,none,.pick (.t 11) (.t 14) (.c (.bool false))⟩])
(.cond (.t 15) (.reg [⟨some 16,none,.load false 1 (.g 5)⟩,⟨none,none,.bad⟩]) (.skip)))
(.seq (.reg [⟨some 17,none,.mov (.t 0)⟩,⟨some 18,none,.convI .u64 (.t 17)⟩,⟨some 19,none,.bin .shl (.t 18) (.c (.int .u64 (.ofNat 32)))⟩,⟨some 20,none,.mov (.t 1)⟩,⟨some 21,none,.convI .u64 (.t 20)⟩,⟨some 22,none,.bin .or (.t 19) (.t 21)⟩,⟨some 8,none,.mov (.t 22)⟩])
(.seq (.dreg [(⟨some 23,none,.mov (.t 8)⟩,0,0),(⟨some 24,none,.mov (.t 2)⟩,0,0),(⟨some 25,none,.convI .u64 (.t 24)⟩,0,0),(⟨some 26,none,.bin .quo (.t 23) (.t 25)⟩,0,0),(⟨some 27,none,.convI .u32 (.t 26)⟩,0,0),(⟨some 28,none,.mov (.t 8)⟩,0,0),(⟨some 29,none,.mov (.t 2)⟩,0,0),(⟨some 30,none,.convI .u64 (.t 29)⟩,0,0),(⟨some 31,none,.bin .rem (.t 28) (.t 30)⟩,0,0),(⟨some 32,none,.convI .u32 (.t 31)⟩,0,0),(⟨some 6,none,.mov (.t 27)⟩,0,0),(⟨some 7,none,.mov (.t 32)⟩,0,0)])
(.ret)))), [.tmp 6,.tmp 7], none⟩
theorem amok281 : FnOk Tryz.prog 281 am281 := FnOk.mk' quiets Tryz.func281 (pols := []) (keep := none) (by kernel_rfl) rfl
def am283 : AFunc := ⟨1, .seq (.reg [⟨some 2,none,.allocB z1 []⟩])
(.seq (.reg [⟨some 3,none,.mov (.t 0)⟩,⟨some 4,none,.mov (.t 0)⟩,⟨some 5,none,.mkf 287 [.t 4] []⟩,⟨some 6,none,.call (.c (.func 264 [] [])) [.t 3,.c (.str [61,61,32,33,61,32,60,61,32,62,61,32,60,32,62]),.t 5]⟩,⟨none,none,.store 10 (.t 2) (.t 6)⟩])
(.ret)), [.cell 2 true 10], none⟩
theorem amok283 : FnOk Tryz.prog 283 am283 := FnOk.mk' quiets Tryz.func283 (pols := []) (keep := none) (by kernel_rfl) rfl
def am284 : AFunc := ⟨1, .seq (.reg [⟨some 2,none,.allocB z1 []⟩])
(.seq (.reg [⟨some 5,none,.mov (.t 0)⟩,⟨some 6,none,.call (.c (.func 288 [] [])) [.t 5]⟩,⟨some 3,none,.hole 10⟩,⟨some 3,none,.fill 10 ⟨.t 6, (some [])⟩⟩])
(.block 0 (.loop (.block 1 (.seq (.reg [⟨some 7,none,.mov (.t 0)⟩,⟨some 8,none,.bslF z23 3 [(0,1,.c (.str [42])),(1,1,.c (.str [47])),(2,1,.c (.str [37]))]⟩,⟨some 9,none,.call (.c (.func 212 [] [])) [.t 7,.t 8]⟩,⟨some 4,none,.mov (.t 9)⟩])
(.seq (.seq (.reg [⟨some 10,none,.mov (.t 4)⟩,⟨some 11,none,.bin .eql (.t 10) (.c (.str []))⟩])
(.cond (.t 11) (.seq (.reg [⟨some 12,none,.load true 10 (.t 3)⟩,⟨none,none,.store 10 (.t 2) (.t 12)⟩])
(.ret)) (.skip)))
(.dreg [(⟨some 13,none,.mov (.t 4)⟩,0,0),(⟨some 14,none,.load true 10 (.t 3)⟩,1,4),(⟨some 15,none,.mov (.t 0)⟩,0,0),(⟨some 16,none,.call (.c (.func 288 [] [])) [.t 15]⟩,0,0),(⟨some 17,none,.call (.c (.func 174 [] [])) [.t 13,.t 14,.t 16]⟩,0,0),(⟨none,none,.store 10 (.t 3) (.t 17)⟩,0,0)]))))))), [.cell 2 true 10], none⟩
theorem amok284 : FnOk Tryz.prog 284 am284 := FnOk.mk' quiets Tryz.func284 (pols := [(1, 3, .res []),(1, 2, .hole),(2, 1, .frz)]) (keep := none) (by kernel_rfl) rfl
def am285 : AFunc := ⟨2, .seq (.reg [⟨some 4,none,.load false 1 (.t 1)⟩,⟨some 5,none,.len false (.t 4)⟩,⟨some 6,none,.bin .sub (.t 5) (.c (j 1))⟩,⟨some 3,none,.mov (.t 6)⟩])
(.block 0 (.loop (.seq (.seq (.reg [⟨some 7,none,.mov (.t 3)⟩,⟨some 8,none,.bin .geq (.t 7) (.c (j 0))⟩])
(.cond (.t 8) (.skip) (.exit 0)))
(.seq (.block 1 (.seq (.reg [⟨some 11,none,.mov (.t 0)⟩,⟨some 12,none,.mov (.t 3)⟩,⟨some 13,none,.load false 1 (.t 1)⟩,⟨some 14,none,.mov (.t 3)⟩,⟨some 15,none,.iaddr 1 (.t 13) (.t 14)⟩,⟨some 16,none,.load false 1 (.t 15)⟩,⟨some 17,none,.call (.t 11) [.t 12,.t 16]⟩,⟨some 18,none,.un .not (.t 17)⟩])
(.cond (.t 18) (.ret) (.skip))))
(.reg [⟨some 9,none,.mov (.t 3)⟩,⟨some 10,none,.bin .sub (.t 9) (.c (j 1))⟩,⟨some 3,none,.mov (.t 10)⟩]))))), [], none⟩
theorem amok285 : FnOk Tryz.prog 285 am285 := FnOk.mk' quiets Tryz.func285 (pols := []) (keep := none) (by kernel_rfl) rfl
def am287 : AFunc := ⟨1, .seq (.reg [⟨some 2,none,.allocB z1 []⟩])
(.seq (.reg [⟨some 3,none,.mov (.t 0)⟩,⟨some 4,none,.mov (.t 0)⟩,⟨some 5,none,.mkf 289 [.t 4] []⟩,⟨some 6,none,.call (.c (.func 276 [] [])) [.t 3,.c (.str [43,32,45]),.t 5]⟩,⟨none,none,.store 10 (.t 2) (.t 6)⟩])
(.ret)), [.cell 2 true 10], none⟩
theorem amok287 : FnOk Tryz.prog 287 am287 := FnOk.mk' quiets Tryz.func287 (pols := []) (keep := none) (by kernel_rfl) rfl
def am288 : AFunc := ⟨1, .seq (.reg [⟨some 2,none,.allocB z1 []⟩])
(.seq (.reg [⟨some 5,none,.build z1 []⟩,⟨some 3,none,.hole 10⟩,⟨some 3,none,.fill 10 ⟨.t 5, (some [])⟩⟩])
(.seq (.seq (.reg [⟨some 6,none,.mov (.t 0)⟩,⟨some 7,none,.call (.c (.func 87 [] [])) [.t 6]⟩])
(.cond (.t 7) (.seq (.reg [⟨some 8,none,.mov (.t 0)⟩,⟨some 9,none,.call (.c (.func 88 [] [])) [.t 8]⟩,⟨some 4,none,.mov (.t 9)⟩])
(.seq (.reg [⟨some 10,none,.mov (.t 0)⟩,⟨some 11,none,.call (.c (.func 91 [] [])) [.t 10,.c (j 4),.c (.str [45])]⟩])
(.cond (.t 11) (.reg [⟨some 12,none,.mov (.t 0)⟩,⟨some 13,none,.call (.c (.func 288 [] [])) [.t 12]⟩,⟨some 14,none,.bslF z1 1 [(0,10,.t 13)]⟩,⟨some 15,none,.mov (.t 4)⟩,⟨some 16,none,.build z1 [(0,1,.c (j 15)),(6,1,.t 14),(9,1,.t 15)]⟩,⟨none,none,.store 10 (.t 3) (.t 16)⟩]) (.reg [⟨some 17,none,.mov (.t 0)⟩,⟨some 18,none,.mov (.t 0)⟩,⟨some 19,none,.call (.c (.func 291 [] [])) [.t 18]⟩,⟨some 20,none,.call (.c (.func 290 [] [])) [.t 17,.t 19]⟩,⟨none,none,.store 10 (.t 3) (.t 20)⟩])))) (.skip)))
(.seq (.reg [⟨some 21,none,.mov (.t 0)⟩,⟨some 22,none,.nilchk (.t 21)⟩,⟨some 23,none,.faddr 3 (.t 22)⟩,⟨some 24,none,.load false 1 (.t 23)⟩,⟨some 25,none,.bin .sub (.t 24) (.c (j 1))⟩,⟨some 26,none,.nilchk (.t 21)⟩,⟨some 27,none,.faddr 3 (.t 26)⟩,⟨none,none,.store 1 (.t 27) (.t 25)⟩])
(.seq (.reg [⟨some 28,none,.load true 10 (.t 3)⟩,⟨none,none,.store 10 (.t 2) (.t 28)⟩])
(.ret))))), [.cell 2 true 10], none⟩
theorem amok288 : FnOk Tryz.prog 288 am288 := FnOk.mk' quiets Tryz.func288 (pols := [(1, 2, .res []),(1, 1, .hole),(5, 2, .frz)]) (keep := none) (by kernel_rfl) rfl
def am289 : AFunc := ⟨1, .seq (.reg [⟨some 2,none,.allocB z1 []⟩])
(.seq (.reg [⟨some 3,none,.mov (.t 0)⟩,⟨some 4,none,.mov (.t 0)⟩,⟨some 5,none,.mkf 292 [.t 4] []⟩,⟨some 6,none,.call (.c (.func 276 [] [])) [.t 3,.c (.str [42,32,47,32,37]),.t 5]⟩,⟨none,none,.store 10 (.t 2) (.t 6)⟩])
(.ret)), [.cell 2 true 10], none⟩
theorem amok289 : FnOk Tryz.prog 289 am289 := FnOk.mk' quiets Tryz.func289 (pols := []) (keep := none) (by kernel_rfl) rfl
def am290 : AFunc := ⟨2, .seq (.reg [⟨some 3,none,.boxB 10 (.t 1) []⟩,⟨some 4,none,.allocB z1 [(7,4)]⟩])
(.seq (.seq (.reg [⟨some 6,none,.mov (.t 0)⟩,⟨some 7,none,.call (.c (.func 91 [] [])) [.t 6,.c (j 1),.c (.str [97,115])]⟩,⟨some 8,none,.un .not (.t 7)⟩])
(.cond (.t 8) (.seq (.reg [⟨some 9,none,.load true 10 (.t 3)⟩,⟨none,none,.store 10 (.t 4) (.t 9)⟩])
(.ret)) (.skip)))
(.seq (.reg [⟨some 10,none,.mov (.t 0)⟩,⟨some 11,none,.call (.c (.func 293 [] [])) [.t 10]⟩,⟨some 12,none,.bslR 4 z24 1 [(0,4,.t 11)]⟩,⟨some 5,none,.mov (.t 12)⟩])
(.seq (.block 0 (.loop (.seq (.seq (.reg [⟨some 13,none,.mov (.t 0)⟩,⟨some 14,none,.call (.c (.func 91 [] [])) [.t 13,.c (j 4),.c (.str [63,47,47])]⟩])
(.cond (.t 14) (.skip) (.exit 0)))
(.block 1 (.reg [⟨some 15,none,.mov (.t 5)⟩,⟨some 16,none,.mov (.t 0)⟩,⟨some 17,none,.call (.c (.func 293 [] [])) [.t 16]⟩,⟨some 18,none,.bslF z24 1 [(0,4,.t 17)]⟩,⟨some 19,none,.append 4 72 (.t 15) (.t 18)⟩,⟨some 5,none,.mov (.t 19)⟩])))))
(.seq (.reg [⟨some 20,none,.mov (.t 0)⟩,⟨some 21,none,.call (.c (.func 130 [] [])) [.t 20,.c (j 4),.c (.str [124])]⟩])
(.seq (.dreg [(⟨some 22,none,.load true 10 (.t 3)⟩,0,3),(⟨some 23,none,.mov (.t 0)⟩,0,0),(⟨some 24,none,.call (.c (.func 59 [] [])) [.t 23]⟩,0,0),(⟨some 25,none,.bslF z16 2 [(0,10,.t 22),(10,10,.t 24)]⟩,0,0),(⟨some 26,none,.mov (.t 5)⟩,0,0),(⟨some 27,none,.faddr 9 (.t 3)⟩,0,0),(⟨some 28,none,.load false 1 (.t 27)⟩,2,0),(⟨some 29,none,.build z1 [(0,1,.c (j 26)),(6,1,.t 25),(7,1,.t 26),(9,1,.t 28)]⟩,0,0),(⟨none,none,.store 10 (.t 4) (.t 29)⟩,0,0)])
(.ret)))))), [.cell 4 true 10], none⟩
theorem amok290 : FnOk Tryz.prog 290 am290 := FnOk.mk' quiets Tryz.func290 (pols := [(0, 1, .res [(7,4)]),(5, 3, .frz),(7, 3, .frz)]) (keep := none) (by kernel_rfl) rfl
def am291 : AFunc := ⟨1, .seq (.reg [⟨some 2,none,.allocB z1 []⟩])
(.seq (.reg [⟨some 6,none,.build z1 []⟩,⟨some 3,none,.hole 10⟩,⟨some 3,none,.fill 10 ⟨.t 6, (some [])⟩⟩])
(.seq (.seq (.reg [⟨some 7,none,.mov (.t 0)⟩,⟨some 8,none,.call (.c (.func 87 [] [])) [.t 7]⟩])
(.cond (.t 8) (.seq (.reg [⟨some 9,none,.mov (.t 0)⟩,⟨some 10,none,.call (.c (.func 294 [] [])) [.t 9]⟩,⟨none,none,.store 10 (.t 3) (.t 10)⟩])
(.block 0 (.loop (.seq (.seq (.reg [⟨some 11,none,.mov (.t 0)⟩,⟨some 12,none,.nilchk (.t 11)⟩,⟨some 13,none,.faddr 4 (.t 12)⟩,⟨some 14,none,.load false 1 (.t 13)⟩,⟨some 15,none,.bin .eql (.t 14) (.c (j 0))⟩])
(.cond (.t 15) (.skip) (.exit 0)))
(.block 1 (.seq (.reg [⟨some 17,none,.mov (.t 0)⟩,⟨some 18,none,.load true 10 (.t 3)⟩,⟨some 19,none,.call (.c (.func 295 [] [])) [.t 17,.t 18]⟩,⟨some 16,none,.mov (.t 19)⟩,⟨some 20,none,.extract (.t 16) 0⟩,⟨some 21,none,.extract (.t 16) 1⟩,⟨some 4,none,.hole 10⟩,⟨some 4,none,.fill 10 ⟨.t 20, none⟩⟩,⟨some 5,none,.mov (.t 21)⟩])
(.seq (.seq (.reg [⟨some 22,none,.mov (.t 5)⟩,⟨some 23,none,.un .not (.t 22)⟩])
(.cond (.t 23) (.exit 0) (.skip)))
(.reg [⟨some 24,none,.load true 10 (.t 4)⟩,⟨none,none,.store 10 (.t 3) (.t 24)⟩])))))))) (.skip)))
(.seq (.reg [⟨some 25,none,.mov (.t 0)⟩,⟨some 26,none,.nilchk (.t 25)⟩,⟨some 27,none,.faddr 3 (.t 26)⟩,⟨some 28,none,.load false 1 (.t 27)⟩,⟨some 29,none,.bin .sub (.t 28) (.c (j 1))⟩,⟨some 30,none,.nilchk (.t 25)⟩,⟨some 31,none,.faddr 3 (.t 30)⟩,⟨none,none,.store 1 (.t 31) (.t 29)⟩])
(.seq (.reg [⟨some 32,none,.load true 10 (.t 3)⟩,⟨none,none,.store 10 (.t 2) (.t 32)⟩])
(.ret))))), [.cell 2 true 10], none⟩
theorem amok291 : FnOk Tryz.prog 291 am291 := FnOk.mk' quiets Tryz.func291 (pols := [(1, 2, .res []),(1, 1, .hole),(5, 6, .hole),(5, 7, .hole)]) (keep := none) (by kernel_rfl) rfl
def am292 : AFunc := ⟨1, .seq (.reg [⟨some 1,none,.boxB 1 (.t 0) []⟩,⟨some 2,none,.allocB z1 []⟩])
(.seq (.reg [⟨some 3,none,.load false 1 (.t 1)⟩,⟨some 4,none,.mkf 296 [] [.t 1]⟩,⟨some 5,none,.call (.c (.func 152 [] [])) [.t 3,.t 4]⟩,⟨none,none,.store 10 (.t 2) (.t 5)⟩])
(.ret)), [.cell 2 true 10], none⟩
theorem amok292 : FnOk Tryz.prog 292 am292 := FnOk.mk' quiets Tryz.func292 (pols := []) (keep := none) (by kernel_rfl) rfl
def am293 : AFunc := ⟨1, .seq (.reg [⟨some 2,none,.allocB z24 []⟩])
(.seq (.reg [⟨some 4,none,.build z24 []⟩,⟨some 3,none,.hole 4⟩,⟨some 3,none,.fill 4 ⟨.t 4, (some [(3,4)])⟩⟩])
(.seq (.seq (.reg [⟨some 5,none,.mov (.t 0)⟩,⟨some 6,none,.call (.c (.func 87 [] [])) [.t 5]⟩])
(.cond (.t 6) (.block 0 (.seq (.reg [⟨some 10,none,.mov (.t 0)⟩,⟨some 11,none,.call (.c (.func 172 [] [])) [.t 10]⟩,⟨some 12,none,.bin .eql (.t 11) (.c (j 5))⟩,⟨some 9,none,.mov (.t 12)⟩])
(.cond (.t 9) (.reg [⟨some 13,none,.mov (.t 0)⟩,⟨some 14,none,.call (.c (.func 129 [] [])) [.t 13,.c (j 5)]⟩,⟨some 15,none,.build z24 [(0,1,.c (j 1)),(1,1,.t 14)]⟩,⟨none,none,.store 4 (.t 3) (.t 15)⟩]) (.seq (.reg [⟨some 17,none,.mov (.t 0)⟩,⟨some 18,none,.call (.c (.func 91 [] [])) [.t 17,.c (j 4),.c (.str [91])]⟩,⟨some 16,none,.mov (.t 18)⟩])
(.cond (.t 16) (.seq (.reg [⟨some 19,none,.faddr 0 (.t 3)⟩,⟨none,none,.store 1 (.t 19) (.c (j 2))⟩])
(.seq (.block 1 (.loop (.seq (.seq (.reg [⟨some 20,none,.mov (.t 0)⟩,⟨some 21,none,.nilchk (.t 20)⟩,⟨some 22,none,.faddr 4 (.t 21)⟩,⟨some 23,none,.load false 1 (.t 22)⟩,⟨some 24,none,.bin .eql (.t 23) (.c (j 0))⟩])
(.cond (.t 24) (.skip) (.exit 1)))
(.block 2 (.seq (.dreg [(⟨some 25,none,.faddr 3 (.t 3)⟩,0,0),(⟨some 26,none,.load false 1 (.t 25)⟩,1,4),(⟨some 27,none,.mov (.t 0)⟩,0,0),(⟨some 28,none,.call (.c (.func 293 [] [])) [.t 27]⟩,0,0),(⟨some 29,none,.bslF z24 1 [(0,4,.t 28)]⟩,0,0),(⟨some 30,none,.append 4 72 (.t 26) (.t 29)⟩,0,0),(⟨some 31,none,.faddr 3 (.t 3)⟩,0,0),(⟨none,none,.store 1 (.t 31) (.t 30)⟩,0,0)])
(.seq (.reg [⟨some 32,none,.mov (.t 0)⟩,⟨some 33,none,.call (.c (.func 91 [] [])) [.t 32,.c (j 4),.c (.str [44])]⟩,⟨some 34,none,.un .not (.t 33)⟩])
(.cond (.t 34) (.exit 1) (.skip))))))))
(.reg [⟨some 35,none,.mov (.t 0)⟩,⟨some 36,none,.call (.c (.func 130 [] [])) [.t 35,.c (j 4),.c (.str [93])]⟩]))) (.seq (.reg [⟨some 38,none,.mov (.t 0)⟩,⟨some 39,none,.call (.c (.func 91 [] [])) [.t 38,.c (j 4),.c (.str [123])]⟩,⟨some 37,none,.mov (.t 39)⟩])
(.cond (.t 37) (.seq (.reg [⟨some 40,none,.faddr 0 (.t 3)⟩,⟨none,none,.store 1 (.t 40) (.c (j 3))⟩])
(.seq (.block 3 (.loop (.seq (.seq (.reg [⟨some 41,none,.mov (.t 0)⟩,⟨some 42,none,.nilchk (.t 41)⟩,⟨some 43,none,.faddr 4 (.t 42)⟩,⟨some 44,none,.load false 1 (.t 43)⟩,⟨some 45,none,.bin .eql (.t 44) (.c (j 0))⟩])
(.cond (.t 45) (.skip) (.exit 3)))
(.block 4 (.seq (.reg [⟨some 46,none,.mov (.t 0)⟩,⟨some 47,none,.load true 4 (.t 3)⟩,⟨some 48,none,.call (.c (.func 299 [] [])) [.t 46,.t 47]⟩,⟨none,none,.store 4 (.t 3) (.t 48)⟩])
(.seq (.reg [⟨some 49,none,.mov (.t 0)⟩,⟨some 50,none,.call (.c (.func 91 [] [])) [.t 49,.c (j 4),.c (.str [44])]⟩,⟨some 51,none,.un .not (.t 50)⟩])
(.cond (.t 51) (.exit 3) (.skip))))))))
(.reg [⟨some 52,none,.mov (.t 0)⟩,⟨some 53,none,.call (.c (.func 130 [] [])) [.t 52,.c (j 4),.c (.str [125])]⟩]))) (.reg [⟨some 7,none,.mov (.t 0)⟩,⟨some 8,none,.call (.c (.func 60 [] [])) [.t 7]⟩])))))))) (.skip)))
(.seq (.reg [⟨some 54,none,.mov (.t 0)⟩,⟨some 55,none,.nilchk (.t 54)⟩,⟨some 56,none,.faddr 3 (.t 55)⟩,⟨some 57,none,.load false 1 (.t 56)⟩,⟨some 58,none,.bin .sub (.t 57) (.c (j 1))⟩,⟨some 59,none,.nilchk (.t 54)⟩,⟨some 60,none,.faddr 3 (.t 59)⟩,⟨none,none,.store 1 (.t 60) (.t 58)⟩])
(.seq (.reg [⟨some 61,none,.load true 4 (.t 3)⟩,⟨none,none,.store 4 (.t 2) (.t 61)⟩])
(.ret))))), [.cell 2 true 4], none⟩
theorem amok293 : FnOk Tryz.prog 293 am293 := FnOk.mk' quiets Tryz.func293 (pols := [(1, 2, .res [(3,4)]),(1, 1, .hole),(9, 4, .frz)]) (keep := none) (by kernel_rfl) rfl
def am294 : AFunc := ⟨1, .seq (.reg [⟨some 2,none,.allocB z1 []⟩])
(.seq (.reg [⟨some 8,none,.mov (.t 0)⟩,⟨some 9,none,.call (.c (.func 88 [] [])) [.t 8]⟩,⟨some 3,none,.mov (.t 9)⟩])
(.seq (.reg [⟨some 10,none,.mov (.t 3)⟩,⟨some 11,none,.build z1 [(0,1,.c (j 1)),(9,1,.t 10)]⟩,⟨some 4,none,.hole 10⟩,⟨some 4,none,.fill 10 ⟨.t 11, none⟩⟩])
(.seq (.seq (.reg [⟨some 12,none,.mov (.t 0)⟩,⟨some 13,none,.call (.c (.func 172 [] [])) [.t 12]⟩])
(.block 0 (.seq (.reg [⟨some 15,none,.bin .eql (.t 13) (.c (j 2))⟩,⟨some 14,none,.mov (.t 15)⟩])
(.cond (.t 14) (.seq (.dreg [(⟨some 16,none,.mov (.t 0)⟩,0,0),(⟨some 17,none,.call (.c (.func 129 [] [])) [.t 16,.c (j 2)]⟩,0,0),(⟨some 18,none,.load true 10 (.t 4)⟩,1,0),(⟨some 19,none,.bslF z1 1 [(0,10,.t 18)]⟩,0,0),(⟨some 20,none,.mov (.t 3)⟩,0,0),(⟨some 21,none,.build z1 [(0,1,.c (j 3)),(2,1,.t 17),(6,1,.t 19),(9,1,.t 20)]⟩,0,0),(⟨none,none,.store 10 (.t 2) (.t 21)⟩,0,0)])
(.ret)) (.seq (.reg [⟨some 23,none,.bin .eql (.t 13) (.c (j 3))⟩,⟨some 22,none,.mov (.t 23)⟩])
(.cond (.t 22) (.seq (.reg [⟨some 24,none,.mov (.t 0)⟩,⟨some 25,none,.nilchk (.t 24)⟩,⟨some 26,none,.faddr 1 (.t 25)⟩,⟨some 27,none,.load false 1 (.t 26)⟩,⟨some 28,none,.bin .add (.t 27) (.c (j 1))⟩,⟨some 29,none,.nilchk (.t 24)⟩,⟨some 30,none,.faddr 1 (.t 29)⟩,⟨none,none,.store 1 (.t 30) (.t 28)⟩])
(.seq (.dreg [(⟨some 31,none,.mov (.t 0)⟩,0,0),(⟨some 32,none,.nilchk (.t 31)⟩,0,0),(⟨some 33,none,.faddr 0 (.t 32)⟩,0,0),(⟨some 34,none,.load false 1 (.t 33)⟩,3,0),(⟨some 35,none,.mov (.t 0)⟩,0,0),(⟨some 36,none,.nilchk (.t 35)⟩,0,0),(⟨some 37,none,.faddr 1 (.t 36)⟩,0,0),(⟨some 38,none,.load false 1 (.t 37)⟩,7,0),(⟨some 39,none,.bin .sub (.t 38) (.c (j 1))⟩,0,0),(⟨some 40,none,.iaddr 6 (.t 34) (.t 39)⟩,0,0),(⟨some 41,none,.faddr 2 (.t 40)⟩,0,0),(⟨some 42,none,.load true 3 (.t 41)⟩,11,0),(⟨some 43,none,.mov (.t 3)⟩,0,0),(⟨some 44,none,.build z1 [(0,1,.c (j 8)),(3,3,.t 42),(9,1,.t 43)]⟩,0,0),(⟨none,none,.store 10 (.t 2) (.t 44)⟩,0,0)])
(.ret))) (.seq (.reg [⟨some 46,none,.bin .eql (.t 13) (.c (j 5))⟩,⟨some 45,none,.mov (.t 46)⟩])
(.cond (.t 45) (.seq (.reg [⟨some 47,none,.mov (.t 0)⟩,⟨some 48,none,.call (.c (.func 129 [] [])) [.t 47,.c (j 5)]⟩,⟨some 49,none,.mov (.t 3)⟩,⟨some 50,none,.build z1 [(0,1,.c (j 16)),(1,1,.t 48),(9,1,.t 49)]⟩,⟨none,none,.store 10 (.t 2) (.t 50)⟩])
(.ret)) (.seq (.reg [⟨some 52,none,.bin .eql (.t 13) (.c (j 6))⟩,⟨some 51,none,.mov (.t 52)⟩])
(.cond (.t 51) (.seq (.reg [⟨some 53,none,.mov (.t 0)⟩,⟨some 54,none,.call (.c (.func 129 [] [])) [.t 53,.c (j 6)]⟩,⟨some 5,none,.mov (.t 54)⟩])
(.seq (.seq (.reg [⟨some 55,none,.mov (.t 0)⟩,⟨some 56,none,.call (.c (.func 172 [] [])) [.t 55]⟩,⟨some 57,none,.bin .eql (.t 56) (.c (j 7))⟩])
(.cond (.t 57) (.seq (.reg [⟨some 58,none,.mov (.t 0)⟩,⟨some 59,none,.mov (.t 5)⟩,⟨some 60,none,.mov (.t 3)⟩,⟨some 61,none,.call (.c (.func 300 [] [])) [.t 58,.t 59,.t 60]⟩,⟨none,none,.store 10 (.t 2) (.t 61)⟩])
(.ret)) (.skip)))
(.seq (.reg [⟨some 62,none,.mov (.t 5)⟩,⟨some 63,none,.mov (.t 3)⟩,⟨some 64,none,.build z1 [(0,1,.c (j 17)),(1,1,.t 62),(9,1,.t 63)]⟩,⟨none,none,.store 10 (.t 2) (.t 64)⟩])
(.ret)))) (.seq (.reg [⟨some 66,none,.bin .eql (.t 13) (.c (j 7))⟩,⟨some 65,none,.mov (.t 66)⟩])
(.cond (.t 65) (.seq (.reg [⟨some 67,none,.mov (.t 0)⟩,⟨some 68,none,.mov (.t 3)⟩,⟨some 69,none,.call (.c (.func 300 [] [])) [.t 67,.c (.str []),.t 68]⟩,⟨none,none,.store 10 (.t 2) (.t 69)⟩])
(.ret)) (.seq (.reg [⟨some 71,none,.bin .eql (.t 13) (.c (j 1))⟩,⟨some 70,none,.mov (.t 71)⟩])
(.cond (.t 70) (.seq (.reg [⟨some 72,none,.mov (.t 0)⟩,⟨some 73,none,.mov (.t 3)⟩,⟨some 74,none,.call (.c (.func 301 [] [])) [.t 72,.t 73]⟩,⟨none,none,.store 10 (.t 2) (.t 74)⟩])
(.ret)) (.skip)))))))))))))))
(.seq (.block 1 (.seq (.reg [⟨some 76,none,.mov (.t 0)⟩,⟨some 77,none,.call (.c (.func 91 [] [])) [.t 76,.c (j 4),.c (.str [46])]⟩,⟨some 75,none,.mov (.t 77)⟩])
(.cond (.t 75) (.seq (.seq (.reg [⟨some 78,none,.mov (.t 0)⟩,⟨some 79,none,.call (.c (.func 172 [] [])) [.t 78]⟩,⟨some 80,none,.bin .eql (.t 79) (.c (j 7))⟩])
(.cond (.t 80) (.seq (.dreg [(⟨some 81,none,.load true 10 (.t 4)⟩,0,5),(⟨some 82,none,.mov (.t 0)⟩,0,0),(⟨some 83,none,.mov (.t 0)⟩,0,0),(⟨some 84,none,.call (.c (.func 88 [] [])) [.t 83]⟩,0,0),(⟨some 85,none,.call (.c (.func 300 [] [])) [.t 82,.c (.str []),.t 84]⟩,0,0),(⟨some 86,none,.bslF z16 2 [(0,10,.t 81),(10,10,.t 85)]⟩,0,0),(⟨some 87,none,.mov (.t 3)⟩,0,0),(⟨some 88,none,.build z1 [(0,1,.c (j 4)),(6,1,.t 86),(9,1,.t 87)]⟩,0,0),(⟨none,none,.store 10 (.t 2) (.t 88)⟩,0,0)])
(.ret)) (.skip)))
(.seq (.reg [⟨some 89,none,.load true 10 (.t 4)⟩,⟨none,none,.store 10 (.t 2) (.t 89)⟩])
(.ret))) (.seq (.reg [⟨some 91,none,.mov (.t 0)⟩,⟨some 92,none,.call (.c (.func 91 [] [])) [.t 91,.c (j 4),.c (.str [46,46])]⟩,⟨some 90,none,.mov (.t 92)⟩])
(.cond (.t 90) (.seq (.reg [⟨some 93,none,.mov (.t 3)⟩,⟨some 94,none,.build z1 [(0,1,.c (j 2)),(9,1,.t 93)]⟩,⟨none,none,.store 10 (.t 2) (.t 94)⟩])
(.ret)) (.seq (.reg [⟨some 96,none,.mov (.t 0)⟩,⟨some 97,none,.call (.c (.func 91 [] [])) [.t 96,.c (j 4),.c (.str [40])]⟩,⟨some 95,none,.mov (.t 97)⟩])
(.cond (.t 95) (.seq (.reg [⟨some 98,none,.mov (.t 0)⟩,⟨some 99,none,.call (.c (.func 59 [] [])) [.t 98]⟩,⟨some 6,none,.hole 10⟩,⟨some 6,none,.fill 10 ⟨.t 99, none⟩⟩])
(.seq (.reg [⟨some 100,none,.mov (.t 0)⟩,⟨some 101,none,.call (.c (.func 130 [] [])) [.t 100,.c (j 4),.c (.str [41])]⟩])
(.seq (.reg [⟨some 102,none,.load true 10 (.t 6)⟩,⟨none,none,.store 10 (.t 2) (.t 102)⟩])
(.ret)))) (.seq (.reg [⟨some 104,none,.mov (.t 0)⟩,⟨some 105,none,.call (.c (.func 91 [] [])) [.t 104,.c (j 4),.c (.str [91])]⟩,⟨some 103,none,.mov (.t 105)⟩])
(.cond (.t 103) (.seq (.seq (.reg [⟨some 106,none,.mov (.t 0)⟩,⟨some 107,none,.call (.c (.func 91 [] [])) [.t 106,.c (j 4),.c (.str [93])]⟩])
(.cond (.t 107) (.seq (.reg [⟨some 108,none,.build z1 []⟩,⟨some 109,none,.bslF z1 1 [(0,10,.t 108)]⟩,⟨some 110,none,.mov (.t 3)⟩,⟨some 111,none,.build z1 [(0,1,.c (j 12)),(6,1,.t 109),(9,1,.t 110)]⟩,⟨none,none,.store 10 (.t 2) (.t 111)⟩])
(.ret)) (.skip)))
(.seq (.reg [⟨some 112,none,.mov (.t 0)⟩,⟨some 113,none,.call (.c (.func 59 [] [])) [.t 112]⟩,⟨some 7,none,.hole 10⟩,⟨some 7,none,.fill 10 ⟨.t 113, none⟩⟩])
(.seq (.reg [⟨some 114,none,.mov (.t 0)⟩,⟨some 115,none,.call (.c (.func 130 [] [])) [.t 114,.c (j 4),.c (.str [93])]⟩])
(.seq (.reg [⟨some 116,none,.load true 10 (.t 7)⟩,⟨some 117,none,.bslF z1 1 [(0,10,.t 116)]⟩,⟨some 118,none,.mov (.t 3)⟩,⟨some 119,none,.build z1 [(0,1,.c (j 12)),(6,1,.t 117),(9,1,.t 118)]⟩,⟨none,none,.store 10 (.t 2) (.t 119)⟩])
(.ret))))) (.seq (.reg [⟨some 121,none,.mov (.t 0)⟩,⟨some 122,none,.call (.c (.func 91 [] [])) [.t 121,.c (j 4),.c (.str [123])]⟩,⟨some 120,none,.mov (.t 122)⟩])
(.cond (.t 120) (.seq (.reg [⟨some 123,none,.mov (.t 0)⟩,⟨some 124,none,.mov (.t 3)⟩,⟨some 125,none,.call (.c (.func 302 [] [])) [.t 123,.t 124]⟩,⟨none,none,.store 10 (.t 2) (.t 125)⟩])
(.ret)) (.skip))))))))))))
(.seq (.reg [⟨some 126,none,.mov (.t 0)⟩,⟨some 127,none,.call (.c (.func 60 [] [])) [.t 126]⟩])
(.seq (.reg [⟨some 128,none,.build z1 []⟩,⟨none,none,.store 10 (.t 2) (.t 128)⟩])
(.ret))))))), [.cell 2 true 10], none⟩
theorem amok294 : FnOk Tryz.prog 294 am294 := FnOk.mk' quiets Tryz.func294 (pols := [(2, 2, .hole),(2, 3, .hole),(5, 3, .frz),(22, 5, .frz),(27, 2, .hole),(27, 3, .hole),(32, 1, .frz),(33, 2, .hole),(33, 3, .hole),(35, 1, .frz)]) (keep := none) (by kernel_rfl) rfl
end Go.AM.T
