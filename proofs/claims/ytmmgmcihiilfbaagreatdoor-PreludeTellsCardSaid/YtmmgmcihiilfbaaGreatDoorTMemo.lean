/- What strings.Fields hands back at eight texts. -/
import Derived.Test.YtmmgmcihiilfbaaGreatDoorTCtx
import Derived.Test.YtmmgmcihiilfbaaGreatDoorTAmI
import Derived.KernelRfl
set_option linter.unusedVariables false
set_option maxRecDepth 100000
namespace Go.AM.T
open Go.Proofs
def w0 : List UInt8 := [100,101,102,32,105,102,32,116,104,101,110,32,101,108,105,102,32,101,108,115,101,32,101,110,100,32,97,115,32,116,114,121,32,99,97,116,99,104,32,114,101,100,117,99,101,32,102,111,114,101,97,99,104,32,108,97,98,101,108,32,98,114,101,97,107,32,111,114,32,97,110,100]
def fd0 : D := .fsl [.str [100,101,102],.str [105,102],.str [116,104,101,110],.str [101,108,105,102],.str [101,108,115,101],.str [101,110,100],.str [97,115],.str [116,114,121],.str [99,97,116,99,104],.str [114,101,100,117,99,101],.str [102,111,114,101,97,99,104],.str [108,97,98,101,108],.str [98,114,101,97,107],.str [111,114],.str [97,110,100]] 15
theorem fdok0 : Known Tryz.prog X0.G 147 [.str w0] fd0 := Known.mk' good0 2000 (by kernel_rfl) (by kernel_rfl)
def w1 : List UInt8 := [111,114]
def fd1 : D := .fsl [.str [111,114]] 1
theorem fdok1 : Known Tryz.prog X0.G 147 [.str w1] fd1 := Known.mk' good0 2000 (by kernel_rfl) (by kernel_rfl)
def w2 : List UInt8 := [42,32,47,32,37]
def fd2 : D := .fsl [.str [42],.str [47],.str [37]] 3
theorem fdok2 : Known Tryz.prog X0.G 147 [.str w2] fd2 := Known.mk' good0 2000 (by kernel_rfl) (by kernel_rfl)
def w3 : List UInt8 := [43,32,45]
def fd3 : D := .fsl [.str [43],.str [45]] 2
theorem fdok3 : Known Tryz.prog X0.G 147 [.str w3] fd3 := Known.mk' good0 2000 (by kernel_rfl) (by kernel_rfl)
def w4 : List UInt8 := [61,32,124,61,32,43,61,32,45,61,32,42,61,32,47,61,32,37,61,32,47,47,61]
def fd4 : D := .fsl [.str [61],.str [124,61],.str [43,61],.str [45,61],.str [42,61],.str [47,61],.str [37,61],.str [47,47,61]] 8
theorem fdok4 : Known Tryz.prog X0.G 147 [.str w4] fd4 := Known.mk' good0 2000 (by kernel_rfl) (by kernel_rfl)
def w5 : List UInt8 := [61,61,32,33,61,32,60,61,32,62,61,32,60,32,62]
def fd5 : D := .fsl [.str [61,61],.str [33,61],.str [60,61],.str [62,61],.str [60],.str [62]] 6
theorem fdok5 : Known Tryz.prog X0.G 147 [.str w5] fd5 := Known.mk' good0 2000 (by kernel_rfl) (by kernel_rfl)
def w6 : List UInt8 := [63,47,47,32,47,47,61,32,46,46,32,124,61,32,43,61,32,45,61,32,42,61,32,47,61,32,37,61,32,61,61,32,33,61,32,60,61,32,62,61,32,47,47,32,46,32,91,32,93,32,40,32,41,32,123,32,125,32,124,32,44,32,58,32,59,32,61,32,60,32,62,32,43,32,45,32,42,32,47,32,37,32,63]
def fd6 : D := .fsl [.str [63,47,47],.str [47,47,61],.str [46,46],.str [124,61],.str [43,61],.str [45,61],.str [42,61],.str [47,61],.str [37,61],.str [61,61],.str [33,61],.str [60,61],.str [62,61],.str [47,47],.str [46],.str [91],.str [93],.str [40],.str [41],.str [123],.str [125],.str [124],.str [44],.str [58],.str [59],.str [61],.str [60],.str [62],.str [43],.str [45],.str [42],.str [47],.str [37],.str [63]] 34
theorem fdok6 : Known Tryz.prog X0.G 147 [.str w6] fd6 := Known.mk' good0 2000 (by kernel_rfl) (by kernel_rfl)
def w7 : List UInt8 := [97,110,100]
def fd7 : D := .fsl [.str [97,110,100]] 1
theorem fdok7 : Known Tryz.prog X0.G 147 [.str w7] fd7 := Known.mk' good0 2000 (by kernel_rfl) (by kernel_rfl)
noncomputable def X1 : Ctx := X0.layer 147 [([.str w0], fd0), ([.str w1], fd1), ([.str w2], fd2), ([.str w3], fd3), ([.str w4], fd4), ([.str w5], fd5), ([.str w6], fd6), ([.str w7], fd7)]
theorem good1 : Good Tryz.prog X1 := good0.layer ⟨fdok0, ⟨fdok1, ⟨fdok2, ⟨fdok3, ⟨fdok4, ⟨fdok5, ⟨fdok6, ⟨fdok7, True.intro⟩⟩⟩⟩⟩⟩⟩⟩
end Go.AM.T
