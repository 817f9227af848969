/- What strings.Fields hands back at eight texts. -/
import Derived.Test.YtmmgmcihiilfbabGreatDoorCtx
import Derived.Test.YtmmgmcihiilfbabGreatDoorAmI
import Derived.KernelRfl
set_option linter.unusedVariables false
set_option maxRecDepth 100000
namespace Go.AM.T
open Go.Proofs
def w0 : List UInt8 := [116,101,120,116,32,106,115,111,110,32,98,97,115,101,54,52,32,98,97,115,101,54,52,100,32,117,114,105,32,104,116,109,108,32,99,115,118,32,116,115,118,32,115,104]
def fd0 : D := .fsl [.str [116,101,120,116],.str [106,115,111,110],.str [98,97,115,101,54,52],.str [98,97,115,101,54,52,100],.str [117,114,105],.str [104,116,109,108],.str [99,115,118],.str [116,115,118],.str [115,104]] 9
theorem fdok0 : Known Tryz.prog X0.G 71 [.str w0] fd0 := Known.mk' good0 2000 (by kernel_rfl) (by kernel_rfl)
def w1 : List UInt8 := [63,47,47,32,47,47,61,32,46,46,32,124,61,32,43,61,32,45,61,32,42,61,32,47,61,32,37,61,32,61,61,32,33,61,32,60,61,32,62,61,32,47,47,32,46,32,91,32,93,32,40,32,41,32,123,32,125,32,124,32,44,32,58,32,59,32,61,32,60,32,62,32,43,32,45,32,42,32,47,32,37,32,63]
def fd1 : D := .fsl [.str [63,47,47],.str [47,47,61],.str [46,46],.str [124,61],.str [43,61],.str [45,61],.str [42,61],.str [47,61],.str [37,61],.str [61,61],.str [33,61],.str [60,61],.str [62,61],.str [47,47],.str [46],.str [91],.str [93],.str [40],.str [41],.str [123],.str [125],.str [124],.str [44],.str [58],.str [59],.str [61],.str [60],.str [62],.str [43],.str [45],.str [42],.str [47],.str [37],.str [63]] 34
theorem fdok1 : Known Tryz.prog X0.G 71 [.str w1] fd1 := Known.mk' good0 2000 (by kernel_rfl) (by kernel_rfl)
noncomputable def X1 : Ctx := X0.layer 71 [([.str w0], fd0), ([.str w1], fd1)]
theorem good1 : Good Tryz.prog X1 := good0.layer ⟨fdok0, ⟨fdok1, True.intro⟩⟩
end Go.AM.T
