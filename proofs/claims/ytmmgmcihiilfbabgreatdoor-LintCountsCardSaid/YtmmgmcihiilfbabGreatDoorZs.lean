/- Short names of data. -/
import Derived.Test.YtmmgmcihiilfbabGreatDoorAmI
set_option linter.unusedVariables false
namespace Go.AM.T
def j (n : Nat) : D := .int .i64 (.ofNat n)
def z0 : List D := [j 0,j 0,j 0,j 0,j 0,j 0,j 0]
def z1 : List D := [j 0,.str [],j 0]
def z2 : List D := [j 0,.str [],.str [],.bool false,.nilsl,j 0,.nilsl,.nilsl,.nilsl,j 0]
def z3 : List D := [.str [],j 0,.nilsl]
def z4 : List D := [.nilsl,j 0,j 0,j 0]
def z5 : List D := [.nilsl,.nilsl]
def z6 : List D := [j 0,.str [],.nilsl,.nilsl]
def z7 : List D := [j 0,.str [],.bool false,.nilsl,j 0,j 0]
def z8 : List D := [.bool false,.nilsl,j 0]
def z9 : List D := [.str [],.nilsl,j 0,.str [],.str [],.bool false,.nilsl,j 0,.nilsl,.nilsl,.nilsl,j 0]
def z10 : List D := [.bool false,.bool false,.str [],.str [],.str []]
def z11 : List D := [.str [],.bool false]
def z12 : List D := [.int .u32 (.ofNat 0)]
def z13 : List D := [.int .u8 (.ofNat 0)]
def z14 : List D := [.int .u32 (.ofNat 0),.int .u32 (.ofNat 0)]
def z15 : List D := [j 0,.str [],.str [],.bool false,.nilsl,j 0,.nilsl,.nilsl,.nilsl,j 0,j 0,.str [],.str [],.bool false,.nilsl,j 0,.nilsl,.nilsl,.nilsl,j 0]
end Go.AM.T
