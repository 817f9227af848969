/- bolterlaw22.PreludeTells hands back true. -/
import Derived.Test.YtmmgmcihiilfbaaGreatDoorTTellA0
import Derived.Test.YtmmgmcihiilfbaaGreatDoorTTellA1
import Derived.Test.YtmmgmcihiilfbaaGreatDoorTTellA2
import Derived.Test.YtmmgmcihiilfbaaGreatDoorTTellA3
import Derived.Test.YtmmgmcihiilfbaaGreatDoorTTellE
import Derived.KernelRfl
set_option linter.unusedVariables false
set_option maxRecDepth 100000
namespace Go.AM.T
open Go.Proofs
theorem Tell_0 (c : Int) : fcallN X9 2001 (.func 7 [] []) [.str nm0, .int .i64 c] [] = some (.bool true, []) := match c with
  | .ofNat 0 => tc Tell_a0x0 (Tell_e48 _ _)
  | .ofNat 1 => tc Tell_a0x1 (Tell_e0 _ _)
  | .ofNat 2 => tc Tell_a0x2 (Tell_e48 _ _)
  | .ofNat (m + 3) => tc (Tell_a0x3 m) (Tell_e48 _ _)
  | .negSucc m => tc (Tell_a0xn m) (Tell_e48 _ _)
theorem Tell_1 (c : Int) : fcallN X9 2001 (.func 7 [] []) [.str nm1, .int .i64 c] [] = some (.bool true, []) := match c with
  | .ofNat 0 => tc Tell_a1x0 (Tell_e48 _ _)
  | .ofNat 1 => tc Tell_a1x1 (Tell_e1 _ _)
  | .ofNat 2 => tc Tell_a1x2 (Tell_e48 _ _)
  | .ofNat (m + 3) => tc (Tell_a1x3 m) (Tell_e48 _ _)
  | .negSucc m => tc (Tell_a1xn m) (Tell_e48 _ _)
theorem Tell_2 (c : Int) : fcallN X9 2001 (.func 7 [] []) [.str nm2, .int .i64 c] [] = some (.bool true, []) := match c with
  | .ofNat 0 => tc Tell_a2x0 (Tell_e2 _ _)
  | .ofNat 1 => tc Tell_a2x1 (Tell_e48 _ _)
  | .ofNat 2 => tc Tell_a2x2 (Tell_e48 _ _)
  | .ofNat (m + 3) => tc (Tell_a2x3 m) (Tell_e48 _ _)
  | .negSucc m => tc (Tell_a2xn m) (Tell_e48 _ _)
theorem Tell_3 (c : Int) : fcallN X9 2001 (.func 7 [] []) [.str nm3, .int .i64 c] [] = some (.bool true, []) := match c with
  | .ofNat 0 => tc Tell_a3x0 (Tell_e3 _ _)
  | .ofNat 1 => tc Tell_a3x1 (Tell_e48 _ _)
  | .ofNat 2 => tc Tell_a3x2 (Tell_e48 _ _)
  | .ofNat (m + 3) => tc (Tell_a3x3 m) (Tell_e48 _ _)
  | .negSucc m => tc (Tell_a3xn m) (Tell_e48 _ _)
theorem Tell_4 (c : Int) : fcallN X9 2001 (.func 7 [] []) [.str nm4, .int .i64 c] [] = some (.bool true, []) := match c with
  | .ofNat 0 => tc Tell_a4x0 (Tell_e4 _ _)
  | .ofNat 1 => tc Tell_a4x1 (Tell_e48 _ _)
  | .ofNat 2 => tc Tell_a4x2 (Tell_e48 _ _)
  | .ofNat (m + 3) => tc (Tell_a4x3 m) (Tell_e48 _ _)
  | .negSucc m => tc (Tell_a4xn m) (Tell_e48 _ _)
theorem Tell_5 (c : Int) : fcallN X9 2001 (.func 7 [] []) [.str nm5, .int .i64 c] [] = some (.bool true, []) := match c with
  | .ofNat 0 => tc Tell_a5x0 (Tell_e5 _ _)
  | .ofNat 1 => tc Tell_a5x1 (Tell_e48 _ _)
  | .ofNat 2 => tc Tell_a5x2 (Tell_e48 _ _)
  | .ofNat (m + 3) => tc (Tell_a5x3 m) (Tell_e48 _ _)
  | .negSucc m => tc (Tell_a5xn m) (Tell_e48 _ _)
theorem Tell_6 (c : Int) : fcallN X9 2001 (.func 7 [] []) [.str nm6, .int .i64 c] [] = some (.bool true, []) := match c with
  | .ofNat 0 => tc Tell_a6x0 (Tell_e8 _ _)
  | .ofNat 1 => tc Tell_a6x1 (Tell_e6 _ _)
  | .ofNat 2 => tc Tell_a6x2 (Tell_e7 _ _)
  | .ofNat (m + 3) => tc (Tell_a6x3 m) (Tell_e48 _ _)
  | .negSucc m => tc (Tell_a6xn m) (Tell_e48 _ _)
theorem Tell_7 (c : Int) : fcallN X9 2001 (.func 7 [] []) [.str nm7, .int .i64 c] [] = some (.bool true, []) := match c with
  | .ofNat 0 => tc Tell_a7x0 (Tell_e10 _ _)
  | .ofNat 1 => tc Tell_a7x1 (Tell_e9 _ _)
  | .ofNat 2 => tc Tell_a7x2 (Tell_e48 _ _)
  | .ofNat (m + 3) => tc (Tell_a7x3 m) (Tell_e48 _ _)
  | .negSucc m => tc (Tell_a7xn m) (Tell_e48 _ _)
theorem Tell_8 (c : Int) : fcallN X9 2001 (.func 7 [] []) [.str nm8, .int .i64 c] [] = some (.bool true, []) := match c with
  | .ofNat 0 => tc Tell_a8x0 (Tell_e12 _ _)
  | .ofNat 1 => tc Tell_a8x1 (Tell_e11 _ _)
  | .ofNat 2 => tc Tell_a8x2 (Tell_e48 _ _)
  | .ofNat (m + 3) => tc (Tell_a8x3 m) (Tell_e48 _ _)
  | .negSucc m => tc (Tell_a8xn m) (Tell_e48 _ _)
theorem Tell_9 (c : Int) : fcallN X9 2001 (.func 7 [] []) [.str nm9, .int .i64 c] [] = some (.bool true, []) := match c with
  | .ofNat 0 => tc Tell_a9x0 (Tell_e48 _ _)
  | .ofNat 1 => tc Tell_a9x1 (Tell_e48 _ _)
  | .ofNat 2 => tc Tell_a9x2 (Tell_e13 _ _)
  | .ofNat (m + 3) => tc (Tell_a9x3 m) (Tell_e48 _ _)
  | .negSucc m => tc (Tell_a9xn m) (Tell_e48 _ _)
theorem Tell_10 (c : Int) : fcallN X9 2001 (.func 7 [] []) [.str nm10, .int .i64 c] [] = some (.bool true, []) := match c with
  | .ofNat 0 => tc Tell_a10x0 (Tell_e48 _ _)
  | .ofNat 1 => tc Tell_a10x1 (Tell_e48 _ _)
  | .ofNat 2 => tc Tell_a10x2 (Tell_e14 _ _)
  | .ofNat (m + 3) => tc (Tell_a10x3 m) (Tell_e48 _ _)
  | .negSucc m => tc (Tell_a10xn m) (Tell_e48 _ _)
theorem Tell_11 (c : Int) : fcallN X9 2001 (.func 7 [] []) [.str nm11, .int .i64 c] [] = some (.bool true, []) := match c with
  | .ofNat 0 => tc Tell_a11x0 (Tell_e48 _ _)
  | .ofNat 1 => tc Tell_a11x1 (Tell_e48 _ _)
  | .ofNat 2 => tc Tell_a11x2 (Tell_e15 _ _)
  | .ofNat (m + 3) => tc (Tell_a11x3 m) (Tell_e48 _ _)
  | .negSucc m => tc (Tell_a11xn m) (Tell_e48 _ _)
theorem Tell_12 (c : Int) : fcallN X9 2001 (.func 7 [] []) [.str nm12, .int .i64 c] [] = some (.bool true, []) := match c with
  | .ofNat 0 => tc Tell_a12x0 (Tell_e48 _ _)
  | .ofNat 1 => tc Tell_a12x1 (Tell_e16 _ _)
  | .ofNat 2 => tc Tell_a12x2 (Tell_e48 _ _)
  | .ofNat (m + 3) => tc (Tell_a12x3 m) (Tell_e48 _ _)
  | .negSucc m => tc (Tell_a12xn m) (Tell_e48 _ _)
theorem Tell_13 (c : Int) : fcallN X9 2001 (.func 7 [] []) [.str nm13, .int .i64 c] [] = some (.bool true, []) := match c with
  | .ofNat 0 => tc Tell_a13x0 (Tell_e48 _ _)
  | .ofNat 1 => tc Tell_a13x1 (Tell_e18 _ _)
  | .ofNat 2 => tc Tell_a13x2 (Tell_e17 _ _)
  | .ofNat (m + 3) => tc (Tell_a13x3 m) (Tell_e48 _ _)
  | .negSucc m => tc (Tell_a13xn m) (Tell_e48 _ _)
theorem Tell_14 (c : Int) : fcallN X9 2001 (.func 7 [] []) [.str nm14, .int .i64 c] [] = some (.bool true, []) := match c with
  | .ofNat 0 => tc Tell_a14x0 (Tell_e48 _ _)
  | .ofNat 1 => tc Tell_a14x1 (Tell_e19 _ _)
  | .ofNat 2 => tc Tell_a14x2 (Tell_e48 _ _)
  | .ofNat (m + 3) => tc (Tell_a14x3 m) (Tell_e48 _ _)
  | .negSucc m => tc (Tell_a14xn m) (Tell_e48 _ _)
theorem Tell_15 (c : Int) : fcallN X9 2001 (.func 7 [] []) [.str nm15, .int .i64 c] [] = some (.bool true, []) := match c with
  | .ofNat 0 => tc Tell_a15x0 (Tell_e48 _ _)
  | .ofNat 1 => tc Tell_a15x1 (Tell_e20 _ _)
  | .ofNat 2 => tc Tell_a15x2 (Tell_e48 _ _)
  | .ofNat (m + 3) => tc (Tell_a15x3 m) (Tell_e48 _ _)
  | .negSucc m => tc (Tell_a15xn m) (Tell_e48 _ _)
theorem Tell_16 (c : Int) : fcallN X9 2001 (.func 7 [] []) [.str nm16, .int .i64 c] [] = some (.bool true, []) := match c with
  | .ofNat 0 => tc Tell_a16x0 (Tell_e48 _ _)
  | .ofNat 1 => tc Tell_a16x1 (Tell_e21 _ _)
  | .ofNat 2 => tc Tell_a16x2 (Tell_e48 _ _)
  | .ofNat (m + 3) => tc (Tell_a16x3 m) (Tell_e48 _ _)
  | .negSucc m => tc (Tell_a16xn m) (Tell_e48 _ _)
theorem Tell_17 (c : Int) : fcallN X9 2001 (.func 7 [] []) [.str nm17, .int .i64 c] [] = some (.bool true, []) := match c with
  | .ofNat 0 => tc Tell_a17x0 (Tell_e48 _ _)
  | .ofNat 1 => tc Tell_a17x1 (Tell_e22 _ _)
  | .ofNat 2 => tc Tell_a17x2 (Tell_e48 _ _)
  | .ofNat (m + 3) => tc (Tell_a17x3 m) (Tell_e48 _ _)
  | .negSucc m => tc (Tell_a17xn m) (Tell_e48 _ _)
theorem Tell_18 (c : Int) : fcallN X9 2001 (.func 7 [] []) [.str nm18, .int .i64 c] [] = some (.bool true, []) := match c with
  | .ofNat 0 => tc Tell_a18x0 (Tell_e48 _ _)
  | .ofNat 1 => tc Tell_a18x1 (Tell_e23 _ _)
  | .ofNat 2 => tc Tell_a18x2 (Tell_e48 _ _)
  | .ofNat (m + 3) => tc (Tell_a18x3 m) (Tell_e48 _ _)
  | .negSucc m => tc (Tell_a18xn m) (Tell_e48 _ _)
theorem Tell_19 (c : Int) : fcallN X9 2001 (.func 7 [] []) [.str nm19, .int .i64 c] [] = some (.bool true, []) := match c with
  | .ofNat 0 => tc Tell_a19x0 (Tell_e48 _ _)
  | .ofNat 1 => tc Tell_a19x1 (Tell_e24 _ _)
  | .ofNat 2 => tc Tell_a19x2 (Tell_e48 _ _)
  | .ofNat (m + 3) => tc (Tell_a19x3 m) (Tell_e48 _ _)
  | .negSucc m => tc (Tell_a19xn m) (Tell_e48 _ _)
theorem Tell_20 (c : Int) : fcallN X9 2001 (.func 7 [] []) [.str nm20, .int .i64 c] [] = some (.bool true, []) := match c with
  | .ofNat 0 => tc Tell_a20x0 (Tell_e48 _ _)
  | .ofNat 1 => tc Tell_a20x1 (Tell_e25 _ _)
  | .ofNat 2 => tc Tell_a20x2 (Tell_e48 _ _)
  | .ofNat (m + 3) => tc (Tell_a20x3 m) (Tell_e48 _ _)
  | .negSucc m => tc (Tell_a20xn m) (Tell_e48 _ _)
theorem Tell_21 (c : Int) : fcallN X9 2001 (.func 7 [] []) [.str nm21, .int .i64 c] [] = some (.bool true, []) := match c with
  | .ofNat 0 => tc Tell_a21x0 (Tell_e48 _ _)
  | .ofNat 1 => tc Tell_a21x1 (Tell_e26 _ _)
  | .ofNat 2 => tc Tell_a21x2 (Tell_e48 _ _)
  | .ofNat (m + 3) => tc (Tell_a21x3 m) (Tell_e48 _ _)
  | .negSucc m => tc (Tell_a21xn m) (Tell_e48 _ _)
theorem Tell_22 (c : Int) : fcallN X9 2001 (.func 7 [] []) [.str nm22, .int .i64 c] [] = some (.bool true, []) := match c with
  | .ofNat 0 => tc Tell_a22x0 (Tell_e48 _ _)
  | .ofNat 1 => tc Tell_a22x1 (Tell_e27 _ _)
  | .ofNat 2 => tc Tell_a22x2 (Tell_e48 _ _)
  | .ofNat (m + 3) => tc (Tell_a22x3 m) (Tell_e48 _ _)
  | .negSucc m => tc (Tell_a22xn m) (Tell_e48 _ _)
theorem Tell_23 (c : Int) : fcallN X9 2001 (.func 7 [] []) [.str nm23, .int .i64 c] [] = some (.bool true, []) := match c with
  | .ofNat 0 => tc Tell_a23x0 (Tell_e48 _ _)
  | .ofNat 1 => tc Tell_a23x1 (Tell_e48 _ _)
  | .ofNat 2 => tc Tell_a23x2 (Tell_e28 _ _)
  | .ofNat (m + 3) => tc (Tell_a23x3 m) (Tell_e48 _ _)
  | .negSucc m => tc (Tell_a23xn m) (Tell_e48 _ _)
theorem Tell_24 (c : Int) : fcallN X9 2001 (.func 7 [] []) [.str nm24, .int .i64 c] [] = some (.bool true, []) := match c with
  | .ofNat 0 => tc Tell_a24x0 (Tell_e48 _ _)
  | .ofNat 1 => tc Tell_a24x1 (Tell_e48 _ _)
  | .ofNat 2 => tc Tell_a24x2 (Tell_e29 _ _)
  | .ofNat (m + 3) => tc (Tell_a24x3 m) (Tell_e48 _ _)
  | .negSucc m => tc (Tell_a24xn m) (Tell_e48 _ _)
theorem Tell_25 (c : Int) : fcallN X9 2001 (.func 7 [] []) [.str nm25, .int .i64 c] [] = some (.bool true, []) := match c with
  | .ofNat 0 => tc Tell_a25x0 (Tell_e30 _ _)
  | .ofNat 1 => tc Tell_a25x1 (Tell_e31 _ _)
  | .ofNat 2 => tc Tell_a25x2 (Tell_e48 _ _)
  | .ofNat (m + 3) => tc (Tell_a25x3 m) (Tell_e48 _ _)
  | .negSucc m => tc (Tell_a25xn m) (Tell_e48 _ _)
theorem Tell_26 (c : Int) : fcallN X9 2001 (.func 7 [] []) [.str nm26, .int .i64 c] [] = some (.bool true, []) := match c with
  | .ofNat 0 => tc Tell_a26x0 (Tell_e32 _ _)
  | .ofNat 1 => tc Tell_a26x1 (Tell_e48 _ _)
  | .ofNat 2 => tc Tell_a26x2 (Tell_e48 _ _)
  | .ofNat (m + 3) => tc (Tell_a26x3 m) (Tell_e48 _ _)
  | .negSucc m => tc (Tell_a26xn m) (Tell_e48 _ _)
theorem Tell_27 (c : Int) : fcallN X9 2001 (.func 7 [] []) [.str nm27, .int .i64 c] [] = some (.bool true, []) := match c with
  | .ofNat 0 => tc Tell_a27x0 (Tell_e48 _ _)
  | .ofNat 1 => tc Tell_a27x1 (Tell_e33 _ _)
  | .ofNat 2 => tc Tell_a27x2 (Tell_e48 _ _)
  | .ofNat (m + 3) => tc (Tell_a27x3 m) (Tell_e48 _ _)
  | .negSucc m => tc (Tell_a27xn m) (Tell_e48 _ _)
theorem Tell_28 (c : Int) : fcallN X9 2001 (.func 7 [] []) [.str nm28, .int .i64 c] [] = some (.bool true, []) := match c with
  | .ofNat 0 => tc Tell_a28x0 (Tell_e34 _ _)
  | .ofNat 1 => tc Tell_a28x1 (Tell_e48 _ _)
  | .ofNat 2 => tc Tell_a28x2 (Tell_e48 _ _)
  | .ofNat (m + 3) => tc (Tell_a28x3 m) (Tell_e48 _ _)
  | .negSucc m => tc (Tell_a28xn m) (Tell_e48 _ _)
theorem Tell_29 (c : Int) : fcallN X9 2001 (.func 7 [] []) [.str nm29, .int .i64 c] [] = some (.bool true, []) := match c with
  | .ofNat 0 => tc Tell_a29x0 (Tell_e48 _ _)
  | .ofNat 1 => tc Tell_a29x1 (Tell_e35 _ _)
  | .ofNat 2 => tc Tell_a29x2 (Tell_e48 _ _)
  | .ofNat (m + 3) => tc (Tell_a29x3 m) (Tell_e48 _ _)
  | .negSucc m => tc (Tell_a29xn m) (Tell_e48 _ _)
theorem Tell_30 (c : Int) : fcallN X9 2001 (.func 7 [] []) [.str nm30, .int .i64 c] [] = some (.bool true, []) := match c with
  | .ofNat 0 => tc Tell_a30x0 (Tell_e48 _ _)
  | .ofNat 1 => tc Tell_a30x1 (Tell_e36 _ _)
  | .ofNat 2 => tc Tell_a30x2 (Tell_e48 _ _)
  | .ofNat (m + 3) => tc (Tell_a30x3 m) (Tell_e48 _ _)
  | .negSucc m => tc (Tell_a30xn m) (Tell_e48 _ _)
theorem Tell_31 (c : Int) : fcallN X9 2001 (.func 7 [] []) [.str nm31, .int .i64 c] [] = some (.bool true, []) := match c with
  | .ofNat 0 => tc Tell_a31x0 (Tell_e48 _ _)
  | .ofNat 1 => tc Tell_a31x1 (Tell_e37 _ _)
  | .ofNat 2 => tc Tell_a31x2 (Tell_e48 _ _)
  | .ofNat (m + 3) => tc (Tell_a31x3 m) (Tell_e48 _ _)
  | .negSucc m => tc (Tell_a31xn m) (Tell_e48 _ _)
theorem Tell_32 (c : Int) : fcallN X9 2001 (.func 7 [] []) [.str nm32, .int .i64 c] [] = some (.bool true, []) := match c with
  | .ofNat 0 => tc Tell_a32x0 (Tell_e48 _ _)
  | .ofNat 1 => tc Tell_a32x1 (Tell_e38 _ _)
  | .ofNat 2 => tc Tell_a32x2 (Tell_e48 _ _)
  | .ofNat (m + 3) => tc (Tell_a32x3 m) (Tell_e48 _ _)
  | .negSucc m => tc (Tell_a32xn m) (Tell_e48 _ _)
theorem Tell_33 (c : Int) : fcallN X9 2001 (.func 7 [] []) [.str nm33, .int .i64 c] [] = some (.bool true, []) := match c with
  | .ofNat 0 => tc Tell_a33x0 (Tell_e48 _ _)
  | .ofNat 1 => tc Tell_a33x1 (Tell_e39 _ _)
  | .ofNat 2 => tc Tell_a33x2 (Tell_e48 _ _)
  | .ofNat (m + 3) => tc (Tell_a33x3 m) (Tell_e48 _ _)
  | .negSucc m => tc (Tell_a33xn m) (Tell_e48 _ _)
theorem Tell_34 (c : Int) : fcallN X9 2001 (.func 7 [] []) [.str nm34, .int .i64 c] [] = some (.bool true, []) := match c with
  | .ofNat 0 => tc Tell_a34x0 (Tell_e48 _ _)
  | .ofNat 1 => tc Tell_a34x1 (Tell_e40 _ _)
  | .ofNat 2 => tc Tell_a34x2 (Tell_e41 _ _)
  | .ofNat (m + 3) => tc (Tell_a34x3 m) (Tell_e48 _ _)
  | .negSucc m => tc (Tell_a34xn m) (Tell_e48 _ _)
theorem Tell_35 (c : Int) : fcallN X9 2001 (.func 7 [] []) [.str nm35, .int .i64 c] [] = some (.bool true, []) := match c with
  | .ofNat 0 => tc Tell_a35x0 (Tell_e42 _ _)
  | .ofNat 1 => tc Tell_a35x1 (Tell_e48 _ _)
  | .ofNat 2 => tc Tell_a35x2 (Tell_e48 _ _)
  | .ofNat (m + 3) => tc (Tell_a35x3 m) (Tell_e48 _ _)
  | .negSucc m => tc (Tell_a35xn m) (Tell_e48 _ _)
theorem Tell_36 (c : Int) : fcallN X9 2001 (.func 7 [] []) [.str nm36, .int .i64 c] [] = some (.bool true, []) := match c with
  | .ofNat 0 => tc Tell_a36x0 (Tell_e43 _ _)
  | .ofNat 1 => tc Tell_a36x1 (Tell_e48 _ _)
  | .ofNat 2 => tc Tell_a36x2 (Tell_e48 _ _)
  | .ofNat (m + 3) => tc (Tell_a36x3 m) (Tell_e48 _ _)
  | .negSucc m => tc (Tell_a36xn m) (Tell_e48 _ _)
theorem Tell_37 (c : Int) : fcallN X9 2001 (.func 7 [] []) [.str nm37, .int .i64 c] [] = some (.bool true, []) := match c with
  | .ofNat 0 => tc Tell_a37x0 (Tell_e48 _ _)
  | .ofNat 1 => tc Tell_a37x1 (Tell_e44 _ _)
  | .ofNat 2 => tc Tell_a37x2 (Tell_e48 _ _)
  | .ofNat (m + 3) => tc (Tell_a37x3 m) (Tell_e48 _ _)
  | .negSucc m => tc (Tell_a37xn m) (Tell_e48 _ _)
theorem Tell_38 (c : Int) : fcallN X9 2001 (.func 7 [] []) [.str nm38, .int .i64 c] [] = some (.bool true, []) := match c with
  | .ofNat 0 => tc Tell_a38x0 (Tell_e48 _ _)
  | .ofNat 1 => tc Tell_a38x1 (Tell_e45 _ _)
  | .ofNat 2 => tc Tell_a38x2 (Tell_e48 _ _)
  | .ofNat (m + 3) => tc (Tell_a38x3 m) (Tell_e48 _ _)
  | .negSucc m => tc (Tell_a38xn m) (Tell_e48 _ _)
theorem Tell_39 (c : Int) : fcallN X9 2001 (.func 7 [] []) [.str nm39, .int .i64 c] [] = some (.bool true, []) := match c with
  | .ofNat 0 => tc Tell_a39x0 (Tell_e48 _ _)
  | .ofNat 1 => tc Tell_a39x1 (Tell_e46 _ _)
  | .ofNat 2 => tc Tell_a39x2 (Tell_e48 _ _)
  | .ofNat (m + 3) => tc (Tell_a39x3 m) (Tell_e48 _ _)
  | .negSucc m => tc (Tell_a39xn m) (Tell_e48 _ _)
theorem Tell_40 (c : Int) : fcallN X9 2001 (.func 7 [] []) [.str nm40, .int .i64 c] [] = some (.bool true, []) := match c with
  | .ofNat 0 => tc Tell_a40x0 (Tell_e47 _ _)
  | .ofNat 1 => tc Tell_a40x1 (Tell_e48 _ _)
  | .ofNat 2 => tc Tell_a40x2 (Tell_e48 _ _)
  | .ofNat (m + 3) => tc (Tell_a40x3 m) (Tell_e48 _ _)
  | .negSucc m => tc (Tell_a40xn m) (Tell_e48 _ _)
theorem Tell_an (s : List UInt8) (c : Int) : tL (.sym s nms) (.int .i64 c) = tR (.sym s nms) (.int .i64 c) zd (.bool false) := by kernel_rfl
theorem Tell_none (s : List UInt8) (c : Int) : fcallN X9 2001 (.func 7 [] []) [.sym s nms, .int .i64 c] [] = some (.bool true, []) := tc (Tell_an s c) (Tell_e48 _ _)
theorem Tell_each (c : Int) : Each (fun s => fcallN X9 2001 (.func 7 [] []) [.str s, .int .i64 c] [] = some (.bool true, [])) nms :=
  ⟨Tell_0 c, ⟨Tell_1 c, ⟨Tell_2 c, ⟨Tell_3 c, ⟨Tell_4 c, ⟨Tell_5 c, ⟨Tell_6 c, ⟨Tell_7 c, ⟨Tell_8 c, ⟨Tell_9 c, ⟨Tell_10 c, ⟨Tell_11 c, ⟨Tell_12 c, ⟨Tell_13 c, ⟨Tell_14 c, ⟨Tell_15 c, ⟨Tell_16 c, ⟨Tell_17 c, ⟨Tell_18 c, ⟨Tell_19 c, ⟨Tell_20 c, ⟨Tell_21 c, ⟨Tell_22 c, ⟨Tell_23 c, ⟨Tell_24 c, ⟨Tell_25 c, ⟨Tell_26 c, ⟨Tell_27 c, ⟨Tell_28 c, ⟨Tell_29 c, ⟨Tell_30 c, ⟨Tell_31 c, ⟨Tell_32 c, ⟨Tell_33 c, ⟨Tell_34 c, ⟨Tell_35 c, ⟨Tell_36 c, ⟨Tell_37 c, ⟨Tell_38 c, ⟨Tell_39 c, ⟨Tell_40 c, True.intro⟩⟩⟩⟩⟩⟩⟩⟩⟩⟩⟩⟩⟩⟩⟩⟩⟩⟩⟩⟩⟩⟩⟩⟩⟩⟩⟩⟩⟩⟩⟩⟩⟩⟩⟩⟩⟩⟩⟩⟩⟩
end Go.AM.T
