/- What a walk rewrites by. -/
import Derived.Test.YtbgdifdbgcgjnaaGreatDoorFun
import Derived.Test.YtbgdifdbgcgjnaaGreatDoorAmK
set_option linter.unusedVariables false
set_option linter.unusedSimpArgs false
set_option linter.unnecessarySimpa false
set_option maxRecDepth 100000
namespace Go.AM.T
attribute [simp] Env.dL zOE zOF finish qC qD qS qH qB qU qZ qT qR qY qV qO qI qX qE qF oQ zN5 zOf zN4 zN6 zOc zN7 zOe zNU zNT zNV zN1 zN0 zN2 zNX zNZ zNY zNW zOg zOh zOt zOu zOv zOq zOr aN sQ mX sB oC AOp.isR AOp.isE AOp.isL zOi zOj zOk zOm zOl zNQ zNR zNS strip XM XO zHz zHx zHr zHv zHs zHu zHt zHA zHD zHB zHC ZW zAa ZY ZZ zAb ZX zHy zF6 zF8 zGa zF9 zF7 zGb zHf zHe zHg zEz jS kW Na aI fM cZ gK bS Env.vB zFB zKd RA QQ QR QP QV QN QW QO mK mL nC nD j NK zMs zAz zAA zAB zAd zKi zKh zKg zID zIC zIB zEM zEL zEK zI0 zIX zJA zJy zJz VT zIn zHb zIE zHi zHh Oi zFb zMo zMm zM9 XY zIk zIl SX SW zFn zFo zFj zFk zGG zGF zMN zMu zMF zMC zMB zMK zME zMG zMH zMI zMJ zMy P0 zMA zMz zMv zMw zMx RB RC Ku zFp U9 AX Z6 HC zFq QM zAM zNd zMn XS XT zAC zMt gJ xT BS SZ SY splice zMM zMD zML Int.natCast_inj Int.ofNat_lt Int.ofNat_le TE TJ TL oM aG oL oG oF oN oI oX oK oP oJ oA oE oW zGs zGB zGH zGt zGW zGn zGL zGK zGJ zGO zGM zGN zGP zGp zGq zGC zGI zGD zGY zGX zGu zGU zGV zGZ zGR zGT zGS zGo zGr zGA zGy zGE zGQ zGx zGw zGz zGv nH nG nE zAT zAS zAU zAZ zAY zAX zAQ zAP zAR zAW zAO zAV zKc zJ7 zJY zJ4 zJ3 zJ5 zKb zKa zJ9 zJ0 zJZ zJ1 zJ8 zJX zJ6 mS mO mM QT QS QU QZ QY QX zEx zEs zEk zEp zEo zEq zEw zEv zEu zEm zEl zEn zEt zEh zEr zEy zEi zEj lH kI nT bN lA zHQ zHH zHE zHL zHM pack nR nQ nP zHJ zHI zHK zHP zHO zHN Dec.load Dec.pM Dec.take Dec.aK Dec.aD Dec.aF Dec.fz Dec.IW Dec.zFs Dec.JB Dec.HZ Dec.RX Dec.IZ Dec.zFv Token.load Token.pM Token.take Token.aK Token.aD Token.aF Token.fz Token.tG Token.J3 Token.J8 Token.u3 Token.RV Token.K0 Token.Kw Token.K1 Token.Kx Expr.load Expr.pM Expr.take Expr.aK Expr.aD Expr.aF Expr.fz Expr.tG Expr.J3 Expr.tF Expr.vP Expr.Gq Expr.J8 Expr.u3 Expr.K0 Expr.Kw Expr.IV Expr.zFr Expr.IX Expr.zFt Expr.J9 Expr.Kv Expr.JA Expr.zFw Expr.K1 Expr.Kx Pat.load Pat.pM Pat.take Pat.aK Pat.aD Pat.aF Pat.fz Pat.tG Pat.J3 Pat.tF Pat.vP Pat.Gq Pat.IY Pat.zFu Pat.J9 Pat.Kv Def.load Def.pM Def.take Def.aK Def.aD Def.aF Def.fz Def.tF Def.vP Def.IU Def.HY Def.RW Def.JC Def.zFx zN3 zOn zOo zOp WL WI WJ D5 rS
attribute [simp low] zOs
attribute [congr] zHw
theorem wI{n:Int}(h: -9223372036854775808<=n:=by omega)(h':n<=9223372036854775807:=by omega):IntKind.i64.wrap n=n:=wrap_i64 h h'
end Go.AM.T
