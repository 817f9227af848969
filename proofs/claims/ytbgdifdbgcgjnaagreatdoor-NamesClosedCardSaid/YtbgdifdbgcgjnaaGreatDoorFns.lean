/- The functions of the abstract machine are the program's. -/
import Derived.Test.YtbgdifdbgcgjnaaGreatDoorProg
import Derived.Test.YtbgdifdbgcgjnaaGreatDoorCodes1
import Derived.KernelRfl
set_option linter.unusedVariables false
set_option linter.unusedSimpArgs false
set_option linter.unnecessarySimpa false
set_option maxRecDepth 100000
namespace Go.AM.T
open Go.Proofs
abbrev FQ(f:Nat)(a:AFunc):Prop:=T9 Tryz.prog f a
theorem mQ{f:Nat}{fn:Func}{af:AFunc}(hf:Tryz.prog.funcs[f]? =some fn)(pols:List (Nat×Nat×Pol))(keep:Option Nat)(hc:wP Tryz.prog pols keep fn=some af)(hq:uY [] pols=true):FQ f af:=T9.mk' (l:=[]) (fun _ h=>by cases h) hf hc hq
theorem mN{f:Nat}{fn:Func}{af:AFunc}(hf:Tryz.prog.funcs[f]? =some fn)(hc:wP Tryz.prog [] none fn=some af):FQ f af:=mQ hf [] none hc rfl
theorem zEg:FQ 3 Zj:=mQ Tryz.func3 [(3,6,.hole),(3,7,.hole),(4,3,.frz),(4,5,.frz),(4,7,.hole),(4,8,.hole),(9,0,.res [(0,1)]),(14,5,.frz)] none (by kernel_rfl) rfl
theorem zEf:FQ 9 PC:=mQ Tryz.func9 [(1,5,.hole),(1,6,.hole),(3,9,.frz)] none (by kernel_rfl) rfl
theorem zDF:FQ 10 Xd:=mN Tryz.func10 (by kernel_rfl)
theorem zCx:FQ 11 Tn:=mQ Tryz.func11 [(0,0,.frz),(0,1,.res [(0,1)]),(3,1,.res [(0,1)]),(4,0,.res [(0,1)]),(8,2,.frz)] (some 0) (by kernel_rfl) rfl
theorem zEe:FQ 12 Zi:=mN Tryz.func12 (by kernel_rfl)
theorem zEd:FQ 13 Zg:=mN Tryz.func13 (by kernel_rfl)
theorem zCz:FQ 14 Tr:=mQ Tryz.func14 [(0,0,.res [(0,1)]),(1,0,.res [(0,1)]),(4,2,.hole),(4,3,.hole),(12,2,.frz)] none (by kernel_rfl) rfl
theorem zDW:FQ 23 Yd:=mQ Tryz.func23 [(3,2,.res [(2,6),(3,1)])] none (by kernel_rfl) rfl
theorem zDD:FQ 24 Wy:=mQ Tryz.func24 [(8,2,.hole),(8,3,.hole)] none (by kernel_rfl) rfl
theorem zBI:FQ 25 Qv:=mQ Tryz.func25 [(0,0,.frz)] none (by kernel_rfl) rfl
theorem zCv:FQ 26 Tk:=mQ Tryz.func26 [(0,0,.frz)] none (by kernel_rfl) rfl
theorem zBX:FQ 27 Rl:=mN Tryz.func27 (by kernel_rfl)
theorem zD6:FQ 31 Ys:=mQ Tryz.func31 [(0,0,.frz),(0,1,.frz)] none (by kernel_rfl) rfl
theorem zCr:FQ 39 Td:=mQ Tryz.func39 [(4,3,.frz)] none (by kernel_rfl) rfl
theorem zCq:FQ 40 Ta:=mQ Tryz.func40 [(0,0,.res [(0,1)]),(1,0,.res [(0,1)]),(5,3,.frz)] none (by kernel_rfl) rfl
theorem zDL:FQ 43 Xo:=mN Tryz.func43 (by kernel_rfl)
theorem zDQ:FQ 44 Xv:=mN Tryz.func44 (by kernel_rfl)
theorem zDZ:FQ 45 Yi:=mQ Tryz.func45 [(0,0,.frz)] none (by kernel_rfl) rfl
theorem zDb:FQ 46 Vn:=mQ Tryz.func46 [(1,2,.res []),(1,1,.hole),(7,3,.frz)] none (by kernel_rfl) rfl
theorem zCX:FQ 47 Uv:=mN Tryz.func47 (by kernel_rfl)
theorem zDG:FQ 48 Xf:=mQ Tryz.func48 [(0,0,.frz)] none (by kernel_rfl) rfl
theorem zDl:FQ 49 Vy:=mN Tryz.func49 (by kernel_rfl)
theorem zDB:FQ 50 Wv:=mQ Tryz.func50 [(0,0,.frz)] none (by kernel_rfl) rfl
theorem zBH:FQ 51 Qu:=mQ Tryz.func51 [(0,0,.frz)] none (by kernel_rfl) rfl
theorem zBA:FQ 52 Qi:=mQ Tryz.func52 [(0,0,.frz),(1,1,.res []),(1,0,.hole),(3,0,.hole),(3,1,.hole)] none (by kernel_rfl) rfl
theorem zBt:FQ 53 Pz:=mQ Tryz.func53 [(0,0,.frz),(5,0,.hole),(5,1,.hole)] none (by kernel_rfl) rfl
theorem zCu:FQ 54 Tj:=mN Tryz.func54 (by kernel_rfl)
theorem zCm:FQ 55 Sq:=mQ Tryz.func55 [(0,1,.frz),(8,6,.frz),(8,22,.frz),(10,5,.frz),(14,6,.frz),(14,24,.frz)] none (by kernel_rfl) rfl
theorem zBN:FQ 56 Qy:=mN Tryz.func56 (by kernel_rfl)
theorem zBK:FQ 66 OL:=mN Tryz.func66 (by kernel_rfl)
theorem zCw:FQ 69 Tm:=mQ Tryz.func69 [(1,0,.res [(0,1)]),(4,7,.frz),(8,1,.frz)] none (by kernel_rfl) rfl
theorem zDS:FQ 70 Xx:=mN Tryz.func70 (by kernel_rfl)
theorem zDU:FQ 71 Ya:=mN Tryz.func71 (by kernel_rfl)
theorem zDO:FQ 72 Xr:=mN Tryz.func72 (by kernel_rfl)
theorem zDN:FQ 73 Xq:=mQ Tryz.func73 [(4,11,.hole),(4,12,.hole)] none (by kernel_rfl) rfl
theorem zDT:FQ 74 Xy:=mQ Tryz.func74 [(0,0,.frz),(4,6,.frz)] none (by kernel_rfl) rfl
theorem zDJ:FQ 75 Xl:=mQ Tryz.func75 [(1,0,.res [(0,1)]),(22,5,.frz)] none (by kernel_rfl) rfl
theorem zDK:FQ 76 Xn:=mN Tryz.func76 (by kernel_rfl)
theorem zDV:FQ 77 Yc:=mN Tryz.func77 (by kernel_rfl)
theorem zDY:FQ 78 Yh:=mN Tryz.func78 (by kernel_rfl)
theorem zDX:FQ 79 Yf:=mQ Tryz.func79 [(1,0,.frz)] none (by kernel_rfl) rfl
theorem zD4:FQ 80 Yq:=mN Tryz.func80 (by kernel_rfl)
theorem zDq:FQ 81 Wd:=mN Tryz.func81 (by kernel_rfl)
theorem zDk:FQ 82 Vx:=mN Tryz.func82 (by kernel_rfl)
theorem zDj:FQ 83 Vw:=mN Tryz.func83 (by kernel_rfl)
theorem zC5:FQ 84 Ve:=mQ Tryz.func84 [(3,2,.hole),(3,3,.hole),(4,1,.frz),(4,4,.frz),(8,3,.frz),(11,3,.frz)] none (by kernel_rfl) rfl
theorem zC1:FQ 85 Uz:=mN Tryz.func85 (by kernel_rfl)
theorem zCU:FQ 86 Us:=mN Tryz.func86 (by kernel_rfl)
theorem zDz:FQ 87 Wr:=mQ Tryz.func87 [(0,0,.frz)] none (by kernel_rfl) rfl
theorem zDE:FQ 88 Xc:=mQ Tryz.func88 [(0,0,.frz),(0,1,.res [(0,10)]),(1,0,.res [(0,10)]),(10,7,.frz)] none (by kernel_rfl) rfl
end Go.AM.T
namespace Go.AM.T
open Go.Proofs
theorem zBx:FQ 89 Qd:=mQ Tryz.func89 [(0,0,.frz),(0,1,.frz),(3,6,.res []),(3,5,.hole),(5,0,.hole),(5,1,.hole)] none (by kernel_rfl) rfl
theorem zBG:FQ 90 Qs:=mQ Tryz.func90 [(0,0,.frz)] none (by kernel_rfl) rfl
theorem zA9:FQ 91 Pa:=mQ Tryz.func91 [(0,0,.frz)] none (by kernel_rfl) rfl
theorem zCt:FQ 92 Tg:=mQ Tryz.func92 [(0,0,.frz)] none (by kernel_rfl) rfl
theorem zCs:FQ 93 Tf:=mN Tryz.func93 (by kernel_rfl)
theorem zCp:FQ 94 Sx:=mN Tryz.func94 (by kernel_rfl)
theorem zCk:FQ 95 Sn:=mN Tryz.func95 (by kernel_rfl)
theorem zCn:FQ 96 Ss:=mQ Tryz.func96 [(0,1,.frz),(0,2,.frz),(1,7,.frz),(8,4,.frz),(9,3,.frz)] none (by kernel_rfl) rfl
theorem zCy:FQ 100 Tp:=mN Tryz.func100 (by kernel_rfl)
theorem zBJ:FQ 103 OK:=mQ Tryz.func103 [(8,4,.frz),(13,5,.frz),(17,3,.hole),(17,5,.hole)] none (by kernel_rfl) rfl
theorem zA8:FQ 104 OH:=mN Tryz.func104 (by kernel_rfl)
theorem zBM:FQ 108 Cf:=mN Tryz.func108 (by kernel_rfl)
theorem zDI:FQ 109 Xj:=mN Tryz.func109 (by kernel_rfl)
theorem zD9:FQ 110 Yv:=mN Tryz.func110 (by kernel_rfl)
theorem zDH:FQ 111 Xh:=mN Tryz.func111 (by kernel_rfl)
theorem zD7:FQ 112 Yt:=mQ Tryz.func112 [(6,5,.res [(1,1)]),(6,4,.hole),(7,0,.res [(0,1)])] none (by kernel_rfl) rfl
theorem zDM:FQ 113 Xp:=mN Tryz.func113 (by kernel_rfl)
theorem zDR:FQ 114 Xw:=mQ Tryz.func114 [(8,3,.frz)] none (by kernel_rfl) rfl
theorem zD3:FQ 115 Yo:=mN Tryz.func115 (by kernel_rfl)
theorem zD0:FQ 116 Yk:=mQ Tryz.func116 [(1,0,.frz)] none (by kernel_rfl) rfl
theorem zDp:FQ 117 Wc:=mQ Tryz.func117 [(1,4,.res [(1,1)]),(1,3,.hole),(7,5,.frz),(8,4,.frz)] none (by kernel_rfl) rfl
theorem zC7:FQ 118 Vh:=mN Tryz.func118 (by kernel_rfl)
theorem zC2:FQ 119 Va:=mN Tryz.func119 (by kernel_rfl)
theorem zCZ:FQ 120 Ux:=mN Tryz.func120 (by kernel_rfl)
theorem zDy:FQ 121 Wp:=mQ Tryz.func121 [(3,3,.frz),(4,7,.res []),(4,6,.hole)] none (by kernel_rfl) rfl
theorem zCW:FQ 122 Uu:=mN Tryz.func122 (by kernel_rfl)
theorem zCV:FQ 123 Ut:=mQ Tryz.func123 [(0,0,.frz),(0,1,.res [(0,10)]),(1,0,.res [(0,10)])] none (by kernel_rfl) rfl
theorem zBf:FQ 124 Pf:=mQ Tryz.func124 [(4,2,.hole),(4,3,.hole)] none (by kernel_rfl) rfl
theorem zBF:FQ 125 Qr:=mQ Tryz.func125 [(5,2,.hole),(5,3,.hole)] none (by kernel_rfl) rfl
theorem zBE:FQ 126 Qq:=mQ Tryz.func126 [(0,0,.frz)] none (by kernel_rfl) rfl
theorem zB1:FQ 127 Rp:=mN Tryz.func127 (by kernel_rfl)
theorem zB0:FQ 128 Ro:=mN Tryz.func128 (by kernel_rfl)
theorem zBD:FQ 129 Qo:=mQ Tryz.func129 [(0,0,.frz)] none (by kernel_rfl) rfl
theorem zBq:FQ 130 Pv:=mQ Tryz.func130 [(0,0,.frz)] none (by kernel_rfl) rfl
theorem zBn:FQ 131 Pq:=mQ Tryz.func131 [(0,0,.frz),(1,3,.hole),(1,4,.hole),(6,3,.hole),(6,5,.hole)] none (by kernel_rfl) rfl
theorem zBl:FQ 132 Po:=mQ Tryz.func132 [(0,0,.frz)] none (by kernel_rfl) rfl
theorem zBk:FQ 133 Pn:=mQ Tryz.func133 [(0,0,.frz)] none (by kernel_rfl) rfl
theorem zBz:FQ 134 Qg:=mQ Tryz.func134 [(0,0,.frz)] none (by kernel_rfl) rfl
theorem zBs:FQ 135 Py:=mQ Tryz.func135 [(0,0,.frz),(4,3,.hole),(4,5,.hole)] none (by kernel_rfl) rfl
theorem zCo:FQ 136 Sw:=mQ Tryz.func136 [(0,0,.frz)] none (by kernel_rfl) rfl
theorem zCj:FQ 137 Sm:=mQ Tryz.func137 [(0,0,.frz)] none (by kernel_rfl) rfl
theorem zCl:FQ 138 Sp:=mQ Tryz.func138 [(0,1,.frz),(3,3,.hole),(3,5,.hole),(6,2,.frz)] none (by kernel_rfl) rfl
theorem zBL:FQ 139 Qx:=mN Tryz.func139 (by kernel_rfl)
theorem zA5:FQ 149 OD:=mN Tryz.func149 (by kernel_rfl)
theorem zD5:FQ 151 Yr:=mN Tryz.func151 (by kernel_rfl)
theorem zD8:FQ 152 Yu:=mN Tryz.func152 (by kernel_rfl)
theorem zDP:FQ 153 Xt:=mN Tryz.func153 (by kernel_rfl)
theorem zD2:FQ 154 Yn:=mQ Tryz.func154 [(2,2,.frz),(4,8,.frz),(6,13,.frz),(7,18,.frz)] none (by kernel_rfl) rfl
theorem zD1:FQ 155 Ym:=mN Tryz.func155 (by kernel_rfl)
theorem zDf:FQ 156 Vs:=mN Tryz.func156 (by kernel_rfl)
end Go.AM.T
namespace Go.AM.T
open Go.Proofs
theorem zDh:FQ 157 Vu:=mN Tryz.func157 (by kernel_rfl)
theorem zDw:FQ 158 Wk:=mQ Tryz.func158 [(1,2,.hole),(1,3,.hole),(2,1,.frz)] none (by kernel_rfl) rfl
theorem zDA:FQ 159 Wt:=mQ Tryz.func159 [(0,0,.frz),(0,1,.frz),(1,3,.frz)] none (by kernel_rfl) rfl
theorem zBR:FQ 160 Rg:=mN Tryz.func160 (by kernel_rfl)
theorem zBQ:FQ 161 Re:=mN Tryz.func161 (by kernel_rfl)
theorem zBp:FQ 162 Pu:=mQ Tryz.func162 [(0,0,.frz)] none (by kernel_rfl) rfl
theorem zBo:FQ 163 Ps:=mQ Tryz.func163 [(0,0,.frz)] none (by kernel_rfl) rfl
theorem zBa:FQ 164 Pb:=mN Tryz.func164 (by kernel_rfl)
theorem zBe:FQ 165 Pe:=mQ Tryz.func165 [(0,0,.frz)] none (by kernel_rfl) rfl
theorem zBu:FQ 166 Qa:=mQ Tryz.func166 [(0,0,.frz)] none (by kernel_rfl) rfl
theorem zCL:FQ 167 Ud:=mN Tryz.func167 (by kernel_rfl)
theorem zBr:FQ 168 Pw:=mN Tryz.func168 (by kernel_rfl)
theorem zBm:FQ 169 Pp:=mN Tryz.func169 (by kernel_rfl)
theorem zBj:FQ 170 Pm:=mN Tryz.func170 (by kernel_rfl)
theorem zCO:FQ 171 Ui:=mQ Tryz.func171 [(0,0,.frz)] none (by kernel_rfl) rfl
theorem zBc:FQ 172 Pc:=mQ Tryz.func172 [(0,0,.frz),(0,1,.frz)] none (by kernel_rfl) rfl
theorem zBw:FQ 173 Qc:=mQ Tryz.func173 [(0,0,.frz)] none (by kernel_rfl) rfl
theorem zBy:FQ 174 Qf:=mQ Tryz.func174 [(0,0,.frz)] none (by kernel_rfl) rfl
theorem zBi:FQ 175 Pl:=mQ Tryz.func175 [(0,0,.frz)] none (by kernel_rfl) rfl
theorem zCK:FQ 176 Ub:=mN Tryz.func176 (by kernel_rfl)
theorem zA7:FQ 183 OG:=mN Tryz.func183 (by kernel_rfl)
theorem zA6:FQ 184 OE:=mQ Tryz.func184 [(16,4,.hole),(16,5,.hole)] none (by kernel_rfl) rfl
theorem zEb:FQ 189 Za:=mN Tryz.func189 (by kernel_rfl)
theorem zEc:FQ 190 Zd:=mQ Tryz.func190 [(0,0,.res [(0,1)]),(1,0,.res [(0,1)]),(2,0,.res [(0,1)]),(12,3,.frz)] none (by kernel_rfl) rfl
theorem zDC:FQ 191 Wx:=mQ Tryz.func191 [(1,0,.frz)] none (by kernel_rfl) rfl
theorem zDd:FQ 192 Vq:=mQ Tryz.func192 [(1,3,.res []),(1,2,.hole)] none (by kernel_rfl) rfl
theorem zC6:FQ 193 Vg:=mN Tryz.func193 (by kernel_rfl)
theorem zBB:FQ 194 Qj:=mQ Tryz.func194 [(0,0,.frz),(0,1,.frz)] none (by kernel_rfl) rfl
theorem zCI:FQ 195 Tz:=mN Tryz.func195 (by kernel_rfl)
theorem zA2:FQ 196 Ox:=mN Tryz.func196 (by kernel_rfl)
theorem zBC:FQ 197 Ql:=mN Tryz.func197 (by kernel_rfl)
theorem zCi:FQ 198 Sj:=mN Tryz.func198 (by kernel_rfl)
theorem zCM:FQ 199 Uf:=mN Tryz.func199 (by kernel_rfl)
theorem zCN:FQ 200 Uh:=mN Tryz.func200 (by kernel_rfl)
theorem zBS:FQ 201 Rh:=mN Tryz.func201 (by kernel_rfl)
theorem zBv:FQ 202 Qb:=mN Tryz.func202 (by kernel_rfl)
theorem zBY:FQ 203 Rm:=mN Tryz.func203 (by kernel_rfl)
theorem zBh:FQ 204 Pk:=mQ Tryz.func204 [(0,0,.frz)] none (by kernel_rfl) rfl
theorem zBg:FQ 205 Ph:=mQ Tryz.func205 [(0,0,.frz)] none (by kernel_rfl) rfl
theorem zCJ:FQ 206 Ua:=mN Tryz.func206 (by kernel_rfl)
theorem zEa:FQ 211 Yy:=mQ Tryz.func211 [(1,0,.res [(0,1)]),(7,3,.frz),(10,3,.frz)] (some 0) (by kernel_rfl) rfl
theorem zDx:FQ 212 Wm:=mQ Tryz.func212 [(1,3,.res []),(1,2,.hole)] none (by kernel_rfl) rfl
theorem zBV:FQ 213 Rj:=mQ Tryz.func213 [(5,3,.hole),(5,5,.hole),(6,4,.hole),(6,5,.hole)] none (by kernel_rfl) rfl
theorem zBU:FQ 214 Ri:=mQ Tryz.func214 [(5,3,.hole),(5,5,.hole),(6,4,.hole),(6,5,.hole)] none (by kernel_rfl) rfl
theorem zBb:FQ 215 OI:=mQ Tryz.func215 [(0,0,.frz),(0,1,.frz)] none (by kernel_rfl) rfl
theorem zBW:FQ 216 Rk:=mQ Tryz.func216 [(5,3,.hole),(5,5,.hole),(6,4,.hole),(6,5,.hole)] none (by kernel_rfl) rfl
theorem zBd:FQ 217 OJ:=mQ Tryz.func217 [(0,0,.frz),(0,1,.frz)] none (by kernel_rfl) rfl
theorem zCG:FQ 218 Tw:=mN Tryz.func218 (by kernel_rfl)
theorem zBZ:FQ 219 Rn:=mN Tryz.func219 (by kernel_rfl)
theorem zCH:FQ 220 Ty:=mN Tryz.func220 (by kernel_rfl)
end Go.AM.T
namespace Go.AM.T
open Go.Proofs
theorem zCF:FQ 221 Tv:=mN Tryz.func221 (by kernel_rfl)
theorem zA1:FQ 222 Ov:=mQ Tryz.func222 [(0,0,.frz)] none (by kernel_rfl) rfl
theorem zCh:FQ 223 Si:=mN Tryz.func223 (by kernel_rfl)
theorem zCg:FQ 224 Sf:=mQ Tryz.func224 [(1,5,.frz)] none (by kernel_rfl) rfl
theorem zCf:FQ 225 Sd:=mQ Tryz.func225 [(4,0,.res [(0,1)]),(11,5,.frz)] none (by kernel_rfl) rfl
theorem zBO:FQ 226 Ra:=mN Tryz.func226 (by kernel_rfl)
theorem zDr:FQ 228 We:=mQ Tryz.func228 [(1,2,.hole),(1,3,.hole),(2,1,.frz)] none (by kernel_rfl) rfl
theorem zBT:FQ 229 ON:=mN Tryz.func229 (by kernel_rfl)
theorem zBP:FQ 230 Rc:=mN Tryz.func230 (by kernel_rfl)
theorem zA0:FQ 231 Ou:=mN Tryz.func231 (by kernel_rfl)
theorem zA4:FQ 232 Oz:=mN Tryz.func232 (by kernel_rfl)
theorem zB5:FQ 233 Rw:=mQ Tryz.func233 [(1,4,.frz)] none (by kernel_rfl) rfl
theorem zCc:FQ 234 Sa:=mQ Tryz.func234 [(5,2,.frz),(7,7,.hole),(7,9,.hole),(7,8,.hole),(7,10,.hole),(8,2,.hole),(8,3,.hole),(9,6,.res []),(9,5,.hole)] none (by kernel_rfl) rfl
theorem zB8:FQ 235 Rx:=mN Tryz.func235 (by kernel_rfl)
theorem zB9:FQ 236 Rz:=mQ Tryz.func236 [(0,0,.frz),(0,1,.frz),(1,4,.res []),(1,3,.hole)] none (by kernel_rfl) rfl
theorem zC3:FQ 237 Vc:=mQ Tryz.func237 [(1,3,.res []),(1,2,.hole),(2,1,.frz)] none (by kernel_rfl) rfl
theorem zA3:FQ 238 Oy:=mQ Tryz.func238 [(10,4,.hole),(10,5,.hole)] none (by kernel_rfl) rfl
theorem zCR:FQ 239 Uo:=mN Tryz.func239 (by kernel_rfl)
theorem zCd:FQ 240 Sb:=mQ Tryz.func240 [(0,0,.frz),(0,1,.frz)] none (by kernel_rfl) rfl
theorem zB2:FQ 241 Rr:=mQ Tryz.func241 [(0,0,.res [(0,1)]),(2,0,.res [(0,1)])] (some 0) (by kernel_rfl) rfl
theorem zCC:FQ 242 OZ:=mN Tryz.func242 (by kernel_rfl)
theorem zCb:FQ 243 OU:=mQ Tryz.func243 [(0,0,.res [(0,1)]),(6,6,.frz),(9,2,.frz)] none (by kernel_rfl) rfl
theorem zB4:FQ 244 Ru:=mQ Tryz.func244 [(0,0,.frz)] none (by kernel_rfl) rfl
theorem zCe:FQ 245 OV:=mN Tryz.func245 (by kernel_rfl)
theorem zB6:FQ 246 OR:=mN Tryz.func246 (by kernel_rfl)
theorem zB7:FQ 247 OS:=mN Tryz.func247 (by kernel_rfl)
theorem zCa:FQ 248 OT:=mN Tryz.func248 (by kernel_rfl)
theorem zCD:FQ 249 Tt:=mN Tryz.func249 (by kernel_rfl)
theorem zC9:FQ 250 Vl:=mQ Tryz.func250 [(1,3,.res []),(1,2,.hole),(2,1,.frz)] none (by kernel_rfl) rfl
theorem zCT:FQ 251 Ur:=mN Tryz.func251 (by kernel_rfl)
theorem zCS:FQ 252 Uq:=mN Tryz.func252 (by kernel_rfl)
theorem zCB:FQ 253 OY:=mN Tryz.func253 (by kernel_rfl)
theorem zB3:FQ 254 Rt:=mN Tryz.func254 (by kernel_rfl)
theorem zCA:FQ 255 OX:=mN Tryz.func255 (by kernel_rfl)
theorem zCE:FQ 256 PA:=mN Tryz.func256 (by kernel_rfl)
theorem zC0:FQ 257 Uy:=mQ Tryz.func257 [(1,2,.res []),(1,1,.hole),(5,2,.frz)] none (by kernel_rfl) rfl
theorem zCQ:FQ 258 Um:=mN Tryz.func258 (by kernel_rfl)
theorem zCP:FQ 259 Uk:=mN Tryz.func259 (by kernel_rfl)
theorem zDu:FQ 260 Wi:=mQ Tryz.func260 [(0,0,.frz),(0,1,.res [(7,4)]),(5,3,.frz),(7,3,.frz)] none (by kernel_rfl) rfl
theorem zDa:FQ 261 Vm:=mQ Tryz.func261 [(1,2,.res []),(1,1,.hole),(5,6,.hole),(5,7,.hole)] none (by kernel_rfl) rfl
theorem zDc:FQ 262 Vo:=mQ Tryz.func262 [(1,2,.res [(2,10),(3,4)]),(1,1,.hole),(9,4,.frz)] none (by kernel_rfl) rfl
theorem zDv:FQ 263 Wj:=mQ Tryz.func263 [(2,2,.hole),(2,3,.hole),(5,3,.frz),(22,5,.frz),(27,2,.hole),(27,3,.hole),(32,1,.frz),(33,2,.hole),(33,3,.hole),(35,1,.frz)] none (by kernel_rfl) rfl
theorem zC4:FQ 264 Vd:=mQ Tryz.func264 [(0,0,.frz),(2,3,.frz),(8,1,.frz)] none (by kernel_rfl) rfl
theorem zDm:FQ 265 Vz:=mQ Tryz.func265 [(4,3,.hole),(4,4,.hole),(5,3,.frz),(5,9,.frz),(7,3,.frz),(7,9,.frz),(9,5,.hole),(9,6,.hole),(11,3,.frz),(11,9,.frz)] none (by kernel_rfl) rfl
theorem zC8:FQ 266 Vj:=mQ Tryz.func266 [(2,4,.res [(6,10)]),(2,3,.hole),(10,6,.frz),(13,2,.hole),(13,3,.hole),(15,3,.frz),(15,6,.frz)] none (by kernel_rfl) rfl
theorem zCY:FQ 267 Uw:=mQ Tryz.func267 [(4,7,.res []),(4,6,.hole),(14,5,.res [(6,10)]),(14,4,.hole),(19,4,.frz)] none (by kernel_rfl) rfl
theorem zDe:FQ 268 Vr:=mQ Tryz.func268 [(1,3,.res [(6,10)]),(1,2,.hole),(5,4,.frz)] none (by kernel_rfl) rfl
theorem zDo:FQ 269 Wb:=mQ Tryz.func269 [(0,0,.frz),(2,5,.frz)] none (by kernel_rfl) rfl
theorem zDt:FQ 270 Wh:=mQ Tryz.func270 [(0,0,.frz),(2,1,.frz),(4,2,.hole),(4,3,.hole),(6,3,.frz),(7,2,.hole),(7,3,.hole),(9,2,.res []),(9,1,.hole),(13,3,.frz),(15,2,.frz)] none (by kernel_rfl) rfl
theorem zDi:FQ 271 Vv:=mQ Tryz.func271 [(7,2,.hole),(7,3,.hole)] none (by kernel_rfl) rfl
end Go.AM.T
namespace Go.AM.T
open Go.Proofs
theorem zDs:FQ 272 Wg:=mQ Tryz.func272 [(1,3,.res [(6,10)]),(1,2,.hole),(2,4,.frz),(4,4,.frz),(8,5,.frz),(11,4,.frz),(6,3,.frz)] none (by kernel_rfl) rfl
theorem zDg:FQ 273 Vt:=mQ Tryz.func273 [(1,7,.res [(6,10)]),(1,6,.hole),(3,2,.frz),(5,4,.frz),(7,4,.frz),(10,4,.frz),(11,3,.frz)] none (by kernel_rfl) rfl
theorem zDn:FQ 274 Wa:=mQ Tryz.func274 [(2,2,.hole),(2,3,.hole),(5,6,.frz),(6,5,.hole),(6,6,.hole),(8,2,.frz),(8,6,.res []),(8,5,.hole),(10,3,.frz),(11,2,.frz),(13,3,.frz)] none (by kernel_rfl) rfl
end Go.AM.T
