/- Functions of the library, found in the seat's program. -/
import Derived.Test.YtonbmmjagdbgaaaDoorSymXC
import Derived.KernelRfl
import Derived.Test.YtonbmmjagdbgaaaDoorSymJoin
import Derived.Test.YtonbmmjagdbgaaaDoorSymItoa
import Derived.Test.YtonbmmjagdbgaaaDoorSymCut
namespace Go.Proofs
open Go.Shelf Go.RowKit Go.Lib
set_option linter.unusedVariables false
set_option linter.unusedSimpArgs false
set_option maxRecDepth 100000
def Tryd.layItoa_ren : Go.Shelf.Ren where
  f := fun x => match x with
    | 171 => 61
    | 243 => 75
    | 246 => 83
    | 283 => 87
    | 284 => 88
    | 285 => 89
    | 286 => 90
    | 129 => 92
    | 317 => 91
    | 318 => 93
    | 319 => 94
    | 320 => 95
    | 337 => 96
    | 338 => 97
    | n => n
  t := fun x => match x with
    | 3 => 3
    | 9 => 9
    | 2 => 2
    | 4 => 4
    | 171 => 101
    | 0 => 0
    | 53 => 87
    | 37 => 61
    | 5 => 5
    | 173 => 104
    | 212 => 111
    | 51 => 75
    | 20 => 20
    | 213 => 112
    | 46 => 53
    | 232 => 115
    | 233 => 116
    | n => n
  g := fun x => match x with
    | 17 => 5
    | 18 => 6
    | 19 => 7
    | n => n
theorem Tryd.layItoa : LaysM.n171 Tryd.prog Tryd.layItoa_ren where
  mixed := by kernel_rfl
  f129 := Tryd.func92.trans (congrArg some rfl)
  f171 := Tryd.func61.trans (congrArg some rfl)
  f243 := Tryd.func75.trans (congrArg some rfl)
  f246 := Tryd.func83.trans (congrArg some rfl)
  f283 := Tryd.func87.trans (congrArg some rfl)
  f284 := Tryd.func88.trans (congrArg some rfl)
  f285 := Tryd.func89.trans (congrArg some rfl)
  f286 := Tryd.func90.trans (congrArg some rfl)
  f317 := Tryd.func91.trans (congrArg some rfl)
  f318 := Tryd.func93.trans (congrArg some rfl)
  f319 := Tryd.func94.trans (congrArg some rfl)
  f320 := Tryd.func95.trans (congrArg some rfl)
  f337 := Tryd.func96.trans (congrArg some rfl)
  f338 := Tryd.func97.trans (congrArg some rfl)
  t0 := by kernel_rfl
  a0 := fun w => by kernel_rfl
  z0 := fun w => by kernel_rfl
  v0 := fun w => by kernel_rfl
  t2 := by kernel_rfl
  a2 := fun w => by kernel_rfl
  z2 := fun w => by kernel_rfl
  v2 := fun w => by kernel_rfl
  t3 := by kernel_rfl
  a3 := fun w => by kernel_rfl
  z3 := fun w => by kernel_rfl
  v3 := fun w => by kernel_rfl
  t4 := by kernel_rfl
  a4 := fun w => by kernel_rfl
  z4 := fun w => by kernel_rfl
  v4 := fun w => by kernel_rfl
  t5 := by kernel_rfl
  a5 := fun w => by kernel_rfl
  z5 := fun w => by kernel_rfl
  v5 := fun w => by kernel_rfl
  t9 := by kernel_rfl
  a9 := fun w => by kernel_rfl
  z9 := fun w => by kernel_rfl
  v9 := fun w => by kernel_rfl
  t20 := by kernel_rfl
  a20 := fun w => by kernel_rfl
  z20 := fun w => by kernel_rfl
  v20 := fun w => by kernel_rfl
  t37 := by kernel_rfl
  a37 := fun w => by kernel_rfl
  z37 := fun w => by kernel_rfl
  v37 := fun w => by kernel_rfl
  t46 := by kernel_rfl
  a46 := fun w => by kernel_rfl
  z46 := fun w => by kernel_rfl
  v46 := fun w => by kernel_rfl
  t51 := by kernel_rfl
  a51 := fun w => by kernel_rfl
  z51 := fun w => by kernel_rfl
  v51 := fun w => by kernel_rfl
  t53 := by kernel_rfl
  a53 := fun w => by kernel_rfl
  z53 := fun w => by kernel_rfl
  v53 := fun w => by kernel_rfl
  t171 := by kernel_rfl
  a171 := fun w => by kernel_rfl
  z171 := fun w => by kernel_rfl
  v171 := fun w => by kernel_rfl
  t173 := by kernel_rfl
  a173 := fun w => by kernel_rfl
  z173 := fun w => by kernel_rfl
  v173 := fun w => by kernel_rfl
  t212 := by kernel_rfl
  a212 := fun w => by kernel_rfl
  z212 := fun w => by kernel_rfl
  v212 := fun w => by kernel_rfl
  t213 := by kernel_rfl
  a213 := fun w => by kernel_rfl
  z213 := fun w => by kernel_rfl
  t232 := by kernel_rfl
  a232 := fun w => by kernel_rfl
  z232 := fun w => by kernel_rfl
  v232 := fun w => by kernel_rfl
  t233 := by kernel_rfl
  a233 := fun w => by kernel_rfl
  z233 := fun w => by kernel_rfl
  v233 := fun w => by kernel_rfl
  g17 := by kernel_rfl
  g18 := by kernel_rfl
  g19 := by kernel_rfl
  i0 := by kernel_rfl
  i2 := by kernel_rfl
  i3 := by kernel_rfl
  i4 := by kernel_rfl
  i5 := by kernel_rfl
  i9 := by kernel_rfl
  i20 := by kernel_rfl
  i37 := by kernel_rfl
  i46 := by kernel_rfl
  i51 := by kernel_rfl
  i53 := by kernel_rfl
  i171 := by kernel_rfl
  i173 := by kernel_rfl
  i212 := by kernel_rfl
  i232 := by kernel_rfl
  i233 := by kernel_rfl
  m17 := by kernel_rfl
  m18 := by kernel_rfl
  m19 := by kernel_rfl
def Tryd.layCut_ren : Go.Shelf.Ren where
  f := fun x => match x with
    | 145 => 22
    | 220 => 36
    | 219 => 48
    | 217 => 55
    | 225 => 56
    | 224 => 57
    | 267 => 58
    | 266 => 68
    | 314 => 69
    | n => n
  t := fun x => match x with
    | 9 => 9
    | 4 => 4
    | 59 => 43
    | 3 => 3
    | 5 => 5
    | 46 => 53
    | 146 => 76
    | 51 => 75
    | n => n
  g := fun x => match x with
    | 1 => 0
    | n => n
theorem Tryd.layCut : Lays.n145 Tryd.prog Tryd.layCut_ren where
  mixed := by kernel_rfl
  f145 := Tryd.func22.trans (congrArg some rfl)
  f217 := Tryd.func55.trans (congrArg some rfl)
  f219 := Tryd.func48.trans (congrArg some rfl)
  f220 := Tryd.func36.trans (congrArg some rfl)
  f224 := Tryd.func57.trans (congrArg some rfl)
  f225 := Tryd.func56.trans (congrArg some rfl)
  f266 := Tryd.func68.trans (congrArg some rfl)
  f267 := Tryd.func58.trans (congrArg some rfl)
  f314 := Tryd.func69.trans (congrArg some rfl)
  t3 := by kernel_rfl
  a3 := fun w => by kernel_rfl
  z3 := fun w => by kernel_rfl
  v3 := fun w => by kernel_rfl
  t4 := by kernel_rfl
  a4 := fun w => by kernel_rfl
  z4 := fun w => by kernel_rfl
  v4 := fun w => by kernel_rfl
  t5 := by kernel_rfl
  a5 := fun w => by kernel_rfl
  z5 := fun w => by kernel_rfl
  v5 := fun w => by kernel_rfl
  t9 := by kernel_rfl
  a9 := fun w => by kernel_rfl
  z9 := fun w => by kernel_rfl
  v9 := fun w => by kernel_rfl
  t46 := by kernel_rfl
  a46 := fun w => by kernel_rfl
  z46 := fun w => by kernel_rfl
  v46 := fun w => by kernel_rfl
  t51 := by kernel_rfl
  a51 := fun w => by kernel_rfl
  z51 := fun w => by kernel_rfl
  v51 := fun w => by kernel_rfl
  t59 := by kernel_rfl
  a59 := fun w => by kernel_rfl
  z59 := fun w => by kernel_rfl
  v59 := fun w => by kernel_rfl
  t146 := by kernel_rfl
  a146 := fun w => by kernel_rfl
  z146 := fun w => by kernel_rfl
  v146 := fun w => by kernel_rfl
  g1 := by kernel_rfl
def Tryd.laySplit_ren : Go.Shelf.Ren where
  f := fun x => match x with
    | 146 => 38
    | 221 => 51
    | 268 => 62
    | 138 => 63
    | 143 => 64
    | 195 => 76
    | 197 => 77
    | 218 => 78
    | 219 => 48
    | 260 => 84
    | 217 => 55
    | 225 => 56
    | 224 => 57
    | 267 => 58
    | 266 => 68
    | 314 => 69
    | n => n
  t := fun x => match x with
    | 9 => 9
    | 31 => 38
    | 3 => 3
    | 4 => 4
    | 0 => 0
    | 105 => 85
    | 21 => 21
    | 5 => 5
    | 46 => 53
    | 119 => 106
    | 139 => 109
    | 138 => 108
    | 146 => 76
    | 51 => 75
    | n => n
  g := fun x => match x with
    | 1 => 0
    | 3 => 3
    | 4 => 4
    | n => n
theorem Tryd.laySplit : Lays.n146 Tryd.prog Tryd.laySplit_ren where
  mixed := by kernel_rfl
  f138 := Tryd.func63.trans (congrArg some rfl)
  f143 := Tryd.func64.trans (congrArg some rfl)
  f146 := Tryd.func38.trans (congrArg some rfl)
  f195 := Tryd.func76.trans (congrArg some rfl)
  f197 := Tryd.func77.trans (congrArg some rfl)
  f217 := Tryd.func55.trans (congrArg some rfl)
  f218 := Tryd.func78.trans (congrArg some rfl)
  f219 := Tryd.func48.trans (congrArg some rfl)
  f221 := Tryd.func51.trans (congrArg some rfl)
  f224 := Tryd.func57.trans (congrArg some rfl)
  f225 := Tryd.func56.trans (congrArg some rfl)
  f260 := Tryd.func84.trans (congrArg some rfl)
  f266 := Tryd.func68.trans (congrArg some rfl)
  f267 := Tryd.func58.trans (congrArg some rfl)
  f268 := Tryd.func62.trans (congrArg some rfl)
  f314 := Tryd.func69.trans (congrArg some rfl)
  t0 := by kernel_rfl
  a0 := fun w => by kernel_rfl
  z0 := fun w => by kernel_rfl
  v0 := fun w => by kernel_rfl
  t3 := by kernel_rfl
  a3 := fun w => by kernel_rfl
  z3 := fun w => by kernel_rfl
  v3 := fun w => by kernel_rfl
  t4 := by kernel_rfl
  a4 := fun w => by kernel_rfl
  z4 := fun w => by kernel_rfl
  v4 := fun w => by kernel_rfl
  t5 := by kernel_rfl
  a5 := fun w => by kernel_rfl
  z5 := fun w => by kernel_rfl
  v5 := fun w => by kernel_rfl
  t9 := by kernel_rfl
  a9 := fun w => by kernel_rfl
  z9 := fun w => by kernel_rfl
  v9 := fun w => by kernel_rfl
  t21 := by kernel_rfl
  a21 := fun w => by kernel_rfl
  z21 := fun w => by kernel_rfl
  v21 := fun w => by kernel_rfl
  t31 := by kernel_rfl
  a31 := fun w => by kernel_rfl
  z31 := fun w => by kernel_rfl
  v31 := fun w => by kernel_rfl
  t46 := by kernel_rfl
  a46 := fun w => by kernel_rfl
  z46 := fun w => by kernel_rfl
  v46 := fun w => by kernel_rfl
  t51 := by kernel_rfl
  a51 := fun w => by kernel_rfl
  z51 := fun w => by kernel_rfl
  v51 := fun w => by kernel_rfl
  t105 := by kernel_rfl
  a105 := fun w => by kernel_rfl
  z105 := fun w => by kernel_rfl
  v105 := fun w => by kernel_rfl
  t119 := by kernel_rfl
  a119 := fun w => by kernel_rfl
  z119 := fun w => by kernel_rfl
  t138 := by kernel_rfl
  a138 := fun w => by kernel_rfl
  z138 := fun w => by kernel_rfl
  v138 := fun w => by kernel_rfl
  t139 := by kernel_rfl
  a139 := fun w => by kernel_rfl
  z139 := fun w => by kernel_rfl
  v139 := fun w => by kernel_rfl
  t146 := by kernel_rfl
  a146 := fun w => by kernel_rfl
  z146 := fun w => by kernel_rfl
  v146 := fun w => by kernel_rfl
  g1 := by kernel_rfl
  g3 := by kernel_rfl
  g4 := by kernel_rfl
def Tryd.layAtoi_ren : Go.Shelf.Ren where
  f := fun x => match x with
    | 172 => 49
    | 244 => 59
    | 245 => 60
    | 247 => 70
    | 279 => 71
    | 280 => 72
    | 281 => 73
    | 282 => 74
    | 287 => 80
    | 316 => 81
    | 171 => 61
    | 205 => 82
    | 321 => 85
    | 322 => 86
    | 243 => 75
    | 246 => 83
    | 283 => 87
    | 284 => 88
    | 285 => 89
    | 286 => 90
    | 129 => 92
    | 317 => 91
    | 318 => 93
    | 319 => 94
    | 320 => 95
    | 337 => 96
    | 338 => 97
    | n => n
  t := fun x => match x with
    | 9 => 9
    | 3 => 3
    | 75 => 66
    | 76 => 67
    | 4 => 4
    | 5 => 5
    | 167 => 78
    | 37 => 61
    | 0 => 0
    | 85 => 79
    | 2 => 2
    | 168 => 81
    | 53 => 87
    | 175 => 88
    | 46 => 53
    | 210 => 92
    | 127 => 97
    | 145 => 100
    | 143 => 98
    | 21 => 21
    | 171 => 101
    | 173 => 104
    | 212 => 111
    | 51 => 75
    | 20 => 20
    | 213 => 112
    | 232 => 115
    | 233 => 116
    | 80 => 117
    | n => n
  g := fun x => match x with
    | 15 => 1
    | 16 => 2
    | 17 => 5
    | 18 => 6
    | 19 => 7
    | n => n
theorem Tryd.layAtoi : LaysC.n172 Tryd.prog Tryd.layAtoi_ren where
  mixed := by kernel_rfl
  f129 := Tryd.func92.trans (congrArg some rfl)
  f171 := Tryd.func61.trans (congrArg some rfl)
  f172 := Tryd.func49.trans (congrArg some rfl)
  f205 := Tryd.func82.trans (congrArg some rfl)
  f243 := Tryd.func75.trans (congrArg some rfl)
  f244 := Tryd.func59.trans (congrArg some rfl)
  f245 := Tryd.func60.trans (congrArg some rfl)
  f246 := Tryd.func83.trans (congrArg some rfl)
  f247 := Tryd.func70.trans (congrArg some rfl)
  f279 := Tryd.func71.trans (congrArg some rfl)
  f280 := Tryd.func72.trans (congrArg some rfl)
  f281 := Tryd.func73.trans (congrArg some rfl)
  f282 := Tryd.func74.trans (congrArg some rfl)
  f283 := Tryd.func87.trans (congrArg some rfl)
  f284 := Tryd.func88.trans (congrArg some rfl)
  f285 := Tryd.func89.trans (congrArg some rfl)
  f286 := Tryd.func90.trans (congrArg some rfl)
  f287 := Tryd.func80.trans (congrArg some rfl)
  f316 := Tryd.func81.trans (congrArg some rfl)
  f317 := Tryd.func91.trans (congrArg some rfl)
  f318 := Tryd.func93.trans (congrArg some rfl)
  f319 := Tryd.func94.trans (congrArg some rfl)
  f320 := Tryd.func95.trans (congrArg some rfl)
  f321 := Tryd.func85.trans (congrArg some rfl)
  f322 := Tryd.func86.trans (congrArg some rfl)
  f337 := Tryd.func96.trans (congrArg some rfl)
  f338 := Tryd.func97.trans (congrArg some rfl)
  t0 := by kernel_rfl
  a0 := fun w => by kernel_rfl
  z0 := fun w => by kernel_rfl
  v0 := fun w => by kernel_rfl
  t2 := by kernel_rfl
  a2 := fun w => by kernel_rfl
  z2 := fun w => by kernel_rfl
  v2 := fun w => by kernel_rfl
  t3 := by kernel_rfl
  a3 := fun w => by kernel_rfl
  z3 := fun w => by kernel_rfl
  v3 := fun w => by kernel_rfl
  t4 := by kernel_rfl
  a4 := fun w => by kernel_rfl
  z4 := fun w => by kernel_rfl
  v4 := fun w => by kernel_rfl
  t5 := by kernel_rfl
  a5 := fun w => by kernel_rfl
  z5 := fun w => by kernel_rfl
  v5 := fun w => by kernel_rfl
  t9 := by kernel_rfl
  a9 := fun w => by kernel_rfl
  z9 := fun w => by kernel_rfl
  v9 := fun w => by kernel_rfl
  t20 := by kernel_rfl
  a20 := fun w => by kernel_rfl
  z20 := fun w => by kernel_rfl
  v20 := fun w => by kernel_rfl
  t21 := by kernel_rfl
  a21 := fun w => by kernel_rfl
  z21 := fun w => by kernel_rfl
  v21 := fun w => by kernel_rfl
  t37 := by kernel_rfl
  a37 := fun w => by kernel_rfl
  z37 := fun w => by kernel_rfl
  v37 := fun w => by kernel_rfl
  t46 := by kernel_rfl
  a46 := fun w => by kernel_rfl
  z46 := fun w => by kernel_rfl
  v46 := fun w => by kernel_rfl
  t51 := by kernel_rfl
  a51 := fun w => by kernel_rfl
  z51 := fun w => by kernel_rfl
  v51 := fun w => by kernel_rfl
  t53 := by kernel_rfl
  a53 := fun w => by kernel_rfl
  z53 := fun w => by kernel_rfl
  v53 := fun w => by kernel_rfl
  t75 := by kernel_rfl
  a75 := fun w => by kernel_rfl
  z75 := fun w => by kernel_rfl
  v75 := fun w => by kernel_rfl
  t76 := by kernel_rfl
  a76 := fun w => by kernel_rfl
  z76 := fun w => by kernel_rfl
  v76 := fun w => by kernel_rfl
  t85 := by kernel_rfl
  a85 := fun w => by kernel_rfl
  z85 := fun w => by kernel_rfl
  v85 := fun w => by kernel_rfl
  t127 := by kernel_rfl
  a127 := fun w => by kernel_rfl
  z127 := fun w => by kernel_rfl
  v127 := fun w => by kernel_rfl
  t143 := by kernel_rfl
  a143 := fun w => by kernel_rfl
  z143 := fun w => by kernel_rfl
  v143 := fun w => by kernel_rfl
  t145 := by kernel_rfl
  a145 := fun w => by kernel_rfl
  z145 := fun w => by kernel_rfl
  v145 := fun w => by kernel_rfl
  t167 := by kernel_rfl
  a167 := fun w => by kernel_rfl
  z167 := fun w => by kernel_rfl
  v167 := fun w => by kernel_rfl
  t168 := by kernel_rfl
  a168 := fun w => by kernel_rfl
  z168 := fun w => by kernel_rfl
  v168 := fun w => by kernel_rfl
  t171 := by kernel_rfl
  a171 := fun w => by kernel_rfl
  z171 := fun w => by kernel_rfl
  v171 := fun w => by kernel_rfl
  t173 := by kernel_rfl
  a173 := fun w => by kernel_rfl
  z173 := fun w => by kernel_rfl
  v173 := fun w => by kernel_rfl
  t175 := by kernel_rfl
  a175 := fun w => by kernel_rfl
  z175 := fun w => by kernel_rfl
  v175 := fun w => by kernel_rfl
  t210 := by kernel_rfl
  a210 := fun w => by kernel_rfl
  z210 := fun w => by kernel_rfl
  v210 := fun w => by kernel_rfl
  t212 := by kernel_rfl
  a212 := fun w => by kernel_rfl
  z212 := fun w => by kernel_rfl
  v212 := fun w => by kernel_rfl
  t213 := by kernel_rfl
  a213 := fun w => by kernel_rfl
  z213 := fun w => by kernel_rfl
  t232 := by kernel_rfl
  a232 := fun w => by kernel_rfl
  z232 := fun w => by kernel_rfl
  v232 := fun w => by kernel_rfl
  t233 := by kernel_rfl
  a233 := fun w => by kernel_rfl
  z233 := fun w => by kernel_rfl
  v233 := fun w => by kernel_rfl
  g15 := by kernel_rfl
  g16 := by kernel_rfl
  g17 := by kernel_rfl
  g18 := by kernel_rfl
  g19 := by kernel_rfl
  t80 := by kernel_rfl
  a80 := fun w => by kernel_rfl
  z80 := fun w => by kernel_rfl
  v80 := fun w => by kernel_rfl
  i0 := by kernel_rfl
  i2 := by kernel_rfl
  i3 := by kernel_rfl
  i4 := by kernel_rfl
  i5 := by kernel_rfl
  i9 := by kernel_rfl
  i20 := by kernel_rfl
  i21 := by kernel_rfl
  i37 := by kernel_rfl
  i46 := by kernel_rfl
  i51 := by kernel_rfl
  i53 := by kernel_rfl
  i75 := by kernel_rfl
  i76 := by kernel_rfl
  i80 := by kernel_rfl
  i85 := by kernel_rfl
  i127 := by kernel_rfl
  i143 := by kernel_rfl
  i145 := by kernel_rfl
  i167 := by kernel_rfl
  i168 := by kernel_rfl
  i171 := by kernel_rfl
  i173 := by kernel_rfl
  i175 := by kernel_rfl
  i210 := by kernel_rfl
  i212 := by kernel_rfl
  i232 := by kernel_rfl
  i233 := by kernel_rfl
  m15 := by kernel_rfl
  m16 := by kernel_rfl
  m17 := by kernel_rfl
  m18 := by kernel_rfl
  m19 := by kernel_rfl
  c0 := by kernel_rfl
  c2 := by kernel_rfl
  c3 := by kernel_rfl
  c4 := by kernel_rfl
  c5 := by kernel_rfl
  c9 := by kernel_rfl
  c20 := by kernel_rfl
  c21 := by kernel_rfl
  c37 := by kernel_rfl
  c46 := by kernel_rfl
  c51 := by kernel_rfl
  c53 := by kernel_rfl
  c75 := by kernel_rfl
  c76 := by kernel_rfl
  c80 := by kernel_rfl
  c85 := by kernel_rfl
  c127 := by kernel_rfl
  c143 := by kernel_rfl
  c145 := by kernel_rfl
  c167 := by kernel_rfl
  c168 := by kernel_rfl
  c171 := by kernel_rfl
  c173 := by kernel_rfl
  c175 := by kernel_rfl
  c210 := by kernel_rfl
  c212 := by kernel_rfl
  c213 := by kernel_rfl
  c232 := by kernel_rfl
  c233 := by kernel_rfl
theorem Tryd.noJoin : True := trivial
theorem Tryd.hiSplit : (Tryd.prog.info? (Tryd.laySplit_ren.t 9)).map (fun i => (i.zero, i.size, i.bytes)) = some (some (.string ByteArray.empty), 1, 16) := by kernel_rfl
end Go.Proofs
