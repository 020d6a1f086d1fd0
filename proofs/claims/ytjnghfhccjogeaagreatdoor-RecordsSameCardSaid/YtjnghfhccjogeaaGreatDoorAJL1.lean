/-
  RecordsSame: texts of the proof: L1, L2, L3, L4, L5, L6.
-/
import Derived.Shelf.Strings.Split
import Derived.Shelf.Strings.Cut
import Derived.Shelf.Small.Strs
import Derived.Shelf.Strconv.Itoa3
import Derived.Shelf.Strings.OnBuilder
import Derived.Shelf.LaysM
import Derived.Test.YtjnghfhccjogeaaGreatDoorProg
import Derived.Test.YtjnghfhccjogeaaGreatDoorAE20
namespace Go.Proofs.YtjnghfhccjogeaaGreatDoor
namespace Mini
open Go Go.Shelf Go.Proofs
def renNm : Ren where
  f x := match x with
    | 129 => 174
    | 138 => 178
    | 143 => 179
    | 145 => 99
    | 146 => 100
    | 156 => 125
    | 165 => 157
    | 166 => 87
    | 169 => 58
    | 171 => 129
    | 195 => 230
    | 197 => 231
    | 217 => 226
    | 218 => 232
    | 219 => 176
    | 220 => 133
    | 221 => 134
    | 224 => 228
    | 225 => 227
    | 240 => 122
    | 241 => 213
    | 243 => 164
    | 246 => 219
    | 260 => 265
    | 266 => 263
    | 267 => 229
    | 268 => 177
    | 276 => 155
    | 277 => 259
    | 283 => 209
    | 284 => 210
    | 285 => 211
    | 286 => 212
    | 314 => 264
    | 317 => 255
    | 318 => 256
    | 319 => 257
    | 320 => 258
    | 337 => 295
    | 338 => 296
    | n => n
  t x := match x with
    | 0 => 0
    | 2 => 2
    | 3 => 3
    | 4 => 4
    | 5 => 5
    | 9 => 9
    | 20 => 20
    | 21 => 21
    | 31 => 123
    | 37 => 46
    | 46 => 182
    | 51 => 26
    | 53 => 176
    | 59 => 156
    | 70 => 101
    | 72 => 103
    | 75 => 138
    | 76 => 139
    | 80 => 106
    | 105 => 279
    | 119 => 304
    | 127 => 152
    | 138 => 306
    | 139 => 307
    | 146 => 317
    | 164 => 218
    | 171 => 263
    | 173 => 265
    | 212 => 312
    | 213 => 313
    | 232 => 380
    | 233 => 381
    | n => n
  g x := match x with
    | 1 => 3
    | 3 => 4
    | 4 => 5
    | 17 => 7
    | 18 => 11
    | 19 => 12
    | n => n
theorem lays_n145 : Lays.n145 Tryz.prog renNm where
  mixed := by kernel_rfl
  f145 := by kernel_rfl
  f217 := by kernel_rfl
  f219 := by kernel_rfl
  f220 := by kernel_rfl
  f224 := by kernel_rfl
  f225 := by kernel_rfl
  f266 := by kernel_rfl
  f267 := by kernel_rfl
  f314 := by kernel_rfl
  t3 := by kernel_rfl
  a3 := fun _ => by kernel_rfl
  z3 := fun _ => by kernel_rfl
  v3 := fun _ => by kernel_rfl
  t4 := by kernel_rfl
  a4 := fun _ => by kernel_rfl
  z4 := fun _ => by kernel_rfl
  v4 := fun _ => by kernel_rfl
  t5 := by kernel_rfl
  a5 := fun _ => by kernel_rfl
  z5 := fun _ => by kernel_rfl
  v5 := fun _ => by kernel_rfl
  t9 := by kernel_rfl
  a9 := fun _ => by kernel_rfl
  z9 := fun _ => by kernel_rfl
  v9 := fun _ => by kernel_rfl
  t46 := by kernel_rfl
  a46 := fun _ => by kernel_rfl
  z46 := fun _ => by kernel_rfl
  v46 := fun _ => by kernel_rfl
  t51 := by kernel_rfl
  a51 := fun _ => by kernel_rfl
  z51 := fun _ => by kernel_rfl
  v51 := fun _ => by kernel_rfl
  t59 := by kernel_rfl
  a59 := fun _ => by kernel_rfl
  z59 := fun _ => by kernel_rfl
  v59 := fun _ => by kernel_rfl
  t146 := by kernel_rfl
  a146 := fun _ => by kernel_rfl
  z146 := fun _ => by kernel_rfl
  v146 := fun _ => by kernel_rfl
  g1 := by kernel_rfl
theorem lays_n146 : Lays.n146 Tryz.prog renNm where
  mixed := by kernel_rfl
  f138 := by kernel_rfl
  f143 := by kernel_rfl
  f146 := by kernel_rfl
  f195 := by kernel_rfl
  f197 := by kernel_rfl
  f217 := by kernel_rfl
  f218 := by kernel_rfl
  f219 := by kernel_rfl
  f221 := by kernel_rfl
  f224 := by kernel_rfl
  f225 := by kernel_rfl
  f260 := by kernel_rfl
  f266 := by kernel_rfl
  f267 := by kernel_rfl
  f268 := by kernel_rfl
  f314 := by kernel_rfl
  t0 := by kernel_rfl
  a0 := fun _ => by kernel_rfl
  z0 := fun _ => by kernel_rfl
  v0 := fun _ => by kernel_rfl
  t3 := by kernel_rfl
  a3 := fun _ => by kernel_rfl
  z3 := fun _ => by kernel_rfl
  v3 := fun _ => by kernel_rfl
  t4 := by kernel_rfl
  a4 := fun _ => by kernel_rfl
  z4 := fun _ => by kernel_rfl
  v4 := fun _ => by kernel_rfl
  t5 := by kernel_rfl
  a5 := fun _ => by kernel_rfl
  z5 := fun _ => by kernel_rfl
  v5 := fun _ => by kernel_rfl
  t9 := by kernel_rfl
  a9 := fun _ => by kernel_rfl
  z9 := fun _ => by kernel_rfl
  v9 := fun _ => by kernel_rfl
  t21 := by kernel_rfl
  a21 := fun _ => by kernel_rfl
  z21 := fun _ => by kernel_rfl
  v21 := fun _ => by kernel_rfl
  t31 := by kernel_rfl
  a31 := fun _ => by kernel_rfl
  z31 := fun _ => by kernel_rfl
  v31 := fun _ => by kernel_rfl
  t46 := by kernel_rfl
  a46 := fun _ => by kernel_rfl
  z46 := fun _ => by kernel_rfl
  v46 := fun _ => by kernel_rfl
  t51 := by kernel_rfl
  a51 := fun _ => by kernel_rfl
  z51 := fun _ => by kernel_rfl
  v51 := fun _ => by kernel_rfl
  t105 := by kernel_rfl
  a105 := fun _ => by kernel_rfl
  z105 := fun _ => by kernel_rfl
  v105 := fun _ => by kernel_rfl
  t119 := by kernel_rfl
  a119 := fun _ => by kernel_rfl
  z119 := fun _ => by kernel_rfl
  t138 := by kernel_rfl
  a138 := fun _ => by kernel_rfl
  z138 := fun _ => by kernel_rfl
  v138 := fun _ => by kernel_rfl
  t139 := by kernel_rfl
  a139 := fun _ => by kernel_rfl
  z139 := fun _ => by kernel_rfl
  v139 := fun _ => by kernel_rfl
  t146 := by kernel_rfl
  a146 := fun _ => by kernel_rfl
  z146 := fun _ => by kernel_rfl
  v146 := fun _ => by kernel_rfl
  g1 := by kernel_rfl
  g3 := by kernel_rfl
  g4 := by kernel_rfl
theorem lays_n156 : Lays.n156 Tryz.prog renNm where
  mixed := by kernel_rfl
  f156 := by kernel_rfl
  f165 := by kernel_rfl
  f166 := by kernel_rfl
  f169 := by kernel_rfl
  f240 := by kernel_rfl
  f241 := by kernel_rfl
  f276 := by kernel_rfl
  f277 := by kernel_rfl
  t0 := by kernel_rfl
  a0 := fun _ => by kernel_rfl
  z0 := fun _ => by kernel_rfl
  v0 := fun _ => by kernel_rfl
  t3 := by kernel_rfl
  a3 := fun _ => by kernel_rfl
  z3 := fun _ => by kernel_rfl
  v3 := fun _ => by kernel_rfl
  t4 := by kernel_rfl
  a4 := fun _ => by kernel_rfl
  z4 := fun _ => by kernel_rfl
  v4 := fun _ => by kernel_rfl
  t9 := by kernel_rfl
  a9 := fun _ => by kernel_rfl
  z9 := fun _ => by kernel_rfl
  v9 := fun _ => by kernel_rfl
  t20 := by kernel_rfl
  a20 := fun _ => by kernel_rfl
  z20 := fun _ => by kernel_rfl
  v20 := fun _ => by kernel_rfl
  t31 := by kernel_rfl
  a31 := fun _ => by kernel_rfl
  z31 := fun _ => by kernel_rfl
  v31 := fun _ => by kernel_rfl
  t37 := by kernel_rfl
  a37 := fun _ => by kernel_rfl
  z37 := fun _ => by kernel_rfl
  v37 := fun _ => by kernel_rfl
  t70 := by kernel_rfl
  a70 := fun _ => by kernel_rfl
  z70 := fun _ => by kernel_rfl
  v70 := fun _ => by kernel_rfl
  t72 := by kernel_rfl
  a72 := fun _ => by kernel_rfl
  z72 := fun _ => by kernel_rfl
  v72 := fun _ => by kernel_rfl
  t75 := by kernel_rfl
  a75 := fun _ => by kernel_rfl
  z75 := fun _ => by kernel_rfl
  v75 := fun _ => by kernel_rfl
  t76 := by kernel_rfl
  a76 := fun _ => by kernel_rfl
  z76 := fun _ => by kernel_rfl
  v76 := fun _ => by kernel_rfl
  t127 := by kernel_rfl
  a127 := fun _ => by kernel_rfl
  z127 := fun _ => by kernel_rfl
  v127 := fun _ => by kernel_rfl
  t164 := by kernel_rfl
  a164 := fun _ => by kernel_rfl
  z164 := fun _ => by kernel_rfl
  v164 := fun _ => by kernel_rfl
theorem lays_n171 : Lays.n171 Tryz.prog renNm where
  mixed := by kernel_rfl
  f129 := by kernel_rfl
  f171 := by kernel_rfl
  f243 := by kernel_rfl
  f246 := by kernel_rfl
  f283 := by kernel_rfl
  f284 := by kernel_rfl
  f285 := by kernel_rfl
  f286 := by kernel_rfl
  f317 := by kernel_rfl
  f318 := by kernel_rfl
  f319 := by kernel_rfl
  f320 := by kernel_rfl
  f337 := by kernel_rfl
  f338 := by kernel_rfl
  t0 := by kernel_rfl
  a0 := fun _ => by kernel_rfl
  z0 := fun _ => by kernel_rfl
  v0 := fun _ => by kernel_rfl
  t2 := by kernel_rfl
  a2 := fun _ => by kernel_rfl
  z2 := fun _ => by kernel_rfl
  v2 := fun _ => by kernel_rfl
  t3 := by kernel_rfl
  a3 := fun _ => by kernel_rfl
  z3 := fun _ => by kernel_rfl
  v3 := fun _ => by kernel_rfl
  t4 := by kernel_rfl
  a4 := fun _ => by kernel_rfl
  z4 := fun _ => by kernel_rfl
  v4 := fun _ => by kernel_rfl
  t5 := by kernel_rfl
  a5 := fun _ => by kernel_rfl
  z5 := fun _ => by kernel_rfl
  v5 := fun _ => by kernel_rfl
  t9 := by kernel_rfl
  a9 := fun _ => by kernel_rfl
  z9 := fun _ => by kernel_rfl
  v9 := fun _ => by kernel_rfl
  t20 := by kernel_rfl
  a20 := fun _ => by kernel_rfl
  z20 := fun _ => by kernel_rfl
  v20 := fun _ => by kernel_rfl
  t37 := by kernel_rfl
  a37 := fun _ => by kernel_rfl
  z37 := fun _ => by kernel_rfl
  v37 := fun _ => by kernel_rfl
  t46 := by kernel_rfl
  a46 := fun _ => by kernel_rfl
  z46 := fun _ => by kernel_rfl
  v46 := fun _ => by kernel_rfl
  t51 := by kernel_rfl
  a51 := fun _ => by kernel_rfl
  z51 := fun _ => by kernel_rfl
  v51 := fun _ => by kernel_rfl
  t53 := by kernel_rfl
  a53 := fun _ => by kernel_rfl
  z53 := fun _ => by kernel_rfl
  v53 := fun _ => by kernel_rfl
  t171 := by kernel_rfl
  a171 := fun _ => by kernel_rfl
  z171 := fun _ => by kernel_rfl
  v171 := fun _ => by kernel_rfl
  t173 := by kernel_rfl
  a173 := fun _ => by kernel_rfl
  z173 := fun _ => by kernel_rfl
  v173 := fun _ => by kernel_rfl
  t212 := by kernel_rfl
  a212 := fun _ => by kernel_rfl
  z212 := fun _ => by kernel_rfl
  v212 := fun _ => by kernel_rfl
  t213 := by kernel_rfl
  a213 := fun _ => by kernel_rfl
  z213 := fun _ => by kernel_rfl
  t232 := by kernel_rfl
  a232 := fun _ => by kernel_rfl
  z232 := fun _ => by kernel_rfl
  v232 := fun _ => by kernel_rfl
  t233 := by kernel_rfl
  a233 := fun _ => by kernel_rfl
  z233 := fun _ => by kernel_rfl
  v233 := fun _ => by kernel_rfl
  g17 := by kernel_rfl
  g18 := by kernel_rfl
  g19 := by kernel_rfl
theorem laysM_n171 : LaysM.n171 Tryz.prog renNm where
  mixed := by kernel_rfl
  f129 := by kernel_rfl
  f171 := by kernel_rfl
  f243 := by kernel_rfl
  f246 := by kernel_rfl
  f283 := by kernel_rfl
  f284 := by kernel_rfl
  f285 := by kernel_rfl
  f286 := by kernel_rfl
  f317 := by kernel_rfl
  f318 := by kernel_rfl
  f319 := by kernel_rfl
  f320 := by kernel_rfl
  f337 := by kernel_rfl
  f338 := by kernel_rfl
  t0 := by kernel_rfl
  a0 := fun _ => by kernel_rfl
  z0 := fun _ => by kernel_rfl
  v0 := fun _ => by kernel_rfl
  t2 := by kernel_rfl
  a2 := fun _ => by kernel_rfl
  z2 := fun _ => by kernel_rfl
  v2 := fun _ => by kernel_rfl
  t3 := by kernel_rfl
  a3 := fun _ => by kernel_rfl
  z3 := fun _ => by kernel_rfl
  v3 := fun _ => by kernel_rfl
  t4 := by kernel_rfl
  a4 := fun _ => by kernel_rfl
  z4 := fun _ => by kernel_rfl
  v4 := fun _ => by kernel_rfl
  t5 := by kernel_rfl
  a5 := fun _ => by kernel_rfl
  z5 := fun _ => by kernel_rfl
  v5 := fun _ => by kernel_rfl
  t9 := by kernel_rfl
  a9 := fun _ => by kernel_rfl
  z9 := fun _ => by kernel_rfl
  v9 := fun _ => by kernel_rfl
  t20 := by kernel_rfl
  a20 := fun _ => by kernel_rfl
  z20 := fun _ => by kernel_rfl
  v20 := fun _ => by kernel_rfl
  t37 := by kernel_rfl
  a37 := fun _ => by kernel_rfl
  z37 := fun _ => by kernel_rfl
  v37 := fun _ => by kernel_rfl
  t46 := by kernel_rfl
  a46 := fun _ => by kernel_rfl
  z46 := fun _ => by kernel_rfl
  v46 := fun _ => by kernel_rfl
  t51 := by kernel_rfl
  a51 := fun _ => by kernel_rfl
  z51 := fun _ => by kernel_rfl
  v51 := fun _ => by kernel_rfl
  t53 := by kernel_rfl
  a53 := fun _ => by kernel_rfl
  z53 := fun _ => by kernel_rfl
  v53 := fun _ => by kernel_rfl
  t171 := by kernel_rfl
  a171 := fun _ => by kernel_rfl
  z171 := fun _ => by kernel_rfl
  v171 := fun _ => by kernel_rfl
  t173 := by kernel_rfl
  a173 := fun _ => by kernel_rfl
  z173 := fun _ => by kernel_rfl
  v173 := fun _ => by kernel_rfl
  t212 := by kernel_rfl
  a212 := fun _ => by kernel_rfl
  z212 := fun _ => by kernel_rfl
  v212 := fun _ => by kernel_rfl
  t213 := by kernel_rfl
  a213 := fun _ => by kernel_rfl
  z213 := fun _ => by kernel_rfl
  t232 := by kernel_rfl
  a232 := fun _ => by kernel_rfl
  z232 := fun _ => by kernel_rfl
  v232 := fun _ => by kernel_rfl
  t233 := by kernel_rfl
  a233 := fun _ => by kernel_rfl
  z233 := fun _ => by kernel_rfl
  v233 := fun _ => by kernel_rfl
  g17 := by kernel_rfl
  g18 := by kernel_rfl
  g19 := by kernel_rfl
  i0 := by kernel_rfl
  i2 := by kernel_rfl
  i3 := by kernel_rfl
  i4 := by kernel_rfl
  i5 := by kernel_rfl
  i9 := by kernel_rfl
  i20 := by kernel_rfl
  i37 := by kernel_rfl
  i46 := by kernel_rfl
  i51 := by kernel_rfl
  i53 := by kernel_rfl
  i171 := by kernel_rfl
  i173 := by kernel_rfl
  i212 := by kernel_rfl
  i232 := by kernel_rfl
  i233 := by kernel_rfl
  m17 := by kernel_rfl
  m18 := by kernel_rfl
  m19 := by kernel_rfl
theorem lays_n284 : Lays.n284 Tryz.prog renNm where
  mixed := by kernel_rfl
  f129 := by kernel_rfl
  f284 := by kernel_rfl
  f317 := by kernel_rfl
  f318 := by kernel_rfl
  t0 := by kernel_rfl
  a0 := fun _ => by kernel_rfl
  z0 := fun _ => by kernel_rfl
  v0 := fun _ => by kernel_rfl
  t3 := by kernel_rfl
  a3 := fun _ => by kernel_rfl
  z3 := fun _ => by kernel_rfl
  v3 := fun _ => by kernel_rfl
  t4 := by kernel_rfl
  a4 := fun _ => by kernel_rfl
  z4 := fun _ => by kernel_rfl
  v4 := fun _ => by kernel_rfl
  t5 := by kernel_rfl
  a5 := fun _ => by kernel_rfl
  z5 := fun _ => by kernel_rfl
  v5 := fun _ => by kernel_rfl
  t9 := by kernel_rfl
  a9 := fun _ => by kernel_rfl
  z9 := fun _ => by kernel_rfl
  v9 := fun _ => by kernel_rfl
  t46 := by kernel_rfl
  a46 := fun _ => by kernel_rfl
  z46 := fun _ => by kernel_rfl
  v46 := fun _ => by kernel_rfl
  t53 := by kernel_rfl
  a53 := fun _ => by kernel_rfl
  z53 := fun _ => by kernel_rfl
  v53 := fun _ => by kernel_rfl
  t212 := by kernel_rfl
  a212 := fun _ => by kernel_rfl
  z212 := fun _ => by kernel_rfl
  v212 := fun _ => by kernel_rfl
  g17 := by kernel_rfl
theorem laysM_n284 : LaysM.n284 Tryz.prog renNm where
  mixed := by kernel_rfl
  f129 := by kernel_rfl
  f284 := by kernel_rfl
  f317 := by kernel_rfl
  f318 := by kernel_rfl
  t0 := by kernel_rfl
  a0 := fun _ => by kernel_rfl
  z0 := fun _ => by kernel_rfl
  v0 := fun _ => by kernel_rfl
  t3 := by kernel_rfl
  a3 := fun _ => by kernel_rfl
  z3 := fun _ => by kernel_rfl
  v3 := fun _ => by kernel_rfl
  t4 := by kernel_rfl
  a4 := fun _ => by kernel_rfl
  z4 := fun _ => by kernel_rfl
  v4 := fun _ => by kernel_rfl
  t5 := by kernel_rfl
  a5 := fun _ => by kernel_rfl
  z5 := fun _ => by kernel_rfl
  v5 := fun _ => by kernel_rfl
  t9 := by kernel_rfl
  a9 := fun _ => by kernel_rfl
  z9 := fun _ => by kernel_rfl
  v9 := fun _ => by kernel_rfl
  t46 := by kernel_rfl
  a46 := fun _ => by kernel_rfl
  z46 := fun _ => by kernel_rfl
  v46 := fun _ => by kernel_rfl
  t53 := by kernel_rfl
  a53 := fun _ => by kernel_rfl
  z53 := fun _ => by kernel_rfl
  v53 := fun _ => by kernel_rfl
  t212 := by kernel_rfl
  a212 := fun _ => by kernel_rfl
  z212 := fun _ => by kernel_rfl
  v212 := fun _ => by kernel_rfl
  g17 := by kernel_rfl
  i0 := by kernel_rfl
  i3 := by kernel_rfl
  i4 := by kernel_rfl
  i5 := by kernel_rfl
  i9 := by kernel_rfl
  i46 := by kernel_rfl
  i53 := by kernel_rfl
  i212 := by kernel_rfl
  m17 := by kernel_rfl
theorem lays_n285 : Lays.n285 Tryz.prog renNm where
  mixed := by kernel_rfl
  f285 := by kernel_rfl
  t0 := by kernel_rfl
  a0 := fun _ => by kernel_rfl
  z0 := fun _ => by kernel_rfl
  v0 := fun _ => by kernel_rfl
  t3 := by kernel_rfl
  a3 := fun _ => by kernel_rfl
  z3 := fun _ => by kernel_rfl
  v3 := fun _ => by kernel_rfl
  t4 := by kernel_rfl
  a4 := fun _ => by kernel_rfl
  z4 := fun _ => by kernel_rfl
  v4 := fun _ => by kernel_rfl
  t5 := by kernel_rfl
  a5 := fun _ => by kernel_rfl
  z5 := fun _ => by kernel_rfl
  v5 := fun _ => by kernel_rfl
  t9 := by kernel_rfl
  a9 := fun _ => by kernel_rfl
  z9 := fun _ => by kernel_rfl
  v9 := fun _ => by kernel_rfl
  t37 := by kernel_rfl
  a37 := fun _ => by kernel_rfl
  z37 := fun _ => by kernel_rfl
  v37 := fun _ => by kernel_rfl
  t51 := by kernel_rfl
  a51 := fun _ => by kernel_rfl
  z51 := fun _ => by kernel_rfl
  v51 := fun _ => by kernel_rfl
  t53 := by kernel_rfl
  a53 := fun _ => by kernel_rfl
  z53 := fun _ => by kernel_rfl
  v53 := fun _ => by kernel_rfl
theorem lays_n169 : Lays.n169 Tryz.prog renNm where
  mixed := by kernel_rfl
  f169 := by kernel_rfl
  t0 := by kernel_rfl
  a0 := fun _ => by kernel_rfl
  z0 := fun _ => by kernel_rfl
  v0 := fun _ => by kernel_rfl
  t3 := by kernel_rfl
  a3 := fun _ => by kernel_rfl
  z3 := fun _ => by kernel_rfl
  v3 := fun _ => by kernel_rfl
  t9 := by kernel_rfl
  a9 := fun _ => by kernel_rfl
  z9 := fun _ => by kernel_rfl
  v9 := fun _ => by kernel_rfl
  t37 := by kernel_rfl
  a37 := fun _ => by kernel_rfl
  z37 := fun _ => by kernel_rfl
  v37 := fun _ => by kernel_rfl
  t70 := by kernel_rfl
  a70 := fun _ => by kernel_rfl
  z70 := fun _ => by kernel_rfl
  v70 := fun _ => by kernel_rfl
  t72 := by kernel_rfl
  a72 := fun _ => by kernel_rfl
  z72 := fun _ => by kernel_rfl
  v72 := fun _ => by kernel_rfl
  t127 := by kernel_rfl
  a127 := fun _ => by kernel_rfl
  z127 := fun _ => by kernel_rfl
  v127 := fun _ => by kernel_rfl
theorem lays_n240 : Lays.n240 Tryz.prog renNm where
  mixed := by kernel_rfl
  f240 := by kernel_rfl
  f276 := by kernel_rfl
  t0 := by kernel_rfl
  a0 := fun _ => by kernel_rfl
  z0 := fun _ => by kernel_rfl
  v0 := fun _ => by kernel_rfl
  t4 := by kernel_rfl
  a4 := fun _ => by kernel_rfl
  z4 := fun _ => by kernel_rfl
  v4 := fun _ => by kernel_rfl
  t9 := by kernel_rfl
  a9 := fun _ => by kernel_rfl
  z9 := fun _ => by kernel_rfl
  v9 := fun _ => by kernel_rfl
  t20 := by kernel_rfl
  a20 := fun _ => by kernel_rfl
  z20 := fun _ => by kernel_rfl
  v20 := fun _ => by kernel_rfl
  t70 := by kernel_rfl
  a70 := fun _ => by kernel_rfl
  z70 := fun _ => by kernel_rfl
  v70 := fun _ => by kernel_rfl
  t72 := by kernel_rfl
  a72 := fun _ => by kernel_rfl
  z72 := fun _ => by kernel_rfl
  v72 := fun _ => by kernel_rfl
  t164 := by kernel_rfl
  a164 := fun _ => by kernel_rfl
  z164 := fun _ => by kernel_rfl
  v164 := fun _ => by kernel_rfl
theorem extraNm : Builder.Extra Tryz.prog renNm where
  sizeBuilder := by kernel_rfl
  liesBuilder := by kernel_rfl
  t5 := by kernel_rfl
  a5 := fun _ => by kernel_rfl
  z5 := fun _ => by kernel_rfl
  v5 := fun _ => by kernel_rfl
  infoByte := by kernel_rfl
  cellsByte := by kernel_rfl
  sizeByte := by kernel_rfl
  neB5 := by decide
end Mini
end Go.Proofs.YtjnghfhccjogeaaGreatDoor
namespace Go.Proofs.YtjnghfhccjogeaaGreatDoor
namespace Mini
open Go Go.Shelf Go.Proofs Go.RowKit
def idxN (c : Nat) : List Nat → Option Nat
  | [] => none
  | x :: xs => if x = c then some 0 else match idxN c xs with
    | some k => some (k + 1)
    | none => none
def lidxN (c : Nat) : List Nat → Option Nat
  | [] => none
  | x :: xs => match lidxN c xs with
    | some k => some (k + 1)
    | none => if x = c then some 0 else none
def oInt : Option Nat → Int
  | some k => Int.ofNat k
  | none => -1
def cutN (c : Nat) : List Nat → Option (List Nat × List Nat)
  | [] => none
  | x :: xs => if x = c then some ([], xs) else match cutN c xs with
    | some (a, b) => some (x :: a, b)
    | none => none
def splitN (c : Nat) : List Nat → List (List Nat)
  | [] => [[]]
  | x :: xs => if x = c then [] :: splitN c xs else match splitN c xs with
    | [] => [[x]]
    | y :: ys => (x :: y) :: ys
def trimN (cs s : List Nat) : List Nat := ((s.reverse.dropWhile (cs.contains ·)).reverse).dropWhile (cs.contains ·)
def isDig (b : Nat) : Bool := Nat.ble 48 b && Nat.ble b 57
def numN (acc : Nat) (s : List Nat) : Nat := s.foldl (fun a b => 10 * a + (b - 48)) acc
def decF : Nat → Nat → List Nat
  | 0, n => [48 + n % 10]
  | f + 1, n => if n < 10 then [48 + n] else decF f (n / 10) ++ [48 + n % 10]
def decN (n : Nat) : List Nat := decF 20 n
abbrev bytesB (s : ByteArray) : List Nat := s.data.toList.map UInt8.toNat
theorem oInt_ne (k : Nat) : (oInt (some k) == -1) = false := by
  rw [beq_eq_false_iff_ne]
  intro h
  have h1 : (0 : Int) ≤ oInt (some k) := Int.natCast_nonneg k
  rw [h] at h1
  exact absurd h1 (by decide)
theorem toNat_inj {a b : UInt8} (h : a.toNat = b.toNat) : a = b := UInt8.toNat_inj.1 h
theorem idxN_eq (c : UInt8) : ∀ l : List UInt8, Lib.indexByte l c = oInt (idxN c.toNat (List.map UInt8.toNat l))
  | [] => rfl
  | b :: l => by
    have ih := idxN_eq c l
    simp only [Lib.indexByte, List.map_cons, idxN]
    by_cases h : b = c
    · subst h; simp [oInt]
    · have h' : ¬ b.toNat = c.toNat := fun e => h (toNat_inj e)
      rw [if_neg h', if_neg (by simpa using h), ih]
      cases idxN c.toNat (List.map UInt8.toNat l) with
      | none => simp [oInt]
      | some k =>
        simp only [oInt_ne, Bool.false_eq_true, if_false]
        rfl
theorem index_one (c : UInt8) : ∀ l : List UInt8, Lib.index l [c] = Lib.indexByte l c
  | [] => rfl
  | b :: l => by
    have ih := index_one c l
    simp only [Lib.index, Lib.indexByte, ih]
    by_cases h : b = c
    · subst h; simp
    · have h1 : (c == b) = false := by simp; exact fun e => h e.symm
      have h2 : (b == c) = false := by simp; exact h
      simp [List.isPrefixOf, h1, h2]
theorem idxN_lt {c : Nat} : ∀ {l : List Nat} {k : Nat}, idxN c l = some k → k < l.length
  | [], _, h => by cases h
  | x :: xs, k, h => by
    simp only [idxN] at h
    split at h
    · cases h; simp
    · split at h <;> try (cases h; done)
      rename_i k' hk
      cases h
      have := idxN_lt hk
      simp only [List.length_cons]; omega
theorem cutN_idx (c : Nat) : ∀ l : List Nat, cutN c l = (idxN c l).map fun k => (l.take k, l.drop (k + 1))
  | [] => rfl
  | x :: xs => by
    simp only [cutN, idxN, cutN_idx c xs]
    split
    · simp
    · cases idxN c xs <;> simp
theorem splitN_ne (c : Nat) (l : List Nat) : splitN c l ≠ [] := by
  cases l with
  | nil => simp [splitN]
  | cons x xs =>
    simp only [splitN]
    split
    · simp
    · split <;> simp
theorem splitN_cut (c : Nat) : ∀ l : List Nat, splitN c l = match cutN c l with
    | some (a, b) => a :: splitN c b
    | none => [l]
  | [] => rfl
  | x :: xs => by
    have ih := splitN_cut c xs
    simp only [splitN, cutN]
    split
    · rfl
    · cases h : cutN c xs with
      | none => rw [h] at ih; simp only at ih; rw [ih]
      | some p => obtain ⟨a, b⟩ := p; rw [h] at ih; simp only at ih; rw [ih]
theorem splitN_length (c : Nat) : ∀ l : List Nat, (splitN c l).length ≤ l.length + 1
  | [] => by simp [splitN]
  | x :: xs => by
    have := splitN_length c xs
    simp only [splitN]
    split
    · simp; omega
    · have h0 := splitN_ne c xs
      split
      · rename_i h; exact absurd h h0
      · rename_i y ys h; rw [h] at this; simp at this ⊢; omega
theorem splitK_eq (c : UInt8) : ∀ (k : Nat) (l : List UInt8), (splitN c.toNat (List.map UInt8.toNat l)).length ≤ k + 1 → (Lib.splitK [c] 0 k l).map (List.map UInt8.toNat) = splitN c.toNat (List.map UInt8.toNat l)
  | 0, l, h => by
    rw [splitN_cut] at h ⊢
    cases hc : cutN c.toNat (List.map UInt8.toNat l) with
    | none => simp [Lib.splitK]
    | some p =>
      obtain ⟨a, b⟩ := p
      rw [hc] at h
      have := List.length_pos_iff.2 (splitN_ne c.toNat b)
      simp at h
      exact absurd h (splitN_ne _ _)
  | k + 1, l, h => by
    rw [splitN_cut] at h ⊢
    simp only [Lib.splitK, index_one, idxN_eq]
    rw [cutN_idx] at h ⊢
    cases hi : idxN c.toNat (List.map UInt8.toNat l) with
    | none => simp [oInt]
    | some j =>
      rw [hi] at h
      simp only [oInt_ne, Bool.false_eq_true, if_false]
      simp only [Option.map_some] at h ⊢
      have hj : (oInt (some j)).toNat = j := rfl
      have e : List.map UInt8.toNat (l.drop (j + 1)) = (List.map UInt8.toNat l).drop (j + 1) := by simp
      rw [hj, List.map_cons, Nat.add_zero]
      simp only [List.length_cons, List.length_nil, Nat.zero_add]
      rw [← e]
      rw [splitK_eq c k (l.drop (j + 1)) (by rw [e]; simp at h; exact h)]
      simp
theorem countFrom_eq (c : UInt8) : ∀ (f : Nat) (l : List UInt8), l.length < f → Lib.countFrom [c] f l + 1 = (splitN c.toNat (List.map UInt8.toNat l)).length
  | 0, l, h => by omega
  | f + 1, l, h => by
    rw [splitN_cut, cutN_idx]
    simp only [Lib.countFrom, index_one, idxN_eq]
    cases hi : idxN c.toNat (List.map UInt8.toNat l) with
    | none => simp [oInt]
    | some j =>
      simp only [oInt_ne, Bool.false_eq_true, if_false]
      have hlt := idxN_lt hi
      simp only [List.length_map] at hlt
      have e : List.map UInt8.toNat (l.drop (j + 1)) = (List.map UInt8.toNat l).drop (j + 1) := by simp
      have hj : (oInt (some j)).toNat = j := rfl
      simp only [Option.map_some, List.length_cons, hj, List.length_nil, Nat.zero_add]
      rw [← e, ← countFrom_eq c f (l.drop (j + 1)) (by simp only [List.length_drop]; omega)]
      omega
theorem numN_nil (acc : Nat) : numN acc [] = acc := by unfold numN; exact List.foldl_nil
theorem numN_cons (acc b : Nat) (l : List Nat) : numN acc (b :: l) = numN (10 * acc + (b - 48)) l := by unfold numN; exact List.foldl_cons
theorem numN_ge (l : List Nat) : ∀ acc : Nat, acc ≤ numN acc l := by
  induction l with
  | nil => intro acc; rw [numN_nil]; exact Nat.le_refl _
  | cons b l ih =>
    intro acc
    have := ih (10 * acc + (b - 48))
    rw [numN_cons]
    omega
theorem decF_eq : ∀ (f n : Nat), n < 10 ^ (f + 1) → List.map UInt8.toNat (Lib.decDigits n) = decF f n
  | 0, n, h => by
    rw [Lib.decDigits, dif_pos (by simpa using h)]
    have : n < 10 := by simpa using h
    simp only [decF, List.map_cons, List.map_nil, Nat.mod_eq_of_lt this]
    rw [UInt8.toNat_ofNat', Nat.mod_eq_of_lt (by omega)]
  | f + 1, n, h => by
    rw [Lib.decDigits]
    simp only [decF]
    split
    · simp only [List.map_cons, List.map_nil]
      rw [UInt8.toNat_ofNat', Nat.mod_eq_of_lt (by omega)]
    · have hn : n / 10 < 10 ^ (f + 1) := by rw [Nat.pow_succ] at h; omega
      simp only [List.map_append, List.map_cons, List.map_nil]
      rw [decF_eq f (n / 10) hn, UInt8.toNat_ofNat', Nat.mod_eq_of_lt (by omega)]
theorem lidxN_snoc (c : Nat) : ∀ (l : List Nat) (x : Nat), lidxN c (l ++ [x]) = if x = c then some l.length else lidxN c l
  | [], x => by simp [lidxN]
  | y :: l, x => by
    simp only [List.cons_append, lidxN, lidxN_snoc c l x]
    by_cases h : x = c
    · simp [h]
    · simp [h]
end Mini
end Go.Proofs.YtjnghfhccjogeaaGreatDoor
namespace Go.Proofs.YtjnghfhccjogeaaGreatDoor
namespace Mini
open Go Go.Shelf Go.Proofs Go.RowKit
abbrev Str (s : List Nat) : V := .c (.d (.str s))
abbrev I64 (n : Int) : V := .c (.d (.int .i64 n))
abbrev U64 (n : Int) : V := .c (.d (.int .u64 n))
abbrev Bl (b : Bool) : V := .c (.d (.bool b))
theorem out_below {I : Imm} {w w' : World} {v : V} {u : Value} (hI : ∀ B o, I B = some o → w.heap[B]? = some o) (hb : Below w.heap.size w w') (hr : RelV (mm I) v u) :
    ∃ (v' : Value) (J : Imm), Ending.returned u = .returned v' ∧ RelV (mm J) v v' ∧ (∀ B o, I B = some o → J B = some o) ∧ (∀ B o, J B = some o → w'.heap[B]? = some o) ∧ (∀ B o, J B = some o → I B = some o ∨ w.heap.size ≤ B) ∧
      w'.os = w.os ∧ w'.tape = w.tape ∧ w'.output = w.output ∧ w.heap.size ≤ w'.heap.size ∧ ∀ B : Nat, B < w.heap.size → w'.heap[B]? = w.heap[B]? :=
  ⟨u, I, rfl, hr, fun _ _ h => h, fun B o hB => by rw [hb.block B (Array.getElem?_eq_some_iff.1 (hI B o hB)).1]; exact hI B o hB, fun _ _ h => .inl h, hb.os, hb.tape, hb.output, hb.size, hb.block⟩
theorem below_drewN (w : World) (n : Nat) : Below w.heap.size w (w.drewN n) := ⟨rfl, rfl, rfl, Nat.le_refl _, fun _ _ => rfl⟩
theorem below_grow (w : World) (n : Nat) (os : Array Obj) : Below w.heap.size w (Go.Sort.grow (w.drewN n) os) := by
  refine ⟨rfl, rfl, rfl, by simp [Go.Sort.grow, World.drewN], fun k hk => ?_⟩
  show (w.heap ++ os)[k]? = _
  rw [Array.getElem?_append_left hk]
theorem relStr {M : MM} {s : List Nat} {u : Value} (h : RelV M (Str s) u) : ∃ b : ByteArray, u = .string b ∧ bytesB b = s := by
  rw [relV_d] at h
  simp only [RelD] at h
  exact h
theorem strRel {M : MM} {b : ByteArray} {s : List Nat} (h : bytesB b = s) : RelV M (Str s) (.string b) := by
  rw [relV_d]; simp only [RelD]; exact ⟨b, rfl, h⟩
theorem relInt {M : MM} {k : IntKind} {n : Int} {u : Value} (h : RelV M (.c (.d (.int k n))) u) : u = .int k n := by
  rw [relV_d] at h; simpa only [RelD] using h
theorem intRel {M : MM} {k : IntKind} {n : Int} : RelV M (.c (.d (.int k n))) (.int k n) := by
  rw [relV_d]; simp only [RelD]
theorem one_byte {b : ByteArray} {c : Nat} (h : bytesB b = [c]) : ∃ x : UInt8, b = ⟨#[x]⟩ ∧ x.toNat = c := by
  obtain ⟨arr⟩ := b
  obtain ⟨l⟩ := arr
  simp only [bytesB] at h
  match l, h with
  | [x], h => exact ⟨x, rfl, by simpa using h⟩
theorem size_bytes {b : ByteArray} {s : List Nat} (h : bytesB b = s) : b.size = s.length := by
  rw [← h]; simp [bytesB]
theorem mk_bytes (l : List UInt8) : bytesB ⟨l.toArray⟩ = List.map UInt8.toNat l := by simp [bytesB]
def cutV : List V → Option V
  | [.c (.d (.str s)), .c (.d (.str [c]))] => if s.length < 4294967281 then some (match cutN c s with
      | some (a, b) => .tup [Str a, Str b, Bl true]
      | none => .tup [Str s, Str [], Bl false]) else none
  | _ => none
theorem maxLen_at {G : Nat → Option (List D)} {I : Imm} {w : World} {m : Int} (hG : GlobOk G I) (hm : G 3 = some [.int .i64 m]) (hI : ∀ B o, I B = some o → w.heap[B]? = some o) : w.cell? ⟨(renNm.g 1), 0, none⟩ = some (.int .i64 m) := by
  obtain ⟨arr, T, fr, h1, h2, h3⟩ := hG.at hm
  have hb := hI _ _ h1
  have e : renNm.g 1 = 3 := rfl
  rw [e]
  have h3' := RelDs.iff.1 h3 0 _ rfl
  obtain ⟨v, hv, hr⟩ := h3'
  simp only [RelD] at hr
  subst hr
  simp only [World.cell?, hb, Option.isSome_none, Bool.false_eq_true, if_false]
  rw [← Array.getElem?_toList]
  exact hv
theorem cutV_ok {G : Nat → Option (List D)} {m : Int} (hm : G 3 = some [.int .i64 m]) {vs : List V} {r : V} (h : cutV vs = some r) : Enters Tryz.prog 99 ∧ ValCall Tryz.prog G 99 vs r := by
  refine ⟨⟨Tryz.f99, by kernel_rfl, by kernel_rfl, by kernel_rfl⟩, ?_⟩
  unfold cutV at h
  split at h <;> try (cases h; done)
  rename_i s c
  split at h <;> try (cases h; done)
  rename_i hc
  simp only [Option.some.injEq] at h
  subst h
  intro I w us hG hI hrel hlen
  match us, hlen, hrel with
  | [u1, u2], _, hrel =>
    simp only [RelVs, and_true] at hrel
    obtain ⟨r1, r2⟩ := hrel
    obtain ⟨b, rfl, rfl⟩ := relStr r1
    obtain ⟨b2, rfl, hb2⟩ := relStr r2
    obtain ⟨x, rfl, rfl⟩ := one_byte hb2
    have hsz := size_bytes (b := b) rfl
    have hcall := Any.strings_Cut lays_n145 b ⟨#[x]⟩ m w (by omega) (maxLen_at hG hm hI)
    refine hcall.mono fun e w' hh => ?_
    obtain ⟨rfl, n, rfl⟩ := hh
    refine out_below hI (below_drewN _ _) ?_
    rw [cutN_idx]
    have hx : (⟨#[x]⟩ : ByteArray).data.toList = [x] := rfl
    rw [hx]
    unfold Lib.cut
    rw [index_one, idxN_eq]
    show RelV _ _ _
    simp only [bytesB]
    cases hi : idxN x.toNat (List.map UInt8.toNat b.data.toList) with
    | none =>
      have : ¬ (0 : Int) ≤ oInt none := by simp [oInt]
      rw [if_neg this]
      simp only [Option.map_none]
      rw [relV_tup]
      refine ⟨_, rfl, rfl, ?_⟩
      simp only [RelVs, and_true]
      exact ⟨strRel (mk_bytes _), strRel rfl, by rw [relV_bool]⟩
    | some k =>
      have : (0 : Int) ≤ oInt (some k) := Int.natCast_nonneg k
      rw [if_pos this]
      simp only [Option.map_some]
      rw [relV_tup]
      refine ⟨_, rfl, rfl, ?_⟩
      simp only [RelVs, and_true]
      have hk : (oInt (some k)).toNat = k := rfl
      refine ⟨strRel ?_, strRel ?_, by rw [relV_bool]⟩
      · rw [mk_bytes, hk, List.map_take]
      · rw [mk_bytes, hk, List.map_drop]; rfl
theorem strs_rel {I : Imm} : ∀ (bs : List ByteArray), RelDs I (bs.map fun b => .str (bytesB b)) (bs.map Value.string)
  | [] => RelDs.nil _ _
  | b :: bs => by
    simp only [List.map_cons, RelDs, RelD]
    exact ⟨⟨b, rfl, rfl⟩, strs_rel bs⟩
def splitV : List V → Option V
  | [.c (.d (.str s)), .c (.d (.str [c]))] => if s.length < 4294967281 then some (.c (.d (.sl ((splitN c s).map .str) (splitN c s).length))) else none
  | _ => none
theorem splitV_ok {G : Nat → Option (List D)} {m : Int} (hm : G 3 = some [.int .i64 m]) {vs : List V} {r : V} (h : splitV vs = some r) : Enters Tryz.prog 100 ∧ ValCall Tryz.prog G 100 vs r := by
  refine ⟨⟨Tryz.f100, by kernel_rfl, by kernel_rfl, by kernel_rfl⟩, ?_⟩
  unfold splitV at h
  split at h <;> try (cases h; done)
  rename_i s c
  split at h <;> try (cases h; done)
  rename_i hc
  simp only [Option.some.injEq] at h
  subst h
  intro I w us hG hI hrel hlen
  match us, hlen, hrel with
  | [u1, u2], _, hrel =>
    simp only [RelVs, and_true] at hrel
    obtain ⟨r1, r2⟩ := hrel
    obtain ⟨b, rfl, rfl⟩ := relStr r1
    obtain ⟨b2, rfl, hb2⟩ := relStr r2
    obtain ⟨x, rfl, rfl⟩ := one_byte hb2
    have hsz := size_bytes (b := b) rfl
    have hcall := Any.strings_Split lays_n146 (by kernel_rfl) b ⟨#[x]⟩ m w (by omega) (maxLen_at hG hm hI) (Nat.le_refl 1)
    refine hcall.mono fun e w' hh => ?_
    obtain ⟨rfl, rfl⟩ := hh
    have hcount : Lib.countB b ⟨#[x]⟩ + 1 = (splitN x.toNat (bytesB b)).length := countFrom_eq x (b.data.toList.length + 1) b.data.toList (Nat.lt_succ_self _)
    have hparts : (Lib.splitB ⟨#[x]⟩ 0 (Lib.countB b ⟨#[x]⟩) b).map (fun b => D.str (bytesB b)) = (splitN x.toNat (bytesB b)).map .str := by
      have h1 := Lib.splitB_data ⟨#[x]⟩ 0 (Lib.countB b ⟨#[x]⟩) b
      have h2 := splitK_eq x (Lib.countB b ⟨#[x]⟩) b.data.toList (by rw [hcount]; exact Nat.le_refl _)
      have hx : (⟨#[x]⟩ : ByteArray).data.toList = [x] := rfl
      rw [hx] at h1
      rw [← h1, List.map_map] at h2
      show _ = List.map D.str (splitN x.toNat (List.map UInt8.toNat b.data.toList))
      rw [← h2, List.map_map]
      rfl
    refine ⟨_, fun B => if B = w.heap.size then some (.cells ((Lib.splitB ⟨#[x]⟩ 0 (Lib.countB b ⟨#[x]⟩) b).map Value.string).toArray (renNm.t 9) (0, 0)) else I B, rfl, ?_, fun B o hB => ?_, fun B o hB => ?_, fun B o hB => ?_, rfl, rfl, rfl, ?_, fun B hB => ?_⟩
    · rw [relV_d]
      simp only [RelD]
      rw [← hcount]
      refine ⟨_, _, rfl, Nat.le_refl _, .inr ⟨_, _, _, _, _, rfl, if_pos rfl, ?_⟩⟩
      rw [← hparts]
      simp only [List.drop_zero]
      exact strs_rel _
    · have hlt := (Array.getElem?_eq_some_iff.1 (hI B o hB)).1
      show (if B = w.heap.size then _ else I B) = _
      rw [if_neg (Nat.ne_of_lt hlt)]
      exact hB
    · show (w.heap.push _)[B]? = _
      simp only at hB
      split at hB
      · rename_i e; subst e; cases hB; simp
      · have := hI B o hB
        rw [Array.getElem?_push, if_neg (Nat.ne_of_lt (Array.getElem?_eq_some_iff.1 this).1)]
        exact this
    · simp only at hB
      split at hB
      · rename_i e; exact .inr (by omega)
      · exact .inl hB
    · show _ ≤ (w.heap.push _).size; simp
    · show (w.heap.push _)[B]? = _
      rw [Array.getElem?_push, if_neg (Nat.ne_of_lt hB)]
end Mini
end Go.Proofs.YtjnghfhccjogeaaGreatDoor
namespace Go.Proofs.YtjnghfhccjogeaaGreatDoor
namespace Mini
open Go Go.Shelf Go.Proofs Go.RowKit
def strsOf : List D → Option (List (List Nat))
  | [] => some []
  | .str s :: cs => (strsOf cs).map (s :: ·)
  | _ :: _ => none
def joinN (sep : List Nat) : List (List Nat) → List Nat
  | [] => []
  | [x] => x
  | x :: y :: xs => x ++ sep ++ joinN sep (y :: xs)
def joinV : List V → Option V
  | [.c (.d (.sl cs n)), .c (.d (.str sep))] => match strsOf cs with
    | some ss => if ss.length = n ∧ 0 < n ∧ n ≤ 1073741824 ∧ (joinN sep ss).length ≤ 1073741824 then some (.c (.d (.str (joinN sep ss)))) else none
    | none => none
  | _ => none
theorem strsOf_rel {I : Imm} : ∀ {cs : List D} {ss : List (List Nat)} {vs : List Value}, strsOf cs = some ss → RelDs I cs vs → ∃ bs : List ByteArray, bs.length = ss.length ∧ bs.map bytesB = ss ∧ ∀ (j : Nat) x, bs[j]? = some x → vs[j]? = some (.string x)
  | [], ss, vs, h, _ => by
    simp only [strsOf, Option.some.injEq] at h
    subst h
    exact ⟨[], rfl, rfl, by simp⟩
  | c :: cs, ss, [], h, hr => by simp only [RelDs] at hr
  | c :: cs, ss, v :: vs, h, hr => by
    simp only [RelDs] at hr
    cases c <;> simp only [strsOf] at h <;> try (cases h; done)
    rename_i s
    simp only [Option.map_eq_some_iff] at h
    obtain ⟨ss', h1, rfl⟩ := h
    obtain ⟨bs, h2, h3, h4⟩ := strsOf_rel h1 hr.2
    obtain ⟨r1, _⟩ := hr
    simp only [RelD] at r1
    obtain ⟨b, rfl, rfl⟩ := r1
    refine ⟨b :: bs, by simp [h2], by simp [h3], fun j x hx => ?_⟩
    cases j with
    | zero => simp only [List.getElem?_cons_zero, Option.some.injEq] at hx ⊢; rw [hx]
    | succ j => simp only [List.getElem?_cons_succ] at hx ⊢; exact h4 j x hx
theorem join_joinN (sep : ByteArray) : ∀ bs : List ByteArray, (Lib.join (bs.map (·.data.toList)) sep.data.toList).map UInt8.toNat = joinN (bytesB sep) (bs.map bytesB)
  | [] => rfl
  | [b] => by rw [List.map_cons, List.map_nil, Lib.join_one]; rfl
  | b :: c :: bs => by
    have ih := join_joinN sep (c :: bs)
    simp only [List.map_cons, Lib.join_cons, joinN] at ih ⊢
    rw [← ih]
    simp [Lib.joinTail]
theorem joinV_ok {G : Nat → Option (List D)} {vs : List V} {r : V} (h : joinV vs = some r) : Enters Tryz.prog 125 ∧ ValCall Tryz.prog G 125 vs r := by
  refine ⟨⟨Tryz.f125, by kernel_rfl, by kernel_rfl, by kernel_rfl⟩, ?_⟩
  unfold joinV at h
  split at h <;> try (cases h; done)
  rename_i cs n sep
  split at h <;> try (cases h; done)
  rename_i ss hss
  split at h <;> try (cases h; done)
  rename_i hc
  obtain ⟨c1, c2, c3, c4⟩ := hc
  simp only [Option.some.injEq] at h
  subst h
  intro I w us _ hI hrel hlen
  match us, hlen, hrel with
  | [u1, u2], _, hrel =>
    simp only [RelVs, relV_d, RelD] at hrel
    obtain ⟨⟨a, cap, rfl, hle, hrow⟩, ⟨sb, rfl, rfl⟩, _⟩ := hrel
    rcases hrow with rfl | ⟨B, o, arr, T, fr, rfl, hB, hr⟩
    · simp only [strsOf, Option.some.injEq] at hss
      subst hss
      simp at c1
      omega
    · obtain ⟨bs, h1, h2, h3⟩ := strsOf_rel hss hr
      have hb := hI B _ hB
      have hn : bs.length = n := by omega
      have hjoin := join_joinN sb bs
      rw [h2] at hjoin
      have hcells : ∀ (j : Nat) x, bs[j]? = some x → w.cell? ⟨B, o + j, none⟩ = some (.string x) := by
        intro j x hx
        have := h3 j x hx
        rw [List.getElem?_drop, Array.getElem?_toList] at this
        simp only [World.cell?, hb, Option.isSome_none, Bool.false_eq_true, if_false]
        exact this
      have hcall := Any.strings_Join lays_n156 extraNm B o cap bs sb w hcells (Array.getElem?_eq_some_iff.1 hb).1 (by omega) (by omega) (by
        have := congrArg List.length hjoin
        rw [List.length_map] at this
        have c5 : (joinN (bytesB sb) ss).length ≤ 1073741824 := c4
        omega)
      rw [hn] at hcall
      refine hcall.mono fun e' w' hh => ?_
      obtain ⟨rfl, hbel⟩ := hh
      refine out_below hI hbel (strRel ?_)
      rw [mk_bytes]
      exact hjoin
def pow10D : List D := Lib.pow10Tab.map (D.int .u64)
theorem row_ints {I : Imm} {k : IntKind} : ∀ {zs : List Int} {vs : List Value}, RelDs I (zs.map (D.int k)) vs → vs.length = zs.length → vs = zs.map (Value.int k)
  | [], [], _, _ => rfl
  | [], _ :: _, _, h => by simp at h
  | _ :: _, [], _, h => by simp at h
  | z :: zs, v :: vs, h, hl => by
    simp only [List.map_cons, RelDs, RelD] at h
    obtain ⟨rfl, h⟩ := h
    rw [List.map_cons, row_ints h (by simpa using hl)]
theorem tab_at {G : Nat → Option (List D)} {I : Imm} {w : World} (hG : GlobOk G I) (h2 : G 7 = some pow10D) (hI : ∀ B o, I B = some o → w.heap[B]? = some o) : Lib.TabIs Tryz.prog w "internal/strconv.uint64pow10" .u64 Lib.pow10Tab := by
  obtain ⟨arr, T, fr, k1, k2, k3⟩ := hG.at h2
  have hb := hI _ _ k1
  have hm : Tryz.prog.globalNamed "internal/strconv.uint64pow10" = some 7 := laysM_n284.m17
  have he := row_ints (zs := Lib.pow10Tab) k3 (by rw [Array.length_toList, k2]; simp [pow10D])
  unfold Lib.TabIs World.var?
  rw [hm]
  simp only [Option.bind_some, hb]
  congr 1
  apply Array.ext'
  rw [he]
theorem nDigits_eq : ∀ (f n : Nat), n < 10 ^ (f + 1) → Lib.nDigits n = (decF f n).length
  | 0, n, h => by rw [Lib.nDigits_small (by simpa using h)]; rfl
  | f + 1, n, h => by
    simp only [decF]
    split
    · rename_i hn; rw [Lib.nDigits_small hn]; rfl
    · rename_i hn
      rw [Lib.nDigits_big hn, nDigits_eq f (n / 10) (by rw [Nat.pow_succ] at h; omega)]
      simp
def ndV : List V → Option V
  | [.c (.d (.int .u64 u))] => if 1 ≤ u ∧ u < 18446744073709551616 then some (I64 (Int.ofNat (decN u.toNat).length)) else none
  | _ => none
theorem ndV_ok {G : Nat → Option (List D)} (h2 : G 7 = some pow10D) {vs : List V} {r : V} (h : ndV vs = some r) : Enters Tryz.prog 210 ∧ ValCall Tryz.prog G 210 vs r := by
  refine ⟨⟨Tryz.f210, by kernel_rfl, by kernel_rfl, by kernel_rfl⟩, ?_⟩
  unfold ndV at h
  split at h <;> try (cases h; done)
  rename_i u
  split at h <;> try (cases h; done)
  rename_i hc
  simp only [Option.some.injEq] at h
  subst h
  intro I w us hG hI hrel hlen
  match us, hlen, hrel with
  | [u1], _, hrel =>
    simp only [RelVs, and_true] at hrel
    obtain rfl := relInt hrel
    obtain ⟨n, rfl⟩ := Int.eq_ofNat_of_zero_le (show 0 ≤ u by omega)
    have hcall := Any.internal_strconv_numDigits laysM_n284 n (by omega) (by omega) w (tab_at hG h2 hI)
    refine hcall.mono fun e w' hh => ?_
    obtain ⟨rfl, rfl⟩ := hh
    refine out_below hI (Below.refl _ _) ?_
    rw [nDigits_eq 20 n (by have : (10 : Nat) ^ (20 + 1) = 1000000000000000000000 := by decide
                            omega)]
    exact intRel
def itoaN (n : Int) : List Nat := if n < 0 then 45 :: decN n.natAbs else decN n.toNat
def itoaV : List V → Option V
  | [.c (.d (.int .i64 n))] => if -9223372036854775808 ≤ n ∧ n ≤ 9223372036854775807 then some (Str (itoaN n)) else none
  | _ => none
theorem itoaV_ok {G : Nat → Option (List D)} (h2 : G 7 = some pow10D) {vs : List V} {r : V} (h : itoaV vs = some r) : Enters Tryz.prog 129 ∧ ValCall Tryz.prog G 129 vs r := by
  refine ⟨⟨Tryz.f129, by kernel_rfl, by kernel_rfl, by kernel_rfl⟩, ?_⟩
  unfold itoaV at h
  split at h <;> try (cases h; done)
  rename_i n
  split at h <;> try (cases h; done)
  rename_i hc
  simp only [Option.some.injEq] at h
  subst h
  intro I w us hG hI hrel hlen
  match us, hlen, hrel with
  | [u1], _, hrel =>
    simp only [RelVs, and_true] at hrel
    obtain rfl := relInt hrel
    have hcall := Any.strconv_Itoa laysM_n171 n hc.1 hc.2 w (tab_at hG h2 hI)
    refine hcall.mono fun e w' hh => ?_
    obtain ⟨rfl, k, os, rfl⟩ := hh
    refine out_below hI (below_grow _ _ _) (strRel ?_)
    rw [mk_bytes]
    have hp : (10 : Nat) ^ (20 + 1) = 1000000000000000000000 := by decide
    unfold Lib.itoa itoaN decN
    split
    · rw [List.map_cons, decF_eq 20 _ (by omega)]; rfl
    · rw [decF_eq 20 _ (by omega)]
end Mini
end Go.Proofs.YtjnghfhccjogeaaGreatDoor
namespace Go.Proofs.YtjnghfhccjogeaaGreatDoor
namespace Mini
open Go Go.Shelf Go.Proofs Go.RowKit
variable {P : Program} {ρ : Ren}
set_option maxHeartbeats 2000000 in
set_option maxRecDepth 100000 in
theorem string_calls (L : Lays.n169 P ρ) (X : Builder.Extra P ρ) (b g cap : Nat) (l : List UInt8) (p : Value) (cur : Array Value) (T : TypeId) (fb fr : Nat × Nat) (w : World) (hbk : w.heap[b]? = some (.cells #[p, .slice (some ⟨g, 0, none⟩) l.length cap] T fb)) (h0 : l ≠ [])
    (hg : w.heap[g]? = some (.cells cur (ρ.t 5) fr)) (hnc : l.length ≤ cap) (hcs : cap ≤ cur.size) (hmax : l.length ≤ 9223372036854775807) (hcell : ∀ (j : Nat) x, l[j]? = some x → cur[j]? = some (.int .u8 x.toNat)) :
    Calls P (ρ.f 169) #[.pointer (some ⟨b, 0, none⟩)] w fun e w' => e = .returned (.string ⟨l.toArray⟩) ∧ w' = w.drew.freeze ⟨g, 0, none⟩ l.length := by
  have hl0 : l.length ≠ 0 := by simpa using h0
  have c1 : w.drew.cell? ⟨b, 1, none⟩ = some (.slice (some ⟨g, 0, none⟩) l.length cap) := by
    have : w.drew.heap[b]? = some (.cells #[p, .slice (some ⟨g, 0, none⟩) l.length cap] T fb) := hbk
    rw [Lib.cell_of_heap this]; rfl
  have hSD : (Builtin.unsafeSliceData_ #[(ρ.t 37)] (ρ.t 127) #[.slice (some ⟨g, 0, none⟩) l.length cap]).run P w.drew = .ok (.pointer (some ⟨g, 0, none⟩)) w.drew :=
    Lib.run_unsafeSliceData_row _ _ _ _ _ _ (by omega)
  have hUS : (Builtin.unsafeString_ #[(ρ.t 127), (ρ.t 3)] (ρ.t 9) #[.pointer (some ⟨g, 0, none⟩), .int .i64 l.length]).run P w.drew = .ok (.string ⟨l.toArray⟩) (w.drew.freeze ⟨g, 0, none⟩ l.length) := by
    refine Lib.run_unsafeString_row w.drew (ρ.t 127) (ρ.t 3) (ρ.t 9) (ρ.t 5) L.t127 X.cellsByte g cur.size (by have hg' : w.drew.heap[g]? = some (.cells cur (ρ.t 5) fr) := hg; simp [World.shape?, hg']) l h0 (by omega) hmax ?_
    intro j x hx
    have hg' : w.drew.heap[g]? = some (.cells cur (ρ.t 5) fr) := hg
    have e : (⟨g, 0, none⟩ : Addr).add j = ⟨g, j, none⟩ := by
      unfold Addr.add
      split
      · rename_i h; rw [h]
      · simp
    rw [e, Lib.cell_of_heap hg']
    exact hcell j x hx
  have mixed := L.mixed
  have t72 := L.t72; have a72 := L.a72; have z72 := L.z72; have v72 := L.v72; have u72 := run_underlying L.t72
  have t70 := L.t70; have a70 := L.a70; have z70 := L.z70; have v70 := L.v70; have u70 := run_underlying L.t70
  have t37 := L.t37; have a37 := L.a37; have z37 := L.z37; have v37 := L.v37; have u37 := run_underlying L.t37
  have t127 := L.t127; have a127 := L.a127; have z127 := L.z127; have v127 := L.v127; have u127 := run_underlying L.t127
  have t3 := L.t3; have a3 := L.a3; have z3 := L.z3; have v3 := L.v3; have u3 := run_underlying L.t3
  have t9 := L.t9; have a9 := L.a9; have z9 := L.z9; have v9 := L.v9; have u9 := run_underlying L.t9
  have t5 := X.t5; have a5 := X.a5; have z5 := X.z5; have v5 := X.v5; have u5 := run_underlying X.t5
  clear hcell hcs hnc hmax hg hbk
  go_enter L.f169, Body.n169_ntmps ρ
  go_wp2
  go_region_o
  all_goals (go_wp2; go_ret; exact ⟨rfl, rfl⟩)
set_option maxHeartbeats 2000000 in
set_option maxRecDepth 100000 in
theorem string_none (L : Lays.n169 P ρ) (X : Builder.Extra P ρ) (b : Nat) (p : Value) (T : TypeId) (fb : Nat × Nat) (w : World) (hbk : w.heap[b]? = some (.cells #[p, .slice none 0 0] T fb)) :
    Calls P (ρ.f 169) #[.pointer (some ⟨b, 0, none⟩)] w fun e w' => e = .returned (.string ⟨#[]⟩) ∧ w' = w.drew := by
  have hUS := Any.unsafeString_none L X
  have c1 : w.drew.cell? ⟨b, 1, none⟩ = some (.slice none 0 0) := by
    have : w.drew.heap[b]? = some (.cells #[p, .slice none 0 0] T fb) := hbk
    rw [Lib.cell_of_heap this]; rfl
  have hSD : (Builtin.unsafeSliceData_ #[(ρ.t 37)] (ρ.t 127) #[.slice none 0 0]).run P w.drew = .ok (.pointer none) w.drew := rfl
  have mixed := L.mixed
  have t72 := L.t72; have a72 := L.a72; have z72 := L.z72; have v72 := L.v72; have u72 := run_underlying L.t72
  have t70 := L.t70; have a70 := L.a70; have z70 := L.z70; have v70 := L.v70; have u70 := run_underlying L.t70
  have t37 := L.t37; have a37 := L.a37; have z37 := L.z37; have v37 := L.v37; have u37 := run_underlying L.t37
  have t127 := L.t127; have a127 := L.a127; have z127 := L.z127; have v127 := L.v127; have u127 := run_underlying L.t127
  have t3 := L.t3; have a3 := L.a3; have z3 := L.z3; have v3 := L.v3; have u3 := run_underlying L.t3
  have t9 := L.t9; have a9 := L.a9; have z9 := L.z9; have v9 := L.v9; have u9 := run_underlying L.t9
  have t5 := X.t5; have a5 := X.a5; have z5 := X.z5; have v5 := X.v5; have u5 := run_underlying X.t5
  clear hbk
  go_enter L.f169, Body.n169_ntmps ρ
  go_wp2
  go_region_o
  all_goals (go_wp2; go_ret; exact ⟨rfl, rfl⟩)
end Mini
end Go.Proofs.YtjnghfhccjogeaaGreatDoor
namespace Go.Proofs.YtjnghfhccjogeaaGreatDoor
namespace Mini
open Go Go.Shelf Go.Proofs Go.RowKit Go.Sort
section
variable {P : Program} {M : MM} {H : Heap} {w w' : World}
theorem row_write (hs : Sat P M H 0 w) {id B b0 bs g off : Nat} {cs new : List C} {us : List Value} (ho : ob? H id = some (.cells cs g false)) (hl : M.loc id = some (some (B, b0, bs)))
    (hr : RelCs M new us) (hn : new.length = us.length) (hoff : off ≤ cs.length) (hfit : b0 + off + us.length ≤ bs) (h1 : ∀ u ∈ us, u.oneCell' = true) {arr arr' : Array Value} {T : TypeId} {fr : Nat × Nat} (e1 : w.heap[B]? = some (.cells arr T fr))
    (r2 : w'.heap[B]? = some (.cells arr' T fr)) (r3 : arr'.toList = spl arr.toList (b0 + off) us) (r5 : ∀ b : Nat, b ≠ B → w'.heap[b]? = w.heap[b]?) (rs : w'.heap.size = w.heap.size) (r7 : w'.os = w.os) (r8 : w'.tape = w.tape) (r9 : w'.output = w.output) :
    ∃ M', Sat P M' (setOb H id (.cells (splice cs off new) g false)) 0 w' ∧ Fr M M' w w' := by
  obtain ⟨hg, arr0, T0, fr0, e1', e2, e3, e4, e5, e6⟩ := hs.open ho hl
  rw [e1] at e1'
  cases e1'
  have hsz : arr'.size = arr.size := by
    rw [← Array.length_toList, ← Array.length_toList, r3]
    exact spl_length (by simp only [Array.length_toList]; omega)
  obtain ⟨s1, s2⟩ := Sat.write (w' := w') (B1 := B) (b1 := b0) (bs1 := bs) (g1 := g) (cs' := splice cs off new) hs ho hl hg (.inl ⟨rfl, rfl, rfl, rfl⟩) r2 (.inl rfl) (fun b _ hb => r5 b hb) (by omega) r7 r8 r9 (by omega)
    (by rw [splice_len2 hoff]; omega) (by rw [r3, spl_drop (by simp only [Array.length_toList]; omega)]; exact RelCs.splice2 e4 hr hn hoff) e5 (by rw [r3]; exact spl_one e6 h1) (tyKeep e1 r2 (fun b hb => r5 b hb)) (fun hK => by
      obtain ⟨q1, q2⟩ := hs.bty id B b0 bs hl (by rw [hg]; exact hK)
      obtain ⟨a, f, hh⟩ := hs.ty _ _ q1
      rw [e1] at hh
      cases hh
      exact ⟨rfl, q2⟩)
  exact ⟨_, s1, s2⟩
theorem mapBlock_at {B : Nat} {f : Array Value → Array Value} {arr : Array Value} {T : TypeId} {fr : Nat × Nat} (h : w.heap[B]? = some (.cells arr T fr)) : (mapBlock w B f).heap[B]? = some (.cells (f arr) T fr) := by
  simp [mapBlock, Array.getElem?_modify, h, onCells]
theorem mapBlock_ne {B k : Nat} {f : Array Value → Array Value} (h : k ≠ B) : (mapBlock w B f).heap[k]? = w.heap[k]? := by
  simp [mapBlock, Array.getElem?_modify, Ne.symm h]
theorem mapBlock_size {B : Nat} {f : Array Value → Array Value} : (mapBlock w B f).heap.size = w.heap.size := by simp [mapBlock]
theorem Sat.drop {id B b c : Nat} (hs : Sat P M H 0 w) (hl : M.loc id = some (some (B, b, c))) (hi : M.imm B = none) {q : Ob} (ho : ob? H id = some q) (hk : ∀ k : Nat, k ≠ B → w'.heap[k]? = w.heap[k]?) (hsz : w'.heap.size = w.heap.size)
    (hty : ∀ a t f, w.heap[B]? = some (.cells a t f) → ∃ a' f', w'.heap[B]? = some (.cells a' t f')) (h1 : w'.os = w.os) (h2 : w'.tape = w.tape) (h3 : w'.output = w.output) :
    ∃ M', Sat P M' (setOb H id .dead) 0 w' ∧ Fr M M' w w' := by
  have hidn := hs.id_lt hl
  refine ⟨{ M with loc := fun j => if j = id then none else M.loc j, gen := fun j => if j = id then M.gen id + 1 else M.gen j }, ?_⟩
  have hext : Ext M { M with loc := fun j => if j = id then none else M.loc j, gen := fun j => if j = id then M.gen id + 1 else M.gen j } := ⟨fun _ _ h => h, Nat.le_refl _, fun j _ => by
    simp only
    split
    · rename_i e; subst e; omega
    · exact Nat.le_refl _, fun j l _ hgj hlj => by
    simp only at hgj ⊢
    split at hgj
    · rename_i e; subst e; omega
    · rename_i e; rw [if_neg e]; exact hlj, fun _ _ h => h⟩
  refine ⟨⟨by rw [setOb_length]; exact hs.n, ?_, ?_, ?_, ?_, ?_, ?_, ?_⟩, ⟨hext, h1, h2, h3, by omega, fun k _ hno => hk k (fun e => hno ⟨id, b, c, by rw [e]; exact hl⟩), ?_, fun B o ho => .inl ho⟩⟩
  · intro j hj
    have hj' : M.n ≤ j := hj
    simp only
    rw [if_neg (by omega), if_neg (by omega)]
    exact hs.out j hj'
  · intro k o hB'
    rw [hk k (fun e => by subst e; simp only at hB'; rw [hi] at hB'; cases hB')]
    exact hs.imm k o hB'
  · intro j l hj
    simp only at hj
    split at hj
    · cases hj
    · rename_i hne
      obtain ⟨o', ho', hos⟩ := hs.obj j l hj
      refine ⟨o', by rw [ob?_setOb_ne hne]; exact ho', ?_⟩
      cases l with
      | none =>
        cases o' <;> simp only [ObSat] at hos ⊢ <;> try (exact hos.elim)
        rw [if_neg hne]
        exact hos
      | some l =>
        obtain ⟨B', b', c'⟩ := l
        have hBB : B' ≠ B := fun e => hne (hs.inj j id B b' c' b c (by rw [← e]; exact hj) hl)
        exact obSat_move hext (by simp only; rw [if_neg hne]) (hk B' hBB) (fun h => h) hos
  · intro j q' hq hlj
    by_cases e : j = id
    · subst e
      rw [ob?_setOb_same ho] at hq
      cases hq
      exact .inl rfl
    · rw [ob?_setOb_ne e] at hq
      simp only at hlj ⊢
      rw [if_neg e] at hlj ⊢
      exact hs.idle j q' hq hlj
  · intro j j' B' b1 c1 b2 c2 e1 e2
    simp only at e1 e2
    split at e1 <;> try (cases e1; done)
    split at e2 <;> try (cases e2; done)
    exact hs.inj j j' B' b1 c1 b2 c2 e1 e2
  · intro B' t hb
    obtain ⟨a, f, hh⟩ := hs.ty B' t hb
    by_cases e : B' = B
    · subst e; exact hty a t f hh
    · exact ⟨a, f, by rw [hk B' e]; exact hh⟩
  · intro j B' b' c' hj hg
    simp only at hj hg
    split at hj
    · cases hj
    · rename_i e
      rw [if_neg e] at hg
      exact hs.bty j B' b' c' hj hg
  · rintro B' ⟨j, b', c', hj⟩
    simp only at hj
    split at hj
    · cases hj
    · exact .inl ⟨j, b', c', hj⟩
end
def ccV : List V → Heap → Option (V × Heap)
  | [.c (.ptr id 0 0)], H => match ob? H id with
    | some (.cells (.bt id' t :: _) 0 false) => if id' = id ∧ t = 103 then some (.tup [], H) else none
    | _ => none
  | _, _ => none
theorem tupRel {M : MM} : RelV M (.tup []) (.tuple #[]) := by
  rw [relV_tup]; exact ⟨_, rfl, rfl, RelVs.nil _ _⟩
theorem ccV_ok {G : Nat → Option (List D)} {args : List V} {H H' : Heap} {v : V} (h : ccV args H = some (v, H')) : Enters Tryz.prog 122 ∧ HeapPrim Tryz.prog G 122 args H v H' := by
  refine ⟨⟨Tryz.f122, by kernel_rfl, by kernel_rfl, by kernel_rfl⟩, ?_⟩
  unfold ccV at h
  split at h <;> try (cases h; done)
  rename_i id
  split at h <;> try (cases h; done)
  rename_i id' t rest ho
  split at h <;> try (cases h; done)
  rename_i hc
  obtain ⟨hid, rfl⟩ := hc
  subst hid
  simp only [Option.some.injEq, Prod.mk.injEq] at h
  obtain ⟨rfl, rfl⟩ := h
  intro M w us hG hrel hlen hs
  match us, hlen, hrel with
  | [u1], _, hrel =>
    simp only [RelVs, and_true] at hrel
    rw [relV_c] at hrel
    obtain ⟨B, b0, bs, fz', hl, rfl, _⟩ := live_ptr hs (Sub.refl H) ho hrel
    obtain ⟨hg, arr, T, fr, e1, e2, e3, e4, e5, e6⟩ := hs.open ho hl
    obtain ⟨v0, hv0, hr0⟩ := RelCs.iff.1 e4 0 _ rfl
    have hr0' := hr0
    simp only [RelC] at hr0'
    obtain ⟨_, _, hB⟩ := hr0'
    obtain ⟨B', hl', hty, hv⟩ := hB hg
    rw [hl] at hl'
    simp only [Option.some.injEq, Prod.mk.injEq] at hl'
    obtain ⟨rfl, rfl, rfl⟩ := hl'
    obtain ⟨a, f, hh⟩ := hs.ty _ _ hty
    rw [e1] at hh
    cases hh
    rw [List.drop_zero, Array.getElem?_toList] at hv0
    have hcell : w.cell? ⟨B, 0, none⟩ = some v0 := by rw [Lib.cell_of_heap e1]; exact hv0
    rcases hv with rfl | rfl
    · have hcall := Any.Builder_copyCheck_fresh lays_n240 extraNm.toX72 B w hcell (by simp only [World.shape?, e1]; rw [e2]; rfl) (by
        have := e5 0 (by omega)
        simp only [World.frozen?, e1]
        simp only [Bool.and_eq_false_iff, decide_eq_false_iff_not]
        omega)
      refine hcall.mono fun e w' hh => ?_
      obtain ⟨rfl, rfl⟩ := hh
      rw [setCell_eq]
      have hnew : RelCs M [.bt id' 103] [.pointer (some ⟨B, 0, none⟩)] := by
        simp only [RelCs, RelC, and_true]
        exact ⟨hs.id_lt hl, .inr ⟨B, rfl⟩, fun _ => ⟨B, hl, hty, .inr rfl⟩⟩
      have hlen : 0 < arr.size := by omega
      obtain ⟨M', s1, s2⟩ := row_write (w' := mapBlock w B (·.setIfInBounds 0 (.pointer (some ⟨B, 0, none⟩)))) (off := 0) hs ho hl hnew rfl (Nat.zero_le _) (by simp only [List.length_cons, List.length_nil]; omega) (by simp [Value.oneCell']) e1 (mapBlock_at e1) (by
          rw [Array.toList_setIfInBounds]
          unfold spl
          match hal : arr.toList with
          | [] => rw [← Array.length_toList, hal] at hlen; simp at hlen
          | x :: xs => simp) (fun b hb => mapBlock_ne hb) mapBlock_size rfl rfl rfl
      have hsp : splice (C.bt id' 103 :: rest) 0 [.bt id' 103] = C.bt id' 103 :: rest := by simp [splice]
      rw [hsp, setOb_self ho] at s1
      exact ⟨_, M', rfl, tupRel, s1, s2⟩
    · have hcall := Any.Builder_copyCheck_used lays_n240 extraNm.toX72 B w hcell
      refine hcall.mono fun e w' hh => ?_
      obtain ⟨rfl, rfl⟩ := hh
      exact ⟨_, M, rfl, tupRel, hs, Fr.refl M w'⟩
def byteX : C → Option Nat
  | .d (.int .u8 n) => if 0 ≤ n ∧ n < 256 then some n.toNat else none
  | _ => none
def bsV : List V → Heap → Option (V × Heap)
  | [.c (.ptr id 0 0)], H => match ob? H id with
    | some (.cells [.bt id' _, c1] 0 false) => if id' = id then match c1 with
        | .d .nils => some (Str [], H)
        | .os id2 g2 0 len 1 none => if genK ≤ g2 ∧ 0 < len ∧ len ≤ 1073741824 then match ob? H id2 with
          | some (.cells cs g3 false) => if g3 = g2 ∧ len ≤ cs.length then match mapO byteX (cs.take len) with
              | some s => some (Str s, setOb H id2 .dead)
              | none => none
            else none
          | _ => none
        else none
        | _ => none
      else none
    | _ => none
  | _, _ => none
theorem bytesX_cells {M : MM} : ∀ {cs : List C} {s : List Nat} {vs : List Value}, mapO byteX cs = some s → RelCs M cs vs → ∃ l : List UInt8, List.map UInt8.toNat l = s ∧ l.length = cs.length ∧ ∀ (j : Nat) x, l[j]? = some x → vs[j]? = some (.int .u8 x.toNat)
  | [], s, vs, h, _ => by
    simp only [mapO, Option.some.injEq] at h
    subst h
    exact ⟨[], rfl, rfl, by simp⟩
  | c :: cs, s, [], h, hr => by simp only [RelCs] at hr
  | c :: cs, s, v :: vs, h, hr => by
    simp only [mapO] at h
    split at h <;> try (cases h; done)
    rename_i y hy
    split at h <;> try (cases h; done)
    rename_i ys hys
    simp only [Option.some.injEq] at h
    subst h
    simp only [RelCs] at hr
    obtain ⟨l, h1, h2, h3⟩ := bytesX_cells (s := ys) hys hr.2
    unfold byteX at hy
    split at hy <;> try (cases hy; done)
    rename_i n
    split at hy <;> try (cases hy; done)
    rename_i hn
    simp only [Option.some.injEq] at hy
    subst hy
    have hv := hr.1
    simp only [RelC, RelD] at hv
    subst hv
    have e : (UInt8.ofNat n.toNat).toNat = n.toNat := by rw [UInt8.toNat_ofNat', Nat.mod_eq_of_lt (by omega)]
    refine ⟨UInt8.ofNat n.toNat :: l, by rw [List.map_cons, h1, e], by simp [h2], fun j x hx => ?_⟩
    cases j with
    | zero =>
      simp only [List.getElem?_cons_zero, Option.some.injEq] at hx ⊢
      subst hx
      rw [e]
      congr 1
      omega
    | succ j => simp only [List.getElem?_cons_succ] at hx ⊢; exact h3 j x hx
theorem freeze_ne {w : World} {g n k : Nat} (h : k ≠ g) : (w.freeze ⟨g, 0, none⟩ n).heap[k]? = w.heap[k]? := by
  unfold World.freeze
  split
  · rfl
  · simp [Array.getElem?_modify, Ne.symm h]
theorem freeze_at {w : World} {g n : Nat} {a : Array Value} {t : TypeId} {f : Nat × Nat} (h : w.heap[g]? = some (.cells a t f)) : ∃ f', (w.freeze ⟨g, 0, none⟩ n).heap[g]? = some (.cells a t f') := by
  unfold World.freeze
  split
  · exact ⟨f, h⟩
  · obtain ⟨lo, hi⟩ := f
    exact ⟨if lo == hi then (0, 0 + n) else (min lo 0, max hi (0 + n)), by simp [Array.getElem?_modify, h]⟩
theorem freeze_size {w : World} {g n : Nat} : (w.freeze ⟨g, 0, none⟩ n).heap.size = w.heap.size := by
  unfold World.freeze
  split <;> simp
theorem bsV_ok {G : Nat → Option (List D)} {args : List V} {H H' : Heap} {v : V} (h : bsV args H = some (v, H')) : Enters Tryz.prog 58 ∧ HeapPrim Tryz.prog G 58 args H v H' := by
  refine ⟨⟨Tryz.f58, by kernel_rfl, by kernel_rfl, by kernel_rfl⟩, ?_⟩
  unfold bsV at h
  split at h <;> try (cases h; done)
  rename_i id
  split at h <;> try (cases h; done)
  rename_i id' t c1 ho
  split at h <;> try (cases h; done)
  rename_i hid
  subst hid
  -- the builder's block
  have blk : ∀ (M : MM) (w : World) (u1 : Value), Sat Tryz.prog M H 0 w → RelC M (.ptr id' 0 0) u1 →
      ∃ B p v1 T fb, u1 = .pointer (some ⟨B, 0, none⟩) ∧ w.heap[B]? = some (.cells #[p, v1] T fb) ∧ RelC M c1 v1 := by
    intro M w u1 hs hrel
    obtain ⟨B, b0, bs, fz', hl, rfl, _⟩ := live_ptr hs (Sub.refl H) ho hrel
    obtain ⟨hg, arr, T, fr, e1, e2, e3, e4, e5, e6⟩ := hs.open ho hl
    obtain ⟨v0, hv0, hr0⟩ := RelCs.iff.1 e4 0 _ rfl
    obtain ⟨v1, hv1, hr1⟩ := RelCs.iff.1 e4 1 _ rfl
    have hr0' := hr0
    simp only [RelC] at hr0'
    obtain ⟨_, _, hB⟩ := hr0'
    obtain ⟨B', hl', _, _⟩ := hB hg
    rw [hl] at hl'
    simp only [Option.some.injEq, Prod.mk.injEq] at hl'
    obtain ⟨rfl, rfl, rfl⟩ := hl'
    have harr : arr = #[v0, v1] := by
      rw [List.drop_zero] at hv0 hv1
      have h2 : arr.toList.length = 2 := by rw [Array.length_toList]; exact e2
      apply Array.ext'
      match hal : arr.toList, h2 with
      | [x, y], _ =>
        rw [hal] at hv0 hv1
        simp only [List.getElem?_cons_zero, List.getElem?_cons_succ, Option.some.injEq] at hv0 hv1
        rw [hv0, hv1]
    rw [harr] at e1
    exact ⟨B, v0, v1, T, fr, rfl, e1, hr1⟩
  split at h <;> try (cases h; done)
  · simp only [Option.some.injEq, Prod.mk.injEq] at h
    obtain ⟨rfl, rfl⟩ := h
    intro M w us hG hrel hlen hs
    match us, hlen, hrel with
    | [u1], _, hrel =>
      simp only [RelVs, and_true] at hrel
      rw [relV_c] at hrel
      obtain ⟨B, p, v1, T, fb, rfl, e1, hr1⟩ := blk M w u1 hs hrel
      simp only [RelC, RelD] at hr1
      subst hr1
      have hcall := string_none lays_n169 extraNm B p T fb w e1
      refine hcall.mono fun e w' hh => ?_
      obtain ⟨rfl, rfl⟩ := hh
      exact ⟨_, M, rfl, strRel rfl, hs.drew, Fr.drew M w⟩
  · rename_i id2 g2 len
    split at h <;> try (cases h; done)
    rename_i hc
    obtain ⟨k1, k2, k3⟩ := hc
    split at h <;> try (cases h; done)
    rename_i cs g3 ho2
    split at h <;> try (cases h; done)
    rename_i hc2
    obtain ⟨rfl, k4⟩ := hc2
    split at h <;> try (cases h; done)
    rename_i s hs'
    simp only [Option.some.injEq, Prod.mk.injEq] at h
    obtain ⟨rfl, rfl⟩ := h
    intro M w us hG hrel hlen hs
    match us, hlen, hrel with
    | [u1], _, hrel =>
      simp only [RelVs, and_true] at hrel
      rw [relV_c] at hrel
      obtain ⟨B, p, v1, T, fb, rfl, e1, hr1⟩ := blk M w u1 hs hrel
      obtain ⟨ad, cp, rfl, hlc, _, hcase⟩ := live_os hs (Sub.refl H) ho2 hr1
      rcases hcase with ⟨_, _, rfl, _⟩ | ⟨Bf, b0, bs, fz', hl, ha, hbs, _⟩
      · omega
      · rcases ha with ha | rfl
        · omega
        · obtain ⟨hg, arr, Tf, fr, f1, f2, f3, f4, f5, f6⟩ := hs.open ho2 hl
          obtain ⟨hty, rfl⟩ := hs.bty id2 Bf b0 bs hl (by rw [hg]; exact k1)
          obtain ⟨a, f, hh⟩ := hs.ty _ _ hty
          rw [f1] at hh
          cases hh
          obtain ⟨l, q1, q2, q3⟩ := bytesX_cells hs' (f4.take len)
          have hll : l.length = len := by rw [q2, List.length_take]; omega
          rw [← hll] at e1 k2 k3 hlc
          have hcells : ∀ (j : Nat) x, l[j]? = some x → arr[j]? = some (.int .u8 x.toNat) := by
            intro j x hx
            have := q3 j x hx
            rw [List.drop_zero, Array.getElem?_toList] at this
            exact this
          have hcall := string_calls lays_n169 extraNm B Bf cp l p arr T fb fr w e1 (by intro e; rw [e] at k2; simp at k2) f1 hlc (by omega) (by omega) hcells
          have himm : M.imm Bf = none := by
            obtain ⟨o, ho3, hos⟩ := hs.obj _ _ hl
            rw [ho2] at ho3
            cases ho3
            simp only [ObSat] at hos
            obtain ⟨_, _, _, _, _, _, _, _, h6⟩ := hos
            rcases h6 with h6 | ⟨h6, _⟩
            · exact h6.2.1
            · cases h6
          obtain ⟨M', s1, s2⟩ := Sat.drop (w' := w.drew.freeze ⟨Bf, 0, none⟩ l.length) hs hl himm ho2 (fun k hk => freeze_ne (w := w.drew) hk) (freeze_size (w := w.drew)) (fun a t f hh => by
            obtain ⟨f', hf'⟩ := freeze_at (w := w.drew) (n := l.length) hh
            exact ⟨a, f', hf'⟩) (by unfold World.freeze; split <;> rfl) (by unfold World.freeze; split <;> rfl) (by unfold World.freeze; split <;> rfl)
          refine hcall.mono fun e w' hh => ?_
          obtain ⟨rfl, rfl⟩ := hh
          exact ⟨_, M', rfl, strRel (by rw [mk_bytes]; exact q1), s1, s2⟩
def fbV : List V → Heap → Option (V × Heap)
  | [.c (.os id g off len 1 _), .c (.d (.int .u64 u))], H => match ob? H id with
    | some (.cells cs g' false) => if g' = g ∧ off + len ≤ cs.length ∧ 0 ≤ u ∧ u < 18446744073709551616 ∧ (decN u.toNat).length = len ∧ 0 < len ∧ len < 1000 ∧ (mapO byteX ((cs.drop off).take len)).isSome then
        some (.tup [], setOb H id (.cells (splice cs off (ofBytes (decN u.toNat))) g false)) else none
    | _ => none
  | _, _ => none
theorem putCells_spl (enc : UInt8 → Value) (off : Nat) (d : Array UInt8) (c : Array Value) (h : off + d.size ≤ c.size) : (putCells enc off d c).toList = spl c.toList off (d.toList.map enc) := by
  apply List.ext_getElem?
  intro k
  unfold putCells spl
  rw [Array.toList_mapIdx, List.getElem?_mapIdx]
  have hc : c.toList.length = c.size := Array.length_toList
  have hd : (d.toList.map enc).length = d.size := by simp
  rcases Nat.lt_or_ge k off with h1 | h1
  · rw [List.append_assoc, List.getElem?_append_left (by rw [List.length_take]; omega), List.getElem?_take, if_pos h1]
    cases c.toList[k]? with
    | none => rfl
    | some x => simp only [Option.map_some]; rw [if_neg (by omega)]
  · rcases Nat.lt_or_ge k (off + d.size) with h2 | h2
    · rw [List.append_assoc, List.getElem?_append_right (by rw [List.length_take]; omega), List.length_take, Nat.min_eq_left (by omega), List.getElem?_append_left (by omega)]
      have hk : k < c.toList.length := by omega
      rw [List.getElem?_eq_getElem hk]
      simp only [Option.map_some]
      rw [if_pos ⟨h1, h2⟩, List.getElem?_map, Array.getElem?_toList, Array.getElem?_eq_getElem (by omega)]
      simp only [Option.map_some]
      rw [getElem!_pos d (k - off) (by omega)]
    · rw [List.getElem?_append_right (by simp only [List.length_append, List.length_take]; omega), List.getElem?_drop]
      simp only [List.length_append, List.length_take, hd]
      rw [show off + d.size + (k - (min off c.toList.length + d.size)) = k by omega]
      cases c.toList[k]? with
      | none => rfl
      | some x => simp only [Option.map_some]; rw [if_neg (by omega)]
theorem decN_bound : ∀ (f n : Nat), n < 10 ^ (f + 1) → n < 10 ^ (decF f n).length
  | 0, n, h => by simpa [decF] using h
  | f + 1, n, h => by
    simp only [decF]
    split
    · rename_i hn; simpa using hn
    · have := decN_bound f (n / 10) (by rw [Nat.pow_succ] at h; omega)
      rw [List.length_append, List.length_cons, List.length_nil, Nat.zero_add, Nat.pow_succ]
      omega
theorem fbV_ok {G : Nat → Option (List D)} {args : List V} {H H' : Heap} {v : V} (h : fbV args H = some (v, H')) : Enters Tryz.prog 211 ∧ HeapPrim Tryz.prog G 211 args H v H' := by
  refine ⟨⟨Tryz.f211, by kernel_rfl, by kernel_rfl, by kernel_rfl⟩, ?_⟩
  unfold fbV at h
  split at h <;> try (cases h; done)
  rename_i id g off len cap u
  split at h <;> try (cases h; done)
  rename_i cs g' ho
  split at h <;> try (cases h; done)
  rename_i hc
  obtain ⟨rfl, k1, k2, k3, k4, k5, k6, k7⟩ := hc
  simp only [Option.some.injEq, Prod.mk.injEq] at h
  obtain ⟨rfl, rfl⟩ := h
  obtain ⟨n, rfl⟩ := Int.eq_ofNat_of_zero_le k2
  have hun : ((n : Nat) : Int).toNat = n := rfl
  rw [hun] at k4 ⊢
  have hn : n < 18446744073709551616 := by omega
  obtain ⟨s0, hs0⟩ := Option.isSome_iff_exists.1 k7
  intro M w us hG hrel hlen hs
  match us, hlen, hrel with
  | [u1, u2], _, hrel =>
    simp only [RelVs, and_true] at hrel
    obtain ⟨r1, r2⟩ := hrel
    obtain rfl := relInt r2
    rw [relV_c] at r1
    obtain ⟨ad, cp, rfl, hlc, _, hcase⟩ := live_os hs (Sub.refl H) ho r1
    rcases hcase with ⟨_, _, rfl, _⟩ | ⟨B, b0, bs, fz', hl, ha, hbs, _⟩
    · omega
    · rcases ha with ha | rfl
      · omega
      · obtain ⟨hg, arr, T, fr, f1, f2, f3, f4, f5, f6⟩ := hs.open ho hl
        have hrow := (f4.drop off).take' len
        rw [List.drop_drop] at hrow
        obtain ⟨l, q1, q2, q3⟩ := bytesX_cells hs0 hrow
        have hll : l.length = len := by rw [q2, List.length_take, List.length_drop]; omega
        have hH : Go.Sort.Holds (fun (b : UInt8) => Value.int .u8 (b.toNat : Int)) w B (b0 + off) l.toArray := by
          intro j hj
          have hj' : j < l.length := by simpa using hj
          have hx := q3 j l[j] (List.getElem?_eq_getElem hj')
          rw [List.getElem?_take, if_pos (by omega), List.getElem?_drop, Array.getElem?_toList] at hx
          refine ⟨?_, ?_⟩
          · rw [Lib.cell_of_heap f1, hx, getElem!_pos l.toArray j (by simpa using hj')]
            simp
          · have := f5 (b0 + off + j) (by omega)
            simp only [World.frozen?, f1]
            simp only [Bool.and_eq_false_iff, decide_eq_false_iff_not]
            omega
        have hp : (10 : Nat) ^ (20 + 1) = 1000000000000000000000 := by decide
        have hb := decN_bound 20 n (by omega)
        have hcall := Any.internal_strconv_formatBase10 lays_n285 B (b0 + off) cp n l.toArray w hH (by
          have : l.toArray.size = (decF 20 n).length := by
            have e : (decN n).length = (decF 20 n).length := rfl
            simp only [List.size_toArray]
            omega
          rw [this]; exact hb) hn (by simp only [List.size_toArray]; omega)
        have hsz : l.toArray.size = len := by simp [hll]
        rw [hsz] at hcall
        refine hcall.mono fun e w' hh => ?_
        obtain ⟨rfl, q, v', dk, rfl, hI⟩ := hh
        have hdk : dk.toList = Lib.decDigits n := by
          have hnd : Lib.nDigits n = len := by rw [nDigits_eq 20 n (by omega)]; exact k4
          have hds : dk.size = len := hI.size
          rw [Lib.decDigits_eq, hnd]
          apply List.ext_getElem?
          intro t
          rw [List.getElem?_map, Array.getElem?_toList]
          rcases Nat.lt_or_ge t len with ht | ht
          · rw [List.getElem?_range ht, Array.getElem?_eq_getElem (by omega)]
            simp only [Option.map_some]
            have := hI.done t (Nat.zero_le _) ht
            rw [getElem!_pos dk t (by omega)] at this
            rw [this]
          · rw [Array.getElem?_eq_none (by omega), List.getElem?_eq_none (by simpa using ht)]
            rfl
        have hds : dk.size = len := hI.size
        have hnew : RelCs M (ofBytes (decN n)) (dk.toList.map fun (b : UInt8) => Value.int .u8 (b.toNat : Int)) := by
          have e1 : decN n = List.map UInt8.toNat dk.toList := by rw [hdk, decF_eq 20 n (by omega)]; rfl
          rw [e1]
          have key : ∀ bs : List UInt8, RelCs M (ofBytes (List.map UInt8.toNat bs)) (bs.map fun (b : UInt8) => Value.int .u8 (b.toNat : Int)) := by
            intro bs
            induction bs with
            | nil => exact RelCs.nil _ _
            | cons b bs ih =>
              simp only [ofBytes, List.map_cons, RelCs, RelC, RelD]
              exact ⟨rfl, ih⟩
          exact key _
        have hlenN : (ofBytes (decN n)).length = (dk.toList.map fun (b : UInt8) => Value.int .u8 (b.toNat : Int)).length := by
          simp only [ofBytes, List.length_map, Array.length_toList]; omega
        obtain ⟨M', s1, s2⟩ := row_write (w' := (putRow (fun (b : UInt8) => Value.int .u8 (b.toNat : Int)) w B (b0 + off) dk).drewN q) (off := off) hs ho hl hnew hlenN (by omega) (by simp only [List.length_map, Array.length_toList]; omega) (by
            intro x hx
            simp only [List.mem_map] at hx
            obtain ⟨b, _, rfl⟩ := hx
            rfl) f1 (mapBlock_at (w := w) f1) (putCells_spl _ _ _ _ (by omega)) (fun b hb => mapBlock_ne (w := w) hb) (mapBlock_size (w := w)) rfl rfl rfl
        exact ⟨_, M', rfl, tupRel, s1, s2⟩
end Mini
end Go.Proofs.YtjnghfhccjogeaaGreatDoor
