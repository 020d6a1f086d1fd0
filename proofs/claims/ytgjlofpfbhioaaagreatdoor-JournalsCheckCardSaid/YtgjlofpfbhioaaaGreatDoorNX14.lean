/-
  JournalsCheck: texts of the proof, part 15.
-/
import Derived.Test.YtgjlofpfbhioaaaGreatDoorNX13
import Derived.Shelf.Strings.Split
import Derived.Shelf.Strings.Cut
import Derived.Shelf.Strings.LastIndex
import Derived.Shelf.Small.Strs
import Derived.Shelf.Strconv.Itoa3
import Derived.Shelf.Strings.SlTrimAscii
import Derived.Shelf.Strings.OnBuilder
import Derived.Shelf.Pu.ParseUintPublic10
import Derived.Test.YtgjlofpfbhioaaaGreatDoorProg
namespace Go.Proofs.YtgjlofpfbhioaaaGreatDoor
namespace Mini
open Go Go.Shelf Go.Proofs
def renNm : Ren where
  f x := match x with
    | 119 => 192
    | 120 => 191
    | 129 => 134
    | 137 => 121
    | 138 => 146
    | 143 => 147
    | 145 => 65
    | 146 => 92
    | 149 => 100
    | 151 => 186
    | 152 => 190
    | 156 => 90
    | 160 => 151
    | 165 => 112
    | 166 => 59
    | 169 => 64
    | 171 => 73
    | 195 => 166
    | 197 => 149
    | 217 => 141
    | 218 => 167
    | 219 => 113
    | 220 => 91
    | 221 => 114
    | 222 => 123
    | 224 => 143
    | 225 => 142
    | 227 => 171
    | 228 => 185
    | 231 => 169
    | 232 => 170
    | 233 => 172
    | 234 => 173
    | 235 => 174
    | 236 => 175
    | 240 => 88
    | 241 => 140
    | 243 => 102
    | 246 => 124
    | 260 => 168
    | 266 => 164
    | 267 => 144
    | 268 => 145
    | 271 => 187
    | 276 => 110
    | 277 => 163
    | 283 => 136
    | 284 => 137
    | 285 => 138
    | 286 => 139
    | 314 => 165
    | 317 => 159
    | 318 => 160
    | 319 => 161
    | 320 => 162
    | 337 => 183
    | 338 => 184
    | n => n
  t x := match x with
    | 0 => 0
    | 2 => 2
    | 3 => 3
    | 4 => 4
    | 5 => 5
    | 9 => 9
    | 20 => 20
    | 21 => 21
    | 31 => 50
    | 37 => 62
    | 46 => 164
    | 51 => 57
    | 53 => 140
    | 59 => 119
    | 70 => 106
    | 72 => 108
    | 75 => 110
    | 76 => 111
    | 80 => 118
    | 105 => 196
    | 116 => 217
    | 117 => 218
    | 119 => 230
    | 124 => 221
    | 127 => 144
    | 138 => 232
    | 139 => 233
    | 146 => 212
    | 164 => 168
    | 171 => 190
    | 173 => 192
    | 212 => 208
    | 213 => 209
    | 232 => 240
    | 233 => 241
    | n => n
  g x := match x with
    | 1 => 1
    | 3 => 3
    | 4 => 4
    | 17 => 2
    | 18 => 7
    | 19 => 8
    | n => n
def renMp : Ren where
  f x := match x with
    | 14 => 119
    | 16 => 152
    | 17 => 153
    | 19 => 176
    | 20 => 177
    | 21 => 178
    | 22 => 179
    | 23 => 180
    | 24 => 181
    | 25 => 188
    | 26 => 189
    | 27 => 73
    | 28 => 102
    | 29 => 124
    | 30 => 136
    | 31 => 137
    | 32 => 138
    | 33 => 139
    | 34 => 159
    | 35 => 134
    | 36 => 160
    | 37 => 161
    | 38 => 162
    | 39 => 183
    | 40 => 184
    | n => n
  t x := match x with
    | 0 => 0
    | 2 => 2
    | 3 => 3
    | 4 => 4
    | 5 => 5
    | 9 => 9
    | 20 => 20
    | 21 => 21
    | 22 => 140
    | 24 => 110
    | 25 => 174
    | 34 => 222
    | 36 => 164
    | 37 => 62
    | 39 => 224
    | 44 => 238
    | 47 => 144
    | 48 => 243
    | 50 => 245
    | 52 => 190
    | 55 => 192
    | 59 => 208
    | 60 => 57
    | 61 => 209
    | 65 => 240
    | 66 => 241
    | 67 => 118
    | n => n
  g x := match x with
    | 0 => 5
    | 1 => 6
    | 2 => 2
    | 3 => 7
    | 4 => 8
    | n => n
theorem lays_n146 : Lays.n146 Tryz.prog renNm where
  mixed := by kernel_rfl
  f138 := by kernel_rfl
  f143 := by kernel_rfl
  f146 := by kernel_rfl
  f195 := by kernel_rfl
  f197 := by kernel_rfl
  f217 := by kernel_rfl
  f218 := by kernel_rfl
  f219 := by kernel_rfl
  f221 := by kernel_rfl
  f224 := by kernel_rfl
  f225 := by kernel_rfl
  f260 := by kernel_rfl
  f266 := by kernel_rfl
  f267 := by kernel_rfl
  f268 := by kernel_rfl
  f314 := by kernel_rfl
  t0 := by kernel_rfl
  a0 := fun _ => by kernel_rfl
  z0 := fun _ => by kernel_rfl
  v0 := fun _ => by kernel_rfl
  t3 := by kernel_rfl
  a3 := fun _ => by kernel_rfl
  z3 := fun _ => by kernel_rfl
  v3 := fun _ => by kernel_rfl
  t4 := by kernel_rfl
  a4 := fun _ => by kernel_rfl
  z4 := fun _ => by kernel_rfl
  v4 := fun _ => by kernel_rfl
  t5 := by kernel_rfl
  a5 := fun _ => by kernel_rfl
  z5 := fun _ => by kernel_rfl
  v5 := fun _ => by kernel_rfl
  t9 := by kernel_rfl
  a9 := fun _ => by kernel_rfl
  z9 := fun _ => by kernel_rfl
  v9 := fun _ => by kernel_rfl
  t21 := by kernel_rfl
  a21 := fun _ => by kernel_rfl
  z21 := fun _ => by kernel_rfl
  v21 := fun _ => by kernel_rfl
  t31 := by kernel_rfl
  a31 := fun _ => by kernel_rfl
  z31 := fun _ => by kernel_rfl
  v31 := fun _ => by kernel_rfl
  t46 := by kernel_rfl
  a46 := fun _ => by kernel_rfl
  z46 := fun _ => by kernel_rfl
  v46 := fun _ => by kernel_rfl
  t51 := by kernel_rfl
  a51 := fun _ => by kernel_rfl
  z51 := fun _ => by kernel_rfl
  v51 := fun _ => by kernel_rfl
  t105 := by kernel_rfl
  a105 := fun _ => by kernel_rfl
  z105 := fun _ => by kernel_rfl
  v105 := fun _ => by kernel_rfl
  t119 := by kernel_rfl
  a119 := fun _ => by kernel_rfl
  z119 := fun _ => by kernel_rfl
  t138 := by kernel_rfl
  a138 := fun _ => by kernel_rfl
  z138 := fun _ => by kernel_rfl
  v138 := fun _ => by kernel_rfl
  t139 := by kernel_rfl
  a139 := fun _ => by kernel_rfl
  z139 := fun _ => by kernel_rfl
  v139 := fun _ => by kernel_rfl
  t146 := by kernel_rfl
  a146 := fun _ => by kernel_rfl
  z146 := fun _ => by kernel_rfl
  v146 := fun _ => by kernel_rfl
  g1 := by kernel_rfl
  g3 := by kernel_rfl
  g4 := by kernel_rfl
theorem lays_n149 : Lays.n149 Tryz.prog renNm where
  mixed := by kernel_rfl
  f149 := by kernel_rfl
  f222 := by kernel_rfl
  t3 := by kernel_rfl
  a3 := fun _ => by kernel_rfl
  z3 := fun _ => by kernel_rfl
  v3 := fun _ => by kernel_rfl
  t4 := by kernel_rfl
  a4 := fun _ => by kernel_rfl
  z4 := fun _ => by kernel_rfl
  v4 := fun _ => by kernel_rfl
  t5 := by kernel_rfl
  a5 := fun _ => by kernel_rfl
  z5 := fun _ => by kernel_rfl
  v5 := fun _ => by kernel_rfl
  t9 := by kernel_rfl
  a9 := fun _ => by kernel_rfl
  z9 := fun _ => by kernel_rfl
  v9 := fun _ => by kernel_rfl
theorem lays_n137 : Lays.n137 Tryz.prog renNm where
  mixed := by kernel_rfl
  f137 := by kernel_rfl
  f217 := by kernel_rfl
  f266 := by kernel_rfl
  t3 := by kernel_rfl
  a3 := fun _ => by kernel_rfl
  z3 := fun _ => by kernel_rfl
  v3 := fun _ => by kernel_rfl
  t5 := by kernel_rfl
  a5 := fun _ => by kernel_rfl
  z5 := fun _ => by kernel_rfl
  v5 := fun _ => by kernel_rfl
  t9 := by kernel_rfl
  a9 := fun _ => by kernel_rfl
  z9 := fun _ => by kernel_rfl
  v9 := fun _ => by kernel_rfl
theorem lays_n143 : Lays.n143 Tryz.prog renNm where
  mixed := by kernel_rfl
  f143 := by kernel_rfl
  f217 := by kernel_rfl
  f219 := by kernel_rfl
  f224 := by kernel_rfl
  f225 := by kernel_rfl
  f266 := by kernel_rfl
  f267 := by kernel_rfl
  f314 := by kernel_rfl
  t3 := by kernel_rfl
  a3 := fun _ => by kernel_rfl
  z3 := fun _ => by kernel_rfl
  v3 := fun _ => by kernel_rfl
  t4 := by kernel_rfl
  a4 := fun _ => by kernel_rfl
  z4 := fun _ => by kernel_rfl
  v4 := fun _ => by kernel_rfl
  t5 := by kernel_rfl
  a5 := fun _ => by kernel_rfl
  z5 := fun _ => by kernel_rfl
  v5 := fun _ => by kernel_rfl
  t9 := by kernel_rfl
  a9 := fun _ => by kernel_rfl
  z9 := fun _ => by kernel_rfl
  v9 := fun _ => by kernel_rfl
  t46 := by kernel_rfl
  a46 := fun _ => by kernel_rfl
  z46 := fun _ => by kernel_rfl
  v46 := fun _ => by kernel_rfl
  t51 := by kernel_rfl
  a51 := fun _ => by kernel_rfl
  z51 := fun _ => by kernel_rfl
  v51 := fun _ => by kernel_rfl
  t146 := by kernel_rfl
  a146 := fun _ => by kernel_rfl
  z146 := fun _ => by kernel_rfl
  v146 := fun _ => by kernel_rfl
  g1 := by kernel_rfl
theorem lays_n156 : Lays.n156 Tryz.prog renNm where
  mixed := by kernel_rfl
  f156 := by kernel_rfl
  f165 := by kernel_rfl
  f166 := by kernel_rfl
  f169 := by kernel_rfl
  f240 := by kernel_rfl
  f241 := by kernel_rfl
  f276 := by kernel_rfl
  f277 := by kernel_rfl
  t0 := by kernel_rfl
  a0 := fun _ => by kernel_rfl
  z0 := fun _ => by kernel_rfl
  v0 := fun _ => by kernel_rfl
  t3 := by kernel_rfl
  a3 := fun _ => by kernel_rfl
  z3 := fun _ => by kernel_rfl
  v3 := fun _ => by kernel_rfl
  t4 := by kernel_rfl
  a4 := fun _ => by kernel_rfl
  z4 := fun _ => by kernel_rfl
  v4 := fun _ => by kernel_rfl
  t9 := by kernel_rfl
  a9 := fun _ => by kernel_rfl
  z9 := fun _ => by kernel_rfl
  v9 := fun _ => by kernel_rfl
  t20 := by kernel_rfl
  a20 := fun _ => by kernel_rfl
  z20 := fun _ => by kernel_rfl
  v20 := fun _ => by kernel_rfl
  t31 := by kernel_rfl
  a31 := fun _ => by kernel_rfl
  z31 := fun _ => by kernel_rfl
  v31 := fun _ => by kernel_rfl
  t37 := by kernel_rfl
  a37 := fun _ => by kernel_rfl
  z37 := fun _ => by kernel_rfl
  v37 := fun _ => by kernel_rfl
  t70 := by kernel_rfl
  a70 := fun _ => by kernel_rfl
  z70 := fun _ => by kernel_rfl
  v70 := fun _ => by kernel_rfl
  t72 := by kernel_rfl
  a72 := fun _ => by kernel_rfl
  z72 := fun _ => by kernel_rfl
  v72 := fun _ => by kernel_rfl
  t75 := by kernel_rfl
  a75 := fun _ => by kernel_rfl
  z75 := fun _ => by kernel_rfl
  v75 := fun _ => by kernel_rfl
  t76 := by kernel_rfl
  a76 := fun _ => by kernel_rfl
  z76 := fun _ => by kernel_rfl
  v76 := fun _ => by kernel_rfl
  t127 := by kernel_rfl
  a127 := fun _ => by kernel_rfl
  z127 := fun _ => by kernel_rfl
  v127 := fun _ => by kernel_rfl
  t164 := by kernel_rfl
  a164 := fun _ => by kernel_rfl
  z164 := fun _ => by kernel_rfl
  v164 := fun _ => by kernel_rfl
theorem lays_n160 : Lays.n160 Tryz.prog renNm where
  mixed := by kernel_rfl
  f119 := by kernel_rfl
  f120 := by kernel_rfl
  f137 := by kernel_rfl
  f151 := by kernel_rfl
  f152 := by kernel_rfl
  f160 := by kernel_rfl
  f197 := by kernel_rfl
  f217 := by kernel_rfl
  f224 := by kernel_rfl
  f225 := by kernel_rfl
  f227 := by kernel_rfl
  f228 := by kernel_rfl
  f231 := by kernel_rfl
  f232 := by kernel_rfl
  f233 := by kernel_rfl
  f234 := by kernel_rfl
  f235 := by kernel_rfl
  f236 := by kernel_rfl
  f260 := by kernel_rfl
  f266 := by kernel_rfl
  f271 := by kernel_rfl
  t0 := by kernel_rfl
  a0 := fun _ => by kernel_rfl
  z0 := fun _ => by kernel_rfl
  v0 := fun _ => by kernel_rfl
  t3 := by kernel_rfl
  a3 := fun _ => by kernel_rfl
  z3 := fun _ => by kernel_rfl
  v3 := fun _ => by kernel_rfl
  t4 := by kernel_rfl
  a4 := fun _ => by kernel_rfl
  z4 := fun _ => by kernel_rfl
  v4 := fun _ => by kernel_rfl
  t5 := by kernel_rfl
  a5 := fun _ => by kernel_rfl
  z5 := fun _ => by kernel_rfl
  v5 := fun _ => by kernel_rfl
  t9 := by kernel_rfl
  a9 := fun _ => by kernel_rfl
  z9 := fun _ => by kernel_rfl
  v9 := fun _ => by kernel_rfl
  t21 := by kernel_rfl
  a21 := fun _ => by kernel_rfl
  z21 := fun _ => by kernel_rfl
  v21 := fun _ => by kernel_rfl
  t46 := by kernel_rfl
  a46 := fun _ => by kernel_rfl
  z46 := fun _ => by kernel_rfl
  v46 := fun _ => by kernel_rfl
  t105 := by kernel_rfl
  a105 := fun _ => by kernel_rfl
  z105 := fun _ => by kernel_rfl
  v105 := fun _ => by kernel_rfl
  t116 := by kernel_rfl
  a116 := fun _ => by kernel_rfl
  z116 := fun _ => by kernel_rfl
  t117 := by kernel_rfl
  a117 := fun _ => by kernel_rfl
  z117 := fun _ => by kernel_rfl
  v117 := fun _ => by kernel_rfl
  t119 := by kernel_rfl
  a119 := fun _ => by kernel_rfl
  z119 := fun _ => by kernel_rfl
  t124 := by kernel_rfl
  a124 := fun _ => by kernel_rfl
  z124 := fun _ => by kernel_rfl
  v124 := fun _ => by kernel_rfl
  t138 := by kernel_rfl
  a138 := fun _ => by kernel_rfl
  z138 := fun _ => by kernel_rfl
  v138 := fun _ => by kernel_rfl
  t139 := by kernel_rfl
  a139 := fun _ => by kernel_rfl
  z139 := fun _ => by kernel_rfl
  v139 := fun _ => by kernel_rfl
  g3 := by kernel_rfl
  g4 := by kernel_rfl
theorem laysM_n171 : LaysM.n171 Tryz.prog renNm where
  mixed := by kernel_rfl
  f129 := by kernel_rfl
  f171 := by kernel_rfl
  f243 := by kernel_rfl
  f246 := by kernel_rfl
  f283 := by kernel_rfl
  f284 := by kernel_rfl
  f285 := by kernel_rfl
  f286 := by kernel_rfl
  f317 := by kernel_rfl
  f318 := by kernel_rfl
  f319 := by kernel_rfl
  f320 := by kernel_rfl
  f337 := by kernel_rfl
  f338 := by kernel_rfl
  t0 := by kernel_rfl
  a0 := fun _ => by kernel_rfl
  z0 := fun _ => by kernel_rfl
  v0 := fun _ => by kernel_rfl
  t2 := by kernel_rfl
  a2 := fun _ => by kernel_rfl
  z2 := fun _ => by kernel_rfl
  v2 := fun _ => by kernel_rfl
  t3 := by kernel_rfl
  a3 := fun _ => by kernel_rfl
  z3 := fun _ => by kernel_rfl
  v3 := fun _ => by kernel_rfl
  t4 := by kernel_rfl
  a4 := fun _ => by kernel_rfl
  z4 := fun _ => by kernel_rfl
  v4 := fun _ => by kernel_rfl
  t5 := by kernel_rfl
  a5 := fun _ => by kernel_rfl
  z5 := fun _ => by kernel_rfl
  v5 := fun _ => by kernel_rfl
  t9 := by kernel_rfl
  a9 := fun _ => by kernel_rfl
  z9 := fun _ => by kernel_rfl
  v9 := fun _ => by kernel_rfl
  t20 := by kernel_rfl
  a20 := fun _ => by kernel_rfl
  z20 := fun _ => by kernel_rfl
  v20 := fun _ => by kernel_rfl
  t37 := by kernel_rfl
  a37 := fun _ => by kernel_rfl
  z37 := fun _ => by kernel_rfl
  v37 := fun _ => by kernel_rfl
  t46 := by kernel_rfl
  a46 := fun _ => by kernel_rfl
  z46 := fun _ => by kernel_rfl
  v46 := fun _ => by kernel_rfl
  t51 := by kernel_rfl
  a51 := fun _ => by kernel_rfl
  z51 := fun _ => by kernel_rfl
  v51 := fun _ => by kernel_rfl
  t53 := by kernel_rfl
  a53 := fun _ => by kernel_rfl
  z53 := fun _ => by kernel_rfl
  v53 := fun _ => by kernel_rfl
  t171 := by kernel_rfl
  a171 := fun _ => by kernel_rfl
  z171 := fun _ => by kernel_rfl
  v171 := fun _ => by kernel_rfl
  t173 := by kernel_rfl
  a173 := fun _ => by kernel_rfl
  z173 := fun _ => by kernel_rfl
  v173 := fun _ => by kernel_rfl
  t212 := by kernel_rfl
  a212 := fun _ => by kernel_rfl
  z212 := fun _ => by kernel_rfl
  v212 := fun _ => by kernel_rfl
  t213 := by kernel_rfl
  a213 := fun _ => by kernel_rfl
  z213 := fun _ => by kernel_rfl
  t232 := by kernel_rfl
  a232 := fun _ => by kernel_rfl
  z232 := fun _ => by kernel_rfl
  v232 := fun _ => by kernel_rfl
  t233 := by kernel_rfl
  a233 := fun _ => by kernel_rfl
  z233 := fun _ => by kernel_rfl
  v233 := fun _ => by kernel_rfl
  g17 := by kernel_rfl
  g18 := by kernel_rfl
  g19 := by kernel_rfl
  i0 := by kernel_rfl
  i2 := by kernel_rfl
  i3 := by kernel_rfl
  i4 := by kernel_rfl
  i5 := by kernel_rfl
  i9 := by kernel_rfl
  i20 := by kernel_rfl
  i37 := by kernel_rfl
  i46 := by kernel_rfl
  i51 := by kernel_rfl
  i53 := by kernel_rfl
  i171 := by kernel_rfl
  i173 := by kernel_rfl
  i212 := by kernel_rfl
  i232 := by kernel_rfl
  i233 := by kernel_rfl
  m17 := by kernel_rfl
  m18 := by kernel_rfl
  m19 := by kernel_rfl
theorem laysM_n284 : LaysM.n284 Tryz.prog renNm where
  mixed := by kernel_rfl
  f129 := by kernel_rfl
  f284 := by kernel_rfl
  f317 := by kernel_rfl
  f318 := by kernel_rfl
  t0 := by kernel_rfl
  a0 := fun _ => by kernel_rfl
  z0 := fun _ => by kernel_rfl
  v0 := fun _ => by kernel_rfl
  t3 := by kernel_rfl
  a3 := fun _ => by kernel_rfl
  z3 := fun _ => by kernel_rfl
  v3 := fun _ => by kernel_rfl
  t4 := by kernel_rfl
  a4 := fun _ => by kernel_rfl
  z4 := fun _ => by kernel_rfl
  v4 := fun _ => by kernel_rfl
  t5 := by kernel_rfl
  a5 := fun _ => by kernel_rfl
  z5 := fun _ => by kernel_rfl
  v5 := fun _ => by kernel_rfl
  t9 := by kernel_rfl
  a9 := fun _ => by kernel_rfl
  z9 := fun _ => by kernel_rfl
  v9 := fun _ => by kernel_rfl
  t46 := by kernel_rfl
  a46 := fun _ => by kernel_rfl
  z46 := fun _ => by kernel_rfl
  v46 := fun _ => by kernel_rfl
  t53 := by kernel_rfl
  a53 := fun _ => by kernel_rfl
  z53 := fun _ => by kernel_rfl
  v53 := fun _ => by kernel_rfl
  t212 := by kernel_rfl
  a212 := fun _ => by kernel_rfl
  z212 := fun _ => by kernel_rfl
  v212 := fun _ => by kernel_rfl
  g17 := by kernel_rfl
  i0 := by kernel_rfl
  i3 := by kernel_rfl
  i4 := by kernel_rfl
  i5 := by kernel_rfl
  i9 := by kernel_rfl
  i46 := by kernel_rfl
  i53 := by kernel_rfl
  i212 := by kernel_rfl
  m17 := by kernel_rfl
theorem lays_n285 : Lays.n285 Tryz.prog renNm where
  mixed := by kernel_rfl
  f285 := by kernel_rfl
  t0 := by kernel_rfl
  a0 := fun _ => by kernel_rfl
  z0 := fun _ => by kernel_rfl
  v0 := fun _ => by kernel_rfl
  t3 := by kernel_rfl
  a3 := fun _ => by kernel_rfl
  z3 := fun _ => by kernel_rfl
  v3 := fun _ => by kernel_rfl
  t4 := by kernel_rfl
  a4 := fun _ => by kernel_rfl
  z4 := fun _ => by kernel_rfl
  v4 := fun _ => by kernel_rfl
  t5 := by kernel_rfl
  a5 := fun _ => by kernel_rfl
  z5 := fun _ => by kernel_rfl
  v5 := fun _ => by kernel_rfl
  t9 := by kernel_rfl
  a9 := fun _ => by kernel_rfl
  z9 := fun _ => by kernel_rfl
  v9 := fun _ => by kernel_rfl
  t37 := by kernel_rfl
  a37 := fun _ => by kernel_rfl
  z37 := fun _ => by kernel_rfl
  v37 := fun _ => by kernel_rfl
  t51 := by kernel_rfl
  a51 := fun _ => by kernel_rfl
  z51 := fun _ => by kernel_rfl
  v51 := fun _ => by kernel_rfl
  t53 := by kernel_rfl
  a53 := fun _ => by kernel_rfl
  z53 := fun _ => by kernel_rfl
  v53 := fun _ => by kernel_rfl
theorem laysPu_n14 : LaysPu.n14 Tryz.prog renMp where
  mixed := by kernel_rfl
  f14 := by kernel_rfl
  f16 := by kernel_rfl
  f17 := by kernel_rfl
  f19 := by kernel_rfl
  f20 := by kernel_rfl
  f21 := by kernel_rfl
  f22 := by kernel_rfl
  f23 := by kernel_rfl
  f24 := by kernel_rfl
  f25 := by kernel_rfl
  f26 := by kernel_rfl
  f27 := by kernel_rfl
  f28 := by kernel_rfl
  f29 := by kernel_rfl
  f30 := by kernel_rfl
  f31 := by kernel_rfl
  f32 := by kernel_rfl
  f33 := by kernel_rfl
  f34 := by kernel_rfl
  f35 := by kernel_rfl
  f36 := by kernel_rfl
  f37 := by kernel_rfl
  f38 := by kernel_rfl
  f39 := by kernel_rfl
  f40 := by kernel_rfl
  t0 := by kernel_rfl
  a0 := fun _ => by kernel_rfl
  z0 := fun _ => by kernel_rfl
  v0 := fun _ => by kernel_rfl
  i0 := by kernel_rfl
  t2 := by kernel_rfl
  a2 := fun _ => by kernel_rfl
  z2 := fun _ => by kernel_rfl
  v2 := fun _ => by kernel_rfl
  i2 := by kernel_rfl
  t3 := by kernel_rfl
  a3 := fun _ => by kernel_rfl
  z3 := fun _ => by kernel_rfl
  v3 := fun _ => by kernel_rfl
  i3 := by kernel_rfl
  t4 := by kernel_rfl
  a4 := fun _ => by kernel_rfl
  z4 := fun _ => by kernel_rfl
  v4 := fun _ => by kernel_rfl
  i4 := by kernel_rfl
  t5 := by kernel_rfl
  a5 := fun _ => by kernel_rfl
  z5 := fun _ => by kernel_rfl
  v5 := fun _ => by kernel_rfl
  i5 := by kernel_rfl
  t9 := by kernel_rfl
  a9 := fun _ => by kernel_rfl
  z9 := fun _ => by kernel_rfl
  v9 := fun _ => by kernel_rfl
  i9 := by kernel_rfl
  t20 := by kernel_rfl
  a20 := fun _ => by kernel_rfl
  z20 := fun _ => by kernel_rfl
  v20 := fun _ => by kernel_rfl
  i20 := by kernel_rfl
  t21 := by kernel_rfl
  a21 := fun _ => by kernel_rfl
  z21 := fun _ => by kernel_rfl
  v21 := fun _ => by kernel_rfl
  i21 := by kernel_rfl
  t22 := by kernel_rfl
  a22 := fun _ => by kernel_rfl
  z22 := fun _ => by kernel_rfl
  v22 := fun _ => by kernel_rfl
  i22 := by kernel_rfl
  t24 := by kernel_rfl
  a24 := fun _ => by kernel_rfl
  z24 := fun _ => by kernel_rfl
  v24 := fun _ => by kernel_rfl
  i24 := by kernel_rfl
  t25 := by kernel_rfl
  a25 := fun _ => by kernel_rfl
  z25 := fun _ => by kernel_rfl
  v25 := fun _ => by kernel_rfl
  i25 := by kernel_rfl
  t34 := by kernel_rfl
  a34 := fun _ => by kernel_rfl
  z34 := fun _ => by kernel_rfl
  v34 := fun _ => by kernel_rfl
  i34 := by kernel_rfl
  c34 := by kernel_rfl
  t36 := by kernel_rfl
  a36 := fun _ => by kernel_rfl
  z36 := fun _ => by kernel_rfl
  v36 := fun _ => by kernel_rfl
  i36 := by kernel_rfl
  t37 := by kernel_rfl
  a37 := fun _ => by kernel_rfl
  z37 := fun _ => by kernel_rfl
  v37 := fun _ => by kernel_rfl
  i37 := by kernel_rfl
  t39 := by kernel_rfl
  a39 := fun _ => by kernel_rfl
  z39 := fun _ => by kernel_rfl
  v39 := fun _ => by kernel_rfl
  i39 := by kernel_rfl
  t44 := by kernel_rfl
  a44 := fun _ => by kernel_rfl
  z44 := fun _ => by kernel_rfl
  v44 := fun _ => by kernel_rfl
  i44 := by kernel_rfl
  t47 := by kernel_rfl
  a47 := fun _ => by kernel_rfl
  z47 := fun _ => by kernel_rfl
  v47 := fun _ => by kernel_rfl
  i47 := by kernel_rfl
  t48 := by kernel_rfl
  a48 := fun _ => by kernel_rfl
  z48 := fun _ => by kernel_rfl
  v48 := fun _ => by kernel_rfl
  i48 := by kernel_rfl
  t50 := by kernel_rfl
  a50 := fun _ => by kernel_rfl
  z50 := fun _ => by kernel_rfl
  v50 := fun _ => by kernel_rfl
  i50 := by kernel_rfl
  t52 := by kernel_rfl
  a52 := fun _ => by kernel_rfl
  z52 := fun _ => by kernel_rfl
  v52 := fun _ => by kernel_rfl
  i52 := by kernel_rfl
  t55 := by kernel_rfl
  a55 := fun _ => by kernel_rfl
  z55 := fun _ => by kernel_rfl
  v55 := fun _ => by kernel_rfl
  i55 := by kernel_rfl
  t59 := by kernel_rfl
  a59 := fun _ => by kernel_rfl
  z59 := fun _ => by kernel_rfl
  v59 := fun _ => by kernel_rfl
  i59 := by kernel_rfl
  t60 := by kernel_rfl
  a60 := fun _ => by kernel_rfl
  z60 := fun _ => by kernel_rfl
  v60 := fun _ => by kernel_rfl
  i60 := by kernel_rfl
  t61 := by kernel_rfl
  a61 := fun _ => by kernel_rfl
  z61 := fun _ => by kernel_rfl
  t65 := by kernel_rfl
  a65 := fun _ => by kernel_rfl
  z65 := fun _ => by kernel_rfl
  v65 := fun _ => by kernel_rfl
  i65 := by kernel_rfl
  t66 := by kernel_rfl
  a66 := fun _ => by kernel_rfl
  z66 := fun _ => by kernel_rfl
  v66 := fun _ => by kernel_rfl
  i66 := by kernel_rfl
  t67 := by kernel_rfl
  a67 := fun _ => by kernel_rfl
  z67 := fun _ => by kernel_rfl
  v67 := fun _ => by kernel_rfl
  i67 := by kernel_rfl
  g0 := by kernel_rfl
  m0 := by kernel_rfl
  g1 := by kernel_rfl
  m1 := by kernel_rfl
  g2 := by kernel_rfl
  m2 := by kernel_rfl
  g3 := by kernel_rfl
  m3 := by kernel_rfl
  g4 := by kernel_rfl
  m4 := by kernel_rfl
theorem extraNm : Builder.Extra Tryz.prog renNm where
  sizeBuilder := by kernel_rfl
  liesBuilder := by kernel_rfl
  t5 := by kernel_rfl
  a5 := fun _ => by kernel_rfl
  z5 := fun _ => by kernel_rfl
  v5 := fun _ => by kernel_rfl
  infoByte := by kernel_rfl
  cellsByte := by kernel_rfl
  sizeByte := by kernel_rfl
  neB5 := by decide
end Mini
end Go.Proofs.YtgjlofpfbhioaaaGreatDoor
namespace Go.Proofs.YtgjlofpfbhioaaaGreatDoor
namespace Mini
open Go Go.Shelf Go.Proofs Go.RowKit
def idxN (c : Nat) : List Nat → Option Nat
  | [] => none
  | x :: xs => if x = c then some 0 else match idxN c xs with
    | some k => some (k + 1)
    | none => none
def lidxN (c : Nat) : List Nat → Option Nat
  | [] => none
  | x :: xs => match lidxN c xs with
    | some k => some (k + 1)
    | none => if x = c then some 0 else none
def oInt : Option Nat → Int
  | some k => Int.ofNat k
  | none => -1
def cutN (c : Nat) : List Nat → Option (List Nat × List Nat)
  | [] => none
  | x :: xs => if x = c then some ([], xs) else match cutN c xs with
    | some (a, b) => some (x :: a, b)
    | none => none
def splitN (c : Nat) : List Nat → List (List Nat)
  | [] => [[]]
  | x :: xs => if x = c then [] :: splitN c xs else match splitN c xs with
    | [] => [[x]]
    | y :: ys => (x :: y) :: ys
def trimN (cs s : List Nat) : List Nat := ((s.reverse.dropWhile (cs.contains ·)).reverse).dropWhile (cs.contains ·)
def isDig (b : Nat) : Bool := Nat.ble 48 b && Nat.ble b 57
def numN (acc : Nat) (s : List Nat) : Nat := s.foldl (fun a b => 10 * a + (b - 48)) acc
def decF : Nat → Nat → List Nat
  | 0, n => [48 + n % 10]
  | f + 1, n => if n < 10 then [48 + n] else decF f (n / 10) ++ [48 + n % 10]
def decN (n : Nat) : List Nat := decF 20 n
abbrev bytesB (s : ByteArray) : List Nat := s.data.toList.map UInt8.toNat
theorem oInt_ne (k : Nat) : (oInt (some k) == -1) = false := by
  rw [beq_eq_false_iff_ne]
  intro h
  have h1 : (0 : Int) ≤ oInt (some k) := Int.natCast_nonneg k
  rw [h] at h1
  exact absurd h1 (by decide)
theorem toNat_inj {a b : UInt8} (h : a.toNat = b.toNat) : a = b := UInt8.toNat_inj.1 h
theorem idxN_eq (c : UInt8) : ∀ l : List UInt8, Lib.indexByte l c = oInt (idxN c.toNat (List.map UInt8.toNat l))
  | [] => rfl
  | b :: l => by
    have ih := idxN_eq c l
    simp only [Lib.indexByte, List.map_cons, idxN]
    by_cases h : b = c
    · subst h; simp [oInt]
    · have h' : ¬ b.toNat = c.toNat := fun e => h (toNat_inj e)
      rw [if_neg h', if_neg (by simpa using h), ih]
      cases idxN c.toNat (List.map UInt8.toNat l) with
      | none => simp [oInt]
      | some k =>
        simp only [oInt_ne, Bool.false_eq_true, if_false]
        rfl
theorem index_one (c : UInt8) : ∀ l : List UInt8, Lib.index l [c] = Lib.indexByte l c
  | [] => rfl
  | b :: l => by
    have ih := index_one c l
    simp only [Lib.index, Lib.indexByte, ih]
    by_cases h : b = c
    · subst h; simp
    · have h1 : (c == b) = false := by simp; exact fun e => h e.symm
      have h2 : (b == c) = false := by simp; exact h
      simp [List.isPrefixOf, h1, h2]
theorem idxN_lt {c : Nat} : ∀ {l : List Nat} {k : Nat}, idxN c l = some k → k < l.length
  | [], _, h => by cases h
  | x :: xs, k, h => by
    simp only [idxN] at h
    split at h
    · cases h; simp
    · split at h <;> try (cases h; done)
      rename_i k' hk
      cases h
      have := idxN_lt hk
      simp only [List.length_cons]; omega
theorem cutN_idx (c : Nat) : ∀ l : List Nat, cutN c l = (idxN c l).map fun k => (l.take k, l.drop (k + 1))
  | [] => rfl
  | x :: xs => by
    simp only [cutN, idxN, cutN_idx c xs]
    split
    · simp
    · cases idxN c xs <;> simp
theorem splitN_ne (c : Nat) (l : List Nat) : splitN c l ≠ [] := by
  cases l with
  | nil => simp [splitN]
  | cons x xs =>
    simp only [splitN]
    split
    · simp
    · split <;> simp
theorem splitN_cut (c : Nat) : ∀ l : List Nat, splitN c l = match cutN c l with
    | some (a, b) => a :: splitN c b
    | none => [l]
  | [] => rfl
  | x :: xs => by
    have ih := splitN_cut c xs
    simp only [splitN, cutN]
    split
    · rfl
    · cases h : cutN c xs with
      | none => rw [h] at ih; simp only at ih; rw [ih]
      | some p => obtain ⟨a, b⟩ := p; rw [h] at ih; simp only at ih; rw [ih]
theorem splitK_eq (c : UInt8) : ∀ (k : Nat) (l : List UInt8), (splitN c.toNat (List.map UInt8.toNat l)).length ≤ k + 1 → (Lib.splitK [c] 0 k l).map (List.map UInt8.toNat) = splitN c.toNat (List.map UInt8.toNat l)
  | 0, l, h => by
    rw [splitN_cut] at h ⊢
    cases hc : cutN c.toNat (List.map UInt8.toNat l) with
    | none => simp [Lib.splitK]
    | some p =>
      obtain ⟨a, b⟩ := p
      rw [hc] at h
      have := List.length_pos_iff.2 (splitN_ne c.toNat b)
      simp at h
      exact absurd h (splitN_ne _ _)
  | k + 1, l, h => by
    rw [splitN_cut] at h ⊢
    simp only [Lib.splitK, index_one, idxN_eq]
    rw [cutN_idx] at h ⊢
    cases hi : idxN c.toNat (List.map UInt8.toNat l) with
    | none => simp [oInt]
    | some j =>
      rw [hi] at h
      simp only [oInt_ne, Bool.false_eq_true, if_false]
      simp only [Option.map_some] at h ⊢
      have hj : (oInt (some j)).toNat = j := rfl
      have e : List.map UInt8.toNat (l.drop (j + 1)) = (List.map UInt8.toNat l).drop (j + 1) := by simp
      rw [hj, List.map_cons, Nat.add_zero]
      simp only [List.length_cons, List.length_nil, Nat.zero_add]
      rw [← e]
      rw [splitK_eq c k (l.drop (j + 1)) (by rw [e]; simp at h; exact h)]
      simp
theorem countFrom_eq (c : UInt8) : ∀ (f : Nat) (l : List UInt8), l.length < f → Lib.countFrom [c] f l + 1 = (splitN c.toNat (List.map UInt8.toNat l)).length
  | 0, l, h => by omega
  | f + 1, l, h => by
    rw [splitN_cut, cutN_idx]
    simp only [Lib.countFrom, index_one, idxN_eq]
    cases hi : idxN c.toNat (List.map UInt8.toNat l) with
    | none => simp [oInt]
    | some j =>
      simp only [oInt_ne, Bool.false_eq_true, if_false]
      have hlt := idxN_lt hi
      simp only [List.length_map] at hlt
      have e : List.map UInt8.toNat (l.drop (j + 1)) = (List.map UInt8.toNat l).drop (j + 1) := by simp
      have hj : (oInt (some j)).toNat = j := rfl
      simp only [Option.map_some, List.length_cons, hj, List.length_nil, Nat.zero_add]
      rw [← e, ← countFrom_eq c f (l.drop (j + 1)) (by simp only [List.length_drop]; omega)]
      omega
theorem trimN_eq (l cs : List UInt8) : List.map UInt8.toNat (Lib.trimS l cs) = trimN (List.map UInt8.toNat cs) (List.map UInt8.toNat l) := by
  have key : ∀ l : List UInt8, List.map UInt8.toNat (l.dropWhile (cs.contains ·)) = (List.map UInt8.toNat l).dropWhile ((List.map UInt8.toNat cs).contains ·) := by
    intro l
    induction l with
    | nil => rfl
    | cons b l ih =>
      have hc : (List.map UInt8.toNat cs).contains b.toNat = cs.contains b := by
        rw [Bool.eq_iff_iff, List.contains_iff_mem, List.contains_iff_mem, List.mem_map]
        constructor
        · rintro ⟨a, h1, h2⟩; rw [← toNat_inj h2]; exact h1
        · intro h; exact ⟨b, h, rfl⟩
      simp only [List.dropWhile_cons, List.map_cons, hc]
      split
      · exact ih
      · rfl
  have h2 : List.map UInt8.toNat ((l.reverse.dropWhile (cs.contains ·)).reverse) = (((List.map UInt8.toNat l).reverse).dropWhile ((List.map UInt8.toNat cs).contains ·)).reverse := by
    rw [List.map_reverse, key, List.map_reverse]
  show List.map UInt8.toNat (((l.reverse.dropWhile (cs.contains ·)).reverse).dropWhile (cs.contains ·)) = _
  rw [key, h2]
  rfl
theorem numN_nil (acc : Nat) : numN acc [] = acc := by unfold numN; exact List.foldl_nil
theorem numN_cons (acc b : Nat) (l : List Nat) : numN acc (b :: l) = numN (10 * acc + (b - 48)) l := by unfold numN; exact List.foldl_cons
theorem numN_ge (l : List Nat) : ∀ acc : Nat, acc ≤ numN acc l := by
  induction l with
  | nil => intro acc; rw [numN_nil]; exact Nat.le_refl _
  | cons b l ih =>
    intro acc
    have := ih (10 * acc + (b - 48))
    rw [numN_cons]
    omega
theorem parseUintM_eq (m : Nat) (hm : m < 1844674407370955162) : ∀ (l : List UInt8) (acc : Nat), acc ≤ m → (List.map UInt8.toNat l).all isDig = true → Lib.parseUintM m acc l = if numN acc (List.map UInt8.toNat l) ≤ m then .ok (numN acc (List.map UInt8.toNat l)) else .range
  | [], acc, ha, _ => by simp only [Lib.parseUintM, List.map_nil, numN_nil, ha, if_true]
  | c :: l, acc, ha, h => by
    simp only [List.map_cons, List.all_cons, Bool.and_eq_true] at h
    obtain ⟨h1, h2⟩ := h
    have h1' : 48 ≤ c.toNat ∧ c.toNat ≤ 57 := by
      simp only [isDig, Bool.and_eq_true, Nat.ble_eq] at h1
      exact h1
    simp only [Lib.parseUintM, List.map_cons, numN_cons]
    rw [if_pos h1', if_neg (by omega)]
    have e : acc * 10 + (c.toNat - 48) = 10 * acc + (c.toNat - 48) := by omega
    rw [e]
    have hge := numN_ge (List.map UInt8.toNat l) (10 * acc + (c.toNat - 48))
    by_cases hb : m < 10 * acc + (c.toNat - 48)
    · rw [if_pos hb, if_neg (by omega)]
    · rw [if_neg hb]
      exact parseUintM_eq m hm l _ (by omega) h2
theorem decF_eq : ∀ (f n : Nat), n < 10 ^ (f + 1) → List.map UInt8.toNat (Lib.decDigits n) = decF f n
  | 0, n, h => by
    rw [Lib.decDigits, dif_pos (by simpa using h)]
    have : n < 10 := by simpa using h
    simp only [decF, List.map_cons, List.map_nil, Nat.mod_eq_of_lt this]
    rw [UInt8.toNat_ofNat', Nat.mod_eq_of_lt (by omega)]
  | f + 1, n, h => by
    rw [Lib.decDigits]
    simp only [decF]
    split
    · simp only [List.map_cons, List.map_nil]
      rw [UInt8.toNat_ofNat', Nat.mod_eq_of_lt (by omega)]
    · have hn : n / 10 < 10 ^ (f + 1) := by rw [Nat.pow_succ] at h; omega
      simp only [List.map_append, List.map_cons, List.map_nil]
      rw [decF_eq f (n / 10) hn, UInt8.toNat_ofNat', Nat.mod_eq_of_lt (by omega)]
theorem lidxN_snoc (c : Nat) : ∀ (l : List Nat) (x : Nat), lidxN c (l ++ [x]) = if x = c then some l.length else lidxN c l
  | [], x => by simp [lidxN]
  | y :: l, x => by
    simp only [List.cons_append, lidxN, lidxN_snoc c l x]
    by_cases h : x = c
    · simp [h]
    · simp [h]
theorem lastIdx_eq (s : ByteArray) (c : Nat) : ∀ k, k ≤ s.size → Lib.lastIdx s c k = oInt (lidxN c ((bytesB s).take k))
  | 0, _ => rfl
  | k + 1, hk => by
    have ih := lastIdx_eq s c k (by omega)
    have hlt : k < s.data.size := hk
    have e : (bytesB s).take (k + 1) = (bytesB s).take k ++ [(s.data[k]!).toNat] := by
      rw [List.take_add_one]
      congr 1
      have h1 : s.data[k]? = some s.data[k]! := by rw [Array.getElem?_eq_getElem hlt, getElem!_pos s.data k hlt]
      simp [bytesB, h1]
    rw [e, lidxN_snoc]
    simp only [Lib.lastIdx]
    have hl : ((bytesB s).take k).length = k := by
      have : s.data.toList.length = s.data.size := Array.length_toList
      simp [bytesB]; omega
    rw [hl]
    by_cases h : (s.data[k]!).toNat = c
    · rw [if_pos h]
      simp [h, oInt]
    · rw [if_neg h, ih]
      have : ¬ (((s.data[k]!).toNat : Int) = (c : Int)) := by omega
      simp [this]
end Mini
end Go.Proofs.YtgjlofpfbhioaaaGreatDoor
namespace Go.Proofs.YtgjlofpfbhioaaaGreatDoor
namespace Mini
open Go Go.Shelf Go.Proofs Go.RowKit
abbrev Str (s : List Nat) : V := .c (.d (.str s))
abbrev I64 (n : Int) : V := .c (.d (.int .i64 n))
abbrev U64 (n : Int) : V := .c (.d (.int .u64 n))
theorem out_below {I : Imm} {w w' : World} {v : V} {u : Value} (hI : ∀ B o, I B = some o → w.heap[B]? = some o) (hb : Below w.heap.size w w') (hr : RelV (mm I) v u) :
    ∃ (v' : Value) (J : Imm), Ending.returned u = .returned v' ∧ RelV (mm J) v v' ∧ (∀ B o, I B = some o → J B = some o) ∧ (∀ B o, J B = some o → w'.heap[B]? = some o) ∧ (∀ B o, J B = some o → I B = some o ∨ w.heap.size ≤ B) ∧
      w'.os = w.os ∧ w'.tape = w.tape ∧ w'.output = w.output ∧ w.heap.size ≤ w'.heap.size ∧ ∀ B : Nat, B < w.heap.size → w'.heap[B]? = w.heap[B]? :=
  ⟨u, I, rfl, hr, fun _ _ h => h, fun B o hB => by rw [hb.block B (Array.getElem?_eq_some_iff.1 (hI B o hB)).1]; exact hI B o hB, fun _ _ h => .inl h, hb.os, hb.tape, hb.output, hb.size, hb.block⟩
theorem below_grow (w : World) (n : Nat) (os : Array Obj) : Below w.heap.size w (Go.Sort.grow (w.drewN n) os) := by
  refine ⟨rfl, rfl, rfl, by simp [Go.Sort.grow, World.drewN], fun k hk => ?_⟩
  show (w.heap ++ os)[k]? = _
  rw [Array.getElem?_append_left hk]
theorem relStr {M : MM} {s : List Nat} {u : Value} (h : RelV M (Str s) u) : ∃ b : ByteArray, u = .string b ∧ bytesB b = s := by
  rw [relV_d] at h
  simp only [RelD] at h
  exact h
theorem strRel {M : MM} {b : ByteArray} {s : List Nat} (h : bytesB b = s) : RelV M (Str s) (.string b) := by
  rw [relV_d]; simp only [RelD]; exact ⟨b, rfl, h⟩
theorem relInt {M : MM} {k : IntKind} {n : Int} {u : Value} (h : RelV M (.c (.d (.int k n))) u) : u = .int k n := by
  rw [relV_d] at h; simpa only [RelD] using h
theorem intRel {M : MM} {k : IntKind} {n : Int} : RelV M (.c (.d (.int k n))) (.int k n) := by
  rw [relV_d]; simp only [RelD]
theorem one_byte {b : ByteArray} {c : Nat} (h : bytesB b = [c]) : ∃ x : UInt8, b = ⟨#[x]⟩ ∧ x.toNat = c := by
  obtain ⟨arr⟩ := b
  obtain ⟨l⟩ := arr
  simp only [bytesB] at h
  match l, h with
  | [x], h => exact ⟨x, rfl, by simpa using h⟩
theorem size_bytes {b : ByteArray} {s : List Nat} (h : bytesB b = s) : b.size = s.length := by
  rw [← h]; simp [bytesB]
theorem mk_bytes (l : List UInt8) : bytesB ⟨l.toArray⟩ = List.map UInt8.toNat l := by simp [bytesB]
def indexV : List V → Option V
  | [.c (.d (.str s)), .c (.d (.str [c]))] => some (I64 (oInt (idxN c s)))
  | _ => none
theorem indexV_ok {G : Nat → Option (List D)} {vs : List V} {r : V} (h : indexV vs = some r) : Enters Tryz.prog 147 ∧ ValCall Tryz.prog G 147 vs r := by
  refine ⟨⟨Tryz.f147, by kernel_rfl, by kernel_rfl, by kernel_rfl⟩, ?_⟩
  unfold indexV at h
  split at h <;> try (cases h; done)
  rename_i s c
  simp only [Option.some.injEq] at h
  subst h
  intro I w us _ hI hrel hlen
  match us, hlen, hrel with
  | [u1, u2], _, hrel =>
    simp only [RelVs, and_true] at hrel
    obtain ⟨r1, r2⟩ := hrel
    obtain ⟨b, rfl, rfl⟩ := relStr r1
    obtain ⟨b2, rfl, hb2⟩ := relStr r2
    obtain ⟨x, rfl, rfl⟩ := one_byte hb2
    have hcall := Any.strings_Index_one lays_n143 b x w
    refine hcall.mono fun e w' hh => ?_
    obtain ⟨rfl, rfl⟩ := hh
    refine out_below hI (Below.refl _ _) ?_
    rw [idxN_eq]
    exact intRel
def ixbV : List V → Option V
  | [.c (.d (.str s)), .c (.d (.int .u8 c))] => if 0 ≤ c ∧ c < 256 then some (I64 (oInt (idxN c.toNat s))) else none
  | _ => none
theorem ixbV_ok {G : Nat → Option (List D)} {vs : List V} {r : V} (h : ixbV vs = some r) : Enters Tryz.prog 121 ∧ ValCall Tryz.prog G 121 vs r := by
  refine ⟨⟨Tryz.f121, by kernel_rfl, by kernel_rfl, by kernel_rfl⟩, ?_⟩
  unfold ixbV at h
  split at h <;> try (cases h; done)
  rename_i s c
  split at h <;> try (cases h; done)
  rename_i hc
  simp only [Option.some.injEq] at h
  subst h
  intro I w us _ hI hrel hlen
  match us, hlen, hrel with
  | [u1, u2], _, hrel =>
    simp only [RelVs, and_true] at hrel
    obtain ⟨r1, r2⟩ := hrel
    obtain ⟨b, rfl, rfl⟩ := relStr r1
    obtain rfl := relInt r2
    have hcall := Any.strings_IndexByte lays_n137 b c w
    refine hcall.mono fun e w' hh => ?_
    obtain ⟨rfl, rfl⟩ := hh
    refine out_below hI (Below.refl _ _) ?_
    rw [idxN_eq]
    have e : (c.toNat.toUInt8).toNat = c.toNat := by
      show c.toNat % 256 = c.toNat
      exact Nat.mod_eq_of_lt (by omega)
    rw [e]
    exact intRel
def lixV : List V → Option V
  | [.c (.d (.str s)), .c (.d (.int .u8 c))] => if 0 ≤ c ∧ s.length < 4611686018427387904 then some (I64 (oInt (lidxN c.toNat s))) else none
  | _ => none
theorem lixV_ok {G : Nat → Option (List D)} {vs : List V} {r : V} (h : lixV vs = some r) : Enters Tryz.prog 100 ∧ ValCall Tryz.prog G 100 vs r := by
  refine ⟨⟨Tryz.f100, by kernel_rfl, by kernel_rfl, by kernel_rfl⟩, ?_⟩
  unfold lixV at h
  split at h <;> try (cases h; done)
  rename_i s c
  split at h <;> try (cases h; done)
  rename_i hc
  simp only [Option.some.injEq] at h
  subst h
  intro I w us _ hI hrel hlen
  match us, hlen, hrel with
  | [u1, u2], _, hrel =>
    simp only [RelVs, and_true] at hrel
    obtain ⟨r1, r2⟩ := hrel
    obtain ⟨b, rfl, rfl⟩ := relStr r1
    obtain rfl := relInt r2
    have hsz := size_bytes (b := b) rfl
    have hcall := Any.strings_LastIndexByte lays_n149 b c (by omega) w
    refine hcall.mono fun e w' hh => ?_
    obtain ⟨rfl, rfl⟩ := hh
    refine out_below hI (Below.refl _ _) ?_
    obtain ⟨n, rfl⟩ := Int.eq_ofNat_of_zero_le hc.1
    have e := lastIdx_eq b n b.size (Nat.le_refl _)
    rw [List.take_of_length_le (by omega)] at e
    show RelV _ _ (.int .i64 (Lib.lastIdx b n b.size))
    rw [e]
    exact intRel
theorem maxLen_at {G : Nat → Option (List D)} {I : Imm} {w : World} {m : Int} (hG : GlobOk G I) (hm : G 1 = some [.int .i64 m]) (hI : ∀ B o, I B = some o → w.heap[B]? = some o) : w.cell? ⟨(renNm.g 1), 0, none⟩ = some (.int .i64 m) := by
  obtain ⟨arr, T, fr, h1, h2, h3⟩ := hG.at hm
  have hb := hI _ _ h1
  have e : renNm.g 1 = 1 := rfl
  rw [e]
  have h3' := RelDs.iff.1 h3 0 _ rfl
  obtain ⟨v, hv, hr⟩ := h3'
  simp only [RelD] at hr
  subst hr
  simp only [World.cell?, hb, Option.isSome_none, Bool.false_eq_true, if_false]
  rw [← Array.getElem?_toList]
  exact hv
theorem strs_rel {I : Imm} : ∀ (bs : List ByteArray), RelDs I (bs.map fun b => .str (bytesB b)) (bs.map Value.string)
  | [] => RelDs.nil _ _
  | b :: bs => by
    simp only [List.map_cons, RelDs, RelD]
    exact ⟨⟨b, rfl, rfl⟩, strs_rel bs⟩
def splitV : List V → Option V
  | [.c (.d (.str s)), .c (.d (.str [c]))] => if s.length < 4294967281 then some (.c (.d (.sl ((splitN c s).map .str) (splitN c s).length))) else none
  | _ => none
theorem splitV_ok {G : Nat → Option (List D)} {m : Int} (hm : G 1 = some [.int .i64 m]) {vs : List V} {r : V} (h : splitV vs = some r) : Enters Tryz.prog 92 ∧ ValCall Tryz.prog G 92 vs r := by
  refine ⟨⟨Tryz.f92, by kernel_rfl, by kernel_rfl, by kernel_rfl⟩, ?_⟩
  unfold splitV at h
  split at h <;> try (cases h; done)
  rename_i s c
  split at h <;> try (cases h; done)
  rename_i hc
  simp only [Option.some.injEq] at h
  subst h
  intro I w us hG hI hrel hlen
  match us, hlen, hrel with
  | [u1, u2], _, hrel =>
    simp only [RelVs, and_true] at hrel
    obtain ⟨r1, r2⟩ := hrel
    obtain ⟨b, rfl, rfl⟩ := relStr r1
    obtain ⟨b2, rfl, hb2⟩ := relStr r2
    obtain ⟨x, rfl, rfl⟩ := one_byte hb2
    have hsz := size_bytes (b := b) rfl
    have hcall := Any.strings_Split lays_n146 (by kernel_rfl) b ⟨#[x]⟩ m w (by omega) (maxLen_at hG hm hI) (Nat.le_refl 1)
    refine hcall.mono fun e w' hh => ?_
    obtain ⟨rfl, rfl⟩ := hh
    have hcount : Lib.countB b ⟨#[x]⟩ + 1 = (splitN x.toNat (bytesB b)).length := countFrom_eq x (b.data.toList.length + 1) b.data.toList (Nat.lt_succ_self _)
    have hparts : (Lib.splitB ⟨#[x]⟩ 0 (Lib.countB b ⟨#[x]⟩) b).map (fun b => D.str (bytesB b)) = (splitN x.toNat (bytesB b)).map .str := by
      have h1 := Lib.splitB_data ⟨#[x]⟩ 0 (Lib.countB b ⟨#[x]⟩) b
      have h2 := splitK_eq x (Lib.countB b ⟨#[x]⟩) b.data.toList (by rw [hcount]; exact Nat.le_refl _)
      have hx : (⟨#[x]⟩ : ByteArray).data.toList = [x] := rfl
      rw [hx] at h1
      rw [← h1, List.map_map] at h2
      show _ = List.map D.str (splitN x.toNat (List.map UInt8.toNat b.data.toList))
      rw [← h2, List.map_map]
      rfl
    refine ⟨_, fun B => if B = w.heap.size then some (.cells ((Lib.splitB ⟨#[x]⟩ 0 (Lib.countB b ⟨#[x]⟩) b).map Value.string).toArray (renNm.t 9) (0, 0)) else I B, rfl, ?_, fun B o hB => ?_, fun B o hB => ?_, fun B o hB => ?_, rfl, rfl, rfl, ?_, fun B hB => ?_⟩
    · rw [relV_d]
      simp only [RelD]
      rw [← hcount]
      refine ⟨_, _, rfl, Nat.le_refl _, .inr ⟨_, _, _, _, _, rfl, if_pos rfl, ?_⟩⟩
      rw [← hparts]
      simp only [List.drop_zero]
      exact strs_rel _
    · have hlt := (Array.getElem?_eq_some_iff.1 (hI B o hB)).1
      show (if B = w.heap.size then _ else I B) = _
      rw [if_neg (Nat.ne_of_lt hlt)]
      exact hB
    · show (w.heap.push _)[B]? = _
      simp only at hB
      split at hB
      · rename_i e; subst e; cases hB; simp
      · have := hI B o hB
        rw [Array.getElem?_push, if_neg (Nat.ne_of_lt (Array.getElem?_eq_some_iff.1 this).1)]
        exact this
    · simp only at hB
      split at hB
      · rename_i e; exact .inr (by omega)
      · exact .inl hB
    · show _ ≤ (w.heap.push _).size; simp
    · show (w.heap.push _)[B]? = _
      rw [Array.getElem?_push, if_neg (Nat.ne_of_lt hB)]
def digs : List Nat := [48, 49, 50, 51, 52, 53, 54, 55, 56, 57]
def trimV : List V → Option V
  | [.c (.d (.str s)), .c (.d (.str cs))] => if cs = digs ∧ s.length < 4294967281 then some (Str (trimN cs s)) else none
  | _ => none
theorem trimV_ok {G : Nat → Option (List D)} {vs : List V} {r : V} (h : trimV vs = some r) : Enters Tryz.prog 151 ∧ ValCall Tryz.prog G 151 vs r := by
  refine ⟨⟨Tryz.f151, by kernel_rfl, by kernel_rfl, by kernel_rfl⟩, ?_⟩
  unfold trimV at h
  split at h <;> try (cases h; done)
  rename_i s cs
  split at h <;> try (cases h; done)
  rename_i hc
  simp only [Option.some.injEq] at h
  subst h
  intro I w us _ hI hrel hlen
  match us, hlen, hrel with
  | [u1, u2], _, hrel =>
    simp only [RelVs, and_true] at hrel
    obtain ⟨r1, r2⟩ := hrel
    obtain ⟨b, rfl, rfl⟩ := relStr r1
    obtain ⟨b2, rfl, rfl⟩ := relStr r2
    have hsz := size_bytes (b := b) rfl
    have hsz2 := size_bytes (b := b2) rfl
    have hascii : ∀ (j : Nat) x, b2.data.toList[j]? = some x → x.toNat < 128 := by
      intro j x hx
      have hm : x.toNat ∈ bytesB b2 := List.mem_map.2 ⟨x, List.mem_of_getElem? hx, rfl⟩
      rw [hc.1] at hm
      simp only [digs, List.mem_cons, List.mem_nil_iff, or_false] at hm
      omega
    have hl2 : (bytesB b2).length = 10 := by rw [hc.1]; rfl
    have hcall := Any.strings_Trim_ascii lays_n160 (fun _ => by kernel_rfl) (by kernel_rfl) b b2 w (by omega) (by omega) hascii
    refine hcall.mono fun e w' hh => ?_
    obtain ⟨rfl, hbel⟩ := hh
    refine out_below hI hbel (strRel ?_)
    rw [mk_bytes, trimN_eq]
def parseV : List V → Option V
  | [.c (.d (.str s)), .c (.d (.int .i64 10)), .c (.d (.int .i64 32))] =>
    if s.length < 281474976710656 then
      if s.all isDig && !s.isEmpty then some (if numN 0 s ≤ 4294967295 then .tup [U64 (numN 0 s), .c (.d .nili)] else .tup [U64 4294967295, .c (.d .ifc)]) else none
    else none
  | _ => none
theorem parseV_ok {G : Nat → Option (List D)} (hr : G 6 = some [.ifc]) {vs : List V} {r : V} (h : parseV vs = some r) : Enters Tryz.prog 119 ∧ ValCall Tryz.prog G 119 vs r := by
  refine ⟨⟨Tryz.f119, by kernel_rfl, by kernel_rfl, by kernel_rfl⟩, ?_⟩
  unfold parseV at h
  split at h <;> try (cases h; done)
  rename_i s
  split at h <;> try (cases h; done)
  rename_i hlen1
  split at h <;> try (cases h; done)
  rename_i hc
  simp only [Bool.and_eq_true, Bool.not_eq_true', List.isEmpty_eq_false_iff] at hc
  simp only [Option.some.injEq] at h
  subst h
  intro I w us hG hI hrel hlen
  match us, hlen, hrel with
  | [u1, u2, u3], _, hrel =>
    simp only [RelVs, and_true] at hrel
    obtain ⟨r1, r2, r3⟩ := hrel
    obtain ⟨b, rfl, rfl⟩ := relStr r1
    obtain rfl := relInt r2
    obtain rfl := relInt r3
    have hsz := size_bytes (b := b) rfl
    have hne : b.data.toList ≠ [] := fun e => hc.2 (by simp [bytesB, e])
    have hp : Lib.parseUintB 32 b.data.toList = if numN 0 (bytesB b) ≤ 4294967295 then .ok (numN 0 (bytesB b)) else .range := by
      unfold Lib.parseUintB
      rw [if_neg hne]
      exact parseUintM_eq 4294967295 (by decide) b.data.toList 0 (by decide) hc.1
    by_cases hle : numN 0 (bytesB b) ≤ 4294967295
    · rw [if_pos hle] at hp ⊢
      have hcall := Any.strconv_ParseUint_10_at32_ok laysPu_n14 b (by omega) _ hp w
      refine hcall.mono fun e w' hh => ?_
      obtain ⟨rfl, hw⟩ := hh
      refine out_below hI ?_ ?_
      · rcases hw with rfl | rfl
        · exact Below.refl _ _
        · refine ⟨rfl, rfl, rfl, ?_, fun k hk => ?_⟩
          · rw [Lib.bytesWorld_size]; omega
          · exact Lib.bytesWorld_at_old w _ b k hk
      · rw [relV_tup]
        refine ⟨_, rfl, rfl, ?_⟩
        simp only [RelVs, and_true]
        exact ⟨intRel, by rw [relV_d]; simp only [RelD]⟩
    · rw [if_neg hle] at hp ⊢
      obtain ⟨arr, T, fr, h1, h2, h3⟩ := hG.at hr
      have hb := hI _ _ h1
      obtain ⟨v, hv, hrv⟩ := RelDs.iff.1 h3 0 _ rfl
      simp only [RelD] at hrv
      obtain ⟨te, pe, rfl⟩ := hrv
      have hcell : w.cell? ⟨(renMp.g 1), 0, none⟩ = some (.iface te pe) := by
        have e : renMp.g 1 = 6 := rfl
        rw [e]
        simp only [World.cell?, hb, Option.isSome_none, Bool.false_eq_true, if_false]
        rw [← Array.getElem?_toList]
        exact hv
      have hcall := Any.strconv_ParseUint_10_at32_range laysPu_n14 b (by omega) hp (.iface te pe) w hcell (.inr ⟨te, pe, rfl⟩)
      refine hcall.mono fun e w' hh => ?_
      obtain ⟨N, rfl, _, _, hbel⟩ := hh
      refine out_below hI hbel ?_
      rw [relV_tup]
      refine ⟨_, rfl, rfl, ?_⟩
      simp only [RelVs, and_true]
      exact ⟨intRel, by rw [relV_d]; simp only [RelD]; exact ⟨_, _, rfl⟩⟩
end Mini
end Go.Proofs.YtgjlofpfbhioaaaGreatDoor
namespace Go.Proofs.YtgjlofpfbhioaaaGreatDoor
namespace Mini
open Go Go.Shelf Go.Proofs Go.RowKit
def strsOf : List D → Option (List (List Nat))
  | [] => some []
  | .str s :: cs => (strsOf cs).map (s :: ·)
  | _ :: _ => none
def joinN (sep : List Nat) : List (List Nat) → List Nat
  | [] => []
  | [x] => x
  | x :: y :: xs => x ++ sep ++ joinN sep (y :: xs)
def joinV : List V → Option V
  | [.c (.d (.sl cs n)), .c (.d (.str sep))] => match strsOf cs with
    | some ss => if ss.length = n ∧ 0 < n ∧ n ≤ 1073741824 ∧ (joinN sep ss).length ≤ 1073741824 then some (.c (.d (.str (joinN sep ss)))) else none
    | none => none
  | _ => none
theorem strsOf_rel {I : Imm} : ∀ {cs : List D} {ss : List (List Nat)} {vs : List Value}, strsOf cs = some ss → RelDs I cs vs → ∃ bs : List ByteArray, bs.length = ss.length ∧ bs.map bytesB = ss ∧ ∀ (j : Nat) x, bs[j]? = some x → vs[j]? = some (.string x)
  | [], ss, vs, h, _ => by
    simp only [strsOf, Option.some.injEq] at h
    subst h
    exact ⟨[], rfl, rfl, by simp⟩
  | c :: cs, ss, [], h, hr => by simp only [RelDs] at hr
  | c :: cs, ss, v :: vs, h, hr => by
    simp only [RelDs] at hr
    cases c <;> simp only [strsOf] at h <;> try (cases h; done)
    rename_i s
    simp only [Option.map_eq_some_iff] at h
    obtain ⟨ss', h1, rfl⟩ := h
    obtain ⟨bs, h2, h3, h4⟩ := strsOf_rel h1 hr.2
    obtain ⟨r1, _⟩ := hr
    simp only [RelD] at r1
    obtain ⟨b, rfl, rfl⟩ := r1
    refine ⟨b :: bs, by simp [h2], by simp [h3], fun j x hx => ?_⟩
    cases j with
    | zero => simp only [List.getElem?_cons_zero, Option.some.injEq] at hx ⊢; rw [hx]
    | succ j => simp only [List.getElem?_cons_succ] at hx ⊢; exact h4 j x hx
theorem join_joinN (sep : ByteArray) : ∀ bs : List ByteArray, (Lib.join (bs.map (·.data.toList)) sep.data.toList).map UInt8.toNat = joinN (bytesB sep) (bs.map bytesB)
  | [] => rfl
  | [b] => by rw [List.map_cons, List.map_nil, Lib.join_one]; rfl
  | b :: c :: bs => by
    have ih := join_joinN sep (c :: bs)
    simp only [List.map_cons, Lib.join_cons, joinN] at ih ⊢
    rw [← ih]
    simp [Lib.joinTail]
theorem joinV_ok {G : Nat → Option (List D)} {vs : List V} {r : V} (h : joinV vs = some r) : Enters Tryz.prog 90 ∧ ValCall Tryz.prog G 90 vs r := by
  refine ⟨⟨Tryz.f90, by kernel_rfl, by kernel_rfl, by kernel_rfl⟩, ?_⟩
  unfold joinV at h
  split at h <;> try (cases h; done)
  rename_i cs n sep
  split at h <;> try (cases h; done)
  rename_i ss hss
  split at h <;> try (cases h; done)
  rename_i hc
  obtain ⟨c1, c2, c3, c4⟩ := hc
  simp only [Option.some.injEq] at h
  subst h
  intro I w us _ hI hrel hlen
  match us, hlen, hrel with
  | [u1, u2], _, hrel =>
    simp only [RelVs, relV_d, RelD] at hrel
    obtain ⟨⟨a, cap, rfl, hle, hrow⟩, ⟨sb, rfl, rfl⟩, _⟩ := hrel
    rcases hrow with rfl | ⟨B, o, arr, T, fr, rfl, hB, hr⟩
    · simp only [strsOf, Option.some.injEq] at hss
      subst hss
      simp at c1
      omega
    · obtain ⟨bs, h1, h2, h3⟩ := strsOf_rel hss hr
      have hb := hI B _ hB
      have hn : bs.length = n := by omega
      have hjoin := join_joinN sb bs
      rw [h2] at hjoin
      have hcells : ∀ (j : Nat) x, bs[j]? = some x → w.cell? ⟨B, o + j, none⟩ = some (.string x) := by
        intro j x hx
        have := h3 j x hx
        rw [List.getElem?_drop, Array.getElem?_toList] at this
        simp only [World.cell?, hb, Option.isSome_none, Bool.false_eq_true, if_false]
        exact this
      have hcall := Any.strings_Join lays_n156 extraNm B o cap bs sb w hcells (Array.getElem?_eq_some_iff.1 hb).1 (by omega) (by omega) (by
        have := congrArg List.length hjoin
        rw [List.length_map] at this
        have c5 : (joinN (bytesB sb) ss).length ≤ 1073741824 := c4
        omega)
      rw [hn] at hcall
      refine hcall.mono fun e' w' hh => ?_
      obtain ⟨rfl, hbel⟩ := hh
      refine out_below hI hbel (strRel ?_)
      rw [mk_bytes]
      exact hjoin
def pow10D : List D := Lib.pow10Tab.map (D.int .u64)
theorem row_ints {I : Imm} {k : IntKind} : ∀ {zs : List Int} {vs : List Value}, RelDs I (zs.map (D.int k)) vs → vs.length = zs.length → vs = zs.map (Value.int k)
  | [], [], _, _ => rfl
  | [], _ :: _, _, h => by simp at h
  | _ :: _, [], _, h => by simp at h
  | z :: zs, v :: vs, h, hl => by
    simp only [List.map_cons, RelDs, RelD] at h
    obtain ⟨rfl, h⟩ := h
    rw [List.map_cons, row_ints h (by simpa using hl)]
theorem tab_at {G : Nat → Option (List D)} {I : Imm} {w : World} (hG : GlobOk G I) (h2 : G 2 = some pow10D) (hI : ∀ B o, I B = some o → w.heap[B]? = some o) : Lib.TabIs Tryz.prog w "internal/strconv.uint64pow10" .u64 Lib.pow10Tab := by
  obtain ⟨arr, T, fr, k1, k2, k3⟩ := hG.at h2
  have hb := hI _ _ k1
  have hm : Tryz.prog.globalNamed "internal/strconv.uint64pow10" = some 2 := laysM_n284.m17
  have he := row_ints (zs := Lib.pow10Tab) k3 (by rw [Array.length_toList, k2]; simp [pow10D])
  unfold Lib.TabIs World.var?
  rw [hm]
  simp only [Option.bind_some, hb]
  congr 1
  apply Array.ext'
  rw [he]
theorem nDigits_eq : ∀ (f n : Nat), n < 10 ^ (f + 1) → Lib.nDigits n = (decF f n).length
  | 0, n, h => by rw [Lib.nDigits_small (by simpa using h)]; rfl
  | f + 1, n, h => by
    simp only [decF]
    split
    · rename_i hn; rw [Lib.nDigits_small hn]; rfl
    · rename_i hn
      rw [Lib.nDigits_big hn, nDigits_eq f (n / 10) (by rw [Nat.pow_succ] at h; omega)]
      simp
def ndV : List V → Option V
  | [.c (.d (.int .u64 u))] => if 1 ≤ u ∧ u < 18446744073709551616 then some (I64 (Int.ofNat (decN u.toNat).length)) else none
  | _ => none
theorem ndV_ok {G : Nat → Option (List D)} (h2 : G 2 = some pow10D) {vs : List V} {r : V} (h : ndV vs = some r) : Enters Tryz.prog 137 ∧ ValCall Tryz.prog G 137 vs r := by
  refine ⟨⟨Tryz.f137, by kernel_rfl, by kernel_rfl, by kernel_rfl⟩, ?_⟩
  unfold ndV at h
  split at h <;> try (cases h; done)
  rename_i u
  split at h <;> try (cases h; done)
  rename_i hc
  simp only [Option.some.injEq] at h
  subst h
  intro I w us hG hI hrel hlen
  match us, hlen, hrel with
  | [u1], _, hrel =>
    simp only [RelVs, and_true] at hrel
    obtain rfl := relInt hrel
    obtain ⟨n, rfl⟩ := Int.eq_ofNat_of_zero_le (show 0 ≤ u by omega)
    have hcall := Any.internal_strconv_numDigits laysM_n284 n (by omega) (by omega) w (tab_at hG h2 hI)
    refine hcall.mono fun e w' hh => ?_
    obtain ⟨rfl, rfl⟩ := hh
    refine out_below hI (Below.refl _ _) ?_
    rw [nDigits_eq 20 n (by have : (10 : Nat) ^ (20 + 1) = 1000000000000000000000 := by decide
                            omega)]
    exact intRel
def itoaN (n : Int) : List Nat := if n < 0 then 45 :: decN n.natAbs else decN n.toNat
def itoaV : List V → Option V
  | [.c (.d (.int .i64 n))] => if -9223372036854775808 ≤ n ∧ n ≤ 9223372036854775807 then some (Str (itoaN n)) else none
  | _ => none
theorem itoaV_ok {G : Nat → Option (List D)} (h2 : G 2 = some pow10D) {vs : List V} {r : V} (h : itoaV vs = some r) : Enters Tryz.prog 73 ∧ ValCall Tryz.prog G 73 vs r := by
  refine ⟨⟨Tryz.f73, by kernel_rfl, by kernel_rfl, by kernel_rfl⟩, ?_⟩
  unfold itoaV at h
  split at h <;> try (cases h; done)
  rename_i n
  split at h <;> try (cases h; done)
  rename_i hc
  simp only [Option.some.injEq] at h
  subst h
  intro I w us hG hI hrel hlen
  match us, hlen, hrel with
  | [u1], _, hrel =>
    simp only [RelVs, and_true] at hrel
    obtain rfl := relInt hrel
    have hcall := Any.strconv_Itoa laysM_n171 n hc.1 hc.2 w (tab_at hG h2 hI)
    refine hcall.mono fun e w' hh => ?_
    obtain ⟨rfl, k, os, rfl⟩ := hh
    refine out_below hI (below_grow _ _ _) (strRel ?_)
    rw [mk_bytes]
    have hp : (10 : Nat) ^ (20 + 1) = 1000000000000000000000 := by decide
    unfold Lib.itoa itoaN decN
    split
    · rw [List.map_cons, decF_eq 20 _ (by omega)]; rfl
    · rw [decF_eq 20 _ (by omega)]
end Mini
end Go.Proofs.YtgjlofpfbhioaaaGreatDoor
namespace Go.Proofs.YtgjlofpfbhioaaaGreatDoor
namespace Mini
open Go Go.Shelf Go.Proofs Go.RowKit Go.Sort
section
variable {P : Program} {M : MM} {H : Heap} {w w' : World}
theorem row_write (hs : Sat P M H 0 w) {id B b0 bs g off : Nat} {cs new : List C} {us : List Value} (ho : ob? H id = some (.cells cs g false)) (hl : M.loc id = some (some (B, b0, bs)))
    (hr : RelCs M new us) (hn : new.length = us.length) (hoff : off ≤ cs.length) (hfit : b0 + off + us.length ≤ bs) (h1 : ∀ u ∈ us, u.oneCell' = true) {arr arr' : Array Value} {T : TypeId} {fr : Nat × Nat} (e1 : w.heap[B]? = some (.cells arr T fr))
    (r2 : w'.heap[B]? = some (.cells arr' T fr)) (r3 : arr'.toList = spl arr.toList (b0 + off) us) (r5 : ∀ b : Nat, b ≠ B → w'.heap[b]? = w.heap[b]?) (rs : w'.heap.size = w.heap.size) (r7 : w'.os = w.os) (r8 : w'.tape = w.tape) (r9 : w'.output = w.output) :
    ∃ M', Sat P M' (setOb H id (.cells (splice cs off new) g false)) 0 w' ∧ Fr M M' w w' := by
  obtain ⟨hg, arr0, T0, fr0, e1', e2, e3, e4, e5, e6⟩ := hs.open ho hl
  rw [e1] at e1'
  cases e1'
  have hsz : arr'.size = arr.size := by
    rw [← Array.length_toList, ← Array.length_toList, r3]
    exact spl_length (by simp only [Array.length_toList]; omega)
  obtain ⟨s1, s2⟩ := Sat.write (w' := w') (B1 := B) (b1 := b0) (bs1 := bs) (g1 := g) (cs' := splice cs off new) hs ho hl hg (.inl ⟨rfl, rfl, rfl, rfl⟩) r2 (.inl rfl) (fun b _ hb => r5 b hb) (by omega) r7 r8 r9 (by omega)
    (by rw [splice_len2 hoff]; omega) (by rw [r3, spl_drop (by simp only [Array.length_toList]; omega)]; exact RelCs.splice2 e4 hr hn hoff) e5 (by rw [r3]; exact spl_one e6 h1) (tyKeep e1 r2 (fun b hb => r5 b hb)) (fun hK => by
      obtain ⟨q1, q2⟩ := hs.bty id B b0 bs hl (by rw [hg]; exact hK)
      obtain ⟨a, f, hh⟩ := hs.ty _ _ q1
      rw [e1] at hh
      cases hh
      exact ⟨rfl, q2⟩)
  exact ⟨_, s1, s2⟩
theorem mapBlock_at {B : Nat} {f : Array Value → Array Value} {arr : Array Value} {T : TypeId} {fr : Nat × Nat} (h : w.heap[B]? = some (.cells arr T fr)) : (mapBlock w B f).heap[B]? = some (.cells (f arr) T fr) := by
  simp [mapBlock, Array.getElem?_modify, h, onCells]
theorem mapBlock_ne {B k : Nat} {f : Array Value → Array Value} (h : k ≠ B) : (mapBlock w B f).heap[k]? = w.heap[k]? := by
  simp [mapBlock, Array.getElem?_modify, Ne.symm h]
theorem mapBlock_size {B : Nat} {f : Array Value → Array Value} : (mapBlock w B f).heap.size = w.heap.size := by simp [mapBlock]
end
def ccV : List V → Heap → Option (V × Heap)
  | [.c (.ptr id 0 0)], H => match ob? H id with
    | some (.cells (.bt id' t :: _) 0 false) => if id' = id ∧ t = 108 then some (.tup [], H) else none
    | _ => none
  | _, _ => none
theorem tupRel {M : MM} : RelV M (.tup []) (.tuple #[]) := by
  rw [relV_tup]; exact ⟨_, rfl, rfl, RelVs.nil _ _⟩
def byteX : C → Option Nat
  | .d (.int .u8 n) => if 0 ≤ n ∧ n < 256 then some n.toNat else none
  | _ => none
def bsV : List V → Heap → Option (V × Heap)
  | [.c (.ptr id 0 0)], H => match ob? H id with
    | some (.cells [.bt id' _, c1] 0 false) => if id' = id then match c1 with
        | .d .nils => some (Str [], H)
        | .os id2 g2 0 len 1 none => if genK ≤ g2 ∧ 0 < len ∧ len ≤ 1073741824 then match ob? H id2 with
          | some (.cells cs g3 false) => if g3 = g2 ∧ len ≤ cs.length then match mapO byteX (cs.take len) with
              | some s => some (Str s, setOb H id2 .dead)
              | none => none
            else none
          | _ => none
        else none
        | _ => none
      else none
    | _ => none
  | _, _ => none
theorem bytesX_cells {M : MM} : ∀ {cs : List C} {s : List Nat} {vs : List Value}, mapO byteX cs = some s → RelCs M cs vs → ∃ l : List UInt8, List.map UInt8.toNat l = s ∧ l.length = cs.length ∧ ∀ (j : Nat) x, l[j]? = some x → vs[j]? = some (.int .u8 x.toNat)
  | [], s, vs, h, _ => by
    simp only [mapO, Option.some.injEq] at h
    subst h
    exact ⟨[], rfl, rfl, by simp⟩
  | c :: cs, s, [], h, hr => by simp only [RelCs] at hr
  | c :: cs, s, v :: vs, h, hr => by
    simp only [mapO] at h
    split at h <;> try (cases h; done)
    rename_i y hy
    split at h <;> try (cases h; done)
    rename_i ys hys
    simp only [Option.some.injEq] at h
    subst h
    simp only [RelCs] at hr
    obtain ⟨l, h1, h2, h3⟩ := bytesX_cells (s := ys) hys hr.2
    unfold byteX at hy
    split at hy <;> try (cases hy; done)
    rename_i n
    split at hy <;> try (cases hy; done)
    rename_i hn
    simp only [Option.some.injEq] at hy
    subst hy
    have hv := hr.1
    simp only [RelC, RelD] at hv
    subst hv
    have e : (UInt8.ofNat n.toNat).toNat = n.toNat := by rw [UInt8.toNat_ofNat', Nat.mod_eq_of_lt (by omega)]
    refine ⟨UInt8.ofNat n.toNat :: l, by rw [List.map_cons, h1, e], by simp [h2], fun j x hx => ?_⟩
    cases j with
    | zero =>
      simp only [List.getElem?_cons_zero, Option.some.injEq] at hx ⊢
      subst hx
      rw [e]
      congr 1
      omega
    | succ j => simp only [List.getElem?_cons_succ] at hx ⊢; exact h3 j x hx
def fbV : List V → Heap → Option (V × Heap)
  | [.c (.os id g off len 1 _), .c (.d (.int .u64 u))], H => match ob? H id with
    | some (.cells cs g' false) => if g' = g ∧ off + len ≤ cs.length ∧ 0 ≤ u ∧ u < 18446744073709551616 ∧ (decN u.toNat).length = len ∧ 0 < len ∧ len < 1000 ∧ (mapO byteX ((cs.drop off).take len)).isSome then
        some (.tup [], setOb H id (.cells (splice cs off (ofBytes (decN u.toNat))) g false)) else none
    | _ => none
  | _, _ => none
theorem putCells_spl (enc : UInt8 → Value) (off : Nat) (d : Array UInt8) (c : Array Value) (h : off + d.size ≤ c.size) : (putCells enc off d c).toList = spl c.toList off (d.toList.map enc) := by
  apply List.ext_getElem?
  intro k
  unfold putCells spl
  rw [Array.toList_mapIdx, List.getElem?_mapIdx]
  have hc : c.toList.length = c.size := Array.length_toList
  have hd : (d.toList.map enc).length = d.size := by simp
  rcases Nat.lt_or_ge k off with h1 | h1
  · rw [List.append_assoc, List.getElem?_append_left (by rw [List.length_take]; omega), List.getElem?_take, if_pos h1]
    cases c.toList[k]? with
    | none => rfl
    | some x => simp only [Option.map_some]; rw [if_neg (by omega)]
  · rcases Nat.lt_or_ge k (off + d.size) with h2 | h2
    · rw [List.append_assoc, List.getElem?_append_right (by rw [List.length_take]; omega), List.length_take, Nat.min_eq_left (by omega), List.getElem?_append_left (by omega)]
      have hk : k < c.toList.length := by omega
      rw [List.getElem?_eq_getElem hk]
      simp only [Option.map_some]
      rw [if_pos ⟨h1, h2⟩, List.getElem?_map, Array.getElem?_toList, Array.getElem?_eq_getElem (by omega)]
      simp only [Option.map_some]
      rw [getElem!_pos d (k - off) (by omega)]
    · rw [List.getElem?_append_right (by simp only [List.length_append, List.length_take]; omega), List.getElem?_drop]
      simp only [List.length_append, List.length_take, hd]
      rw [show off + d.size + (k - (min off c.toList.length + d.size)) = k by omega]
      cases c.toList[k]? with
      | none => rfl
      | some x => simp only [Option.map_some]; rw [if_neg (by omega)]
theorem decN_bound : ∀ (f n : Nat), n < 10 ^ (f + 1) → n < 10 ^ (decF f n).length
  | 0, n, h => by simpa [decF] using h
  | f + 1, n, h => by
    simp only [decF]
    split
    · rename_i hn; simpa using hn
    · have := decN_bound f (n / 10) (by rw [Nat.pow_succ] at h; omega)
      rw [List.length_append, List.length_cons, List.length_nil, Nat.zero_add, Nat.pow_succ]
      omega
theorem fbV_ok {G : Nat → Option (List D)} {args : List V} {H H' : Heap} {v : V} (h : fbV args H = some (v, H')) : Enters Tryz.prog 138 ∧ HeapPrim Tryz.prog G 138 args H v H' := by
  refine ⟨⟨Tryz.f138, by kernel_rfl, by kernel_rfl, by kernel_rfl⟩, ?_⟩
  unfold fbV at h
  split at h <;> try (cases h; done)
  rename_i id g off len cap u
  split at h <;> try (cases h; done)
  rename_i cs g' ho
  split at h <;> try (cases h; done)
  rename_i hc
  obtain ⟨rfl, k1, k2, k3, k4, k5, k6, k7⟩ := hc
  simp only [Option.some.injEq, Prod.mk.injEq] at h
  obtain ⟨rfl, rfl⟩ := h
  obtain ⟨n, rfl⟩ := Int.eq_ofNat_of_zero_le k2
  have hun : ((n : Nat) : Int).toNat = n := rfl
  rw [hun] at k4 ⊢
  have hn : n < 18446744073709551616 := by omega
  obtain ⟨s0, hs0⟩ := Option.isSome_iff_exists.1 k7
  intro M w us hG hrel hlen hs
  match us, hlen, hrel with
  | [u1, u2], _, hrel =>
    simp only [RelVs, and_true] at hrel
    obtain ⟨r1, r2⟩ := hrel
    obtain rfl := relInt r2
    rw [relV_c] at r1
    obtain ⟨ad, cp, rfl, hlc, _, hcase⟩ := live_os hs (Sub.refl H) ho r1
    rcases hcase with ⟨_, _, rfl, _⟩ | ⟨B, b0, bs, fz', hl, ha, hbs, _⟩
    · omega
    · rcases ha with ha | rfl
      · omega
      · obtain ⟨hg, arr, T, fr, f1, f2, f3, f4, f5, f6⟩ := hs.open ho hl
        have hrow := (f4.drop off).take' len
        rw [List.drop_drop] at hrow
        obtain ⟨l, q1, q2, q3⟩ := bytesX_cells hs0 hrow
        have hll : l.length = len := by rw [q2, List.length_take, List.length_drop]; omega
        have hH : Go.Sort.Holds (fun (b : UInt8) => Value.int .u8 (b.toNat : Int)) w B (b0 + off) l.toArray := by
          intro j hj
          have hj' : j < l.length := by simpa using hj
          have hx := q3 j l[j] (List.getElem?_eq_getElem hj')
          rw [List.getElem?_take, if_pos (by omega), List.getElem?_drop, Array.getElem?_toList] at hx
          refine ⟨?_, ?_⟩
          · rw [Lib.cell_of_heap f1, hx, getElem!_pos l.toArray j (by simpa using hj')]
            simp
          · have := f5 (b0 + off + j) (by omega)
            simp only [World.frozen?, f1]
            simp only [Bool.and_eq_false_iff, decide_eq_false_iff_not]
            omega
        have hp : (10 : Nat) ^ (20 + 1) = 1000000000000000000000 := by decide
        have hb := decN_bound 20 n (by omega)
        have hcall := Any.internal_strconv_formatBase10 lays_n285 B (b0 + off) cp n l.toArray w hH (by
          have : l.toArray.size = (decF 20 n).length := by
            have e : (decN n).length = (decF 20 n).length := rfl
            simp only [List.size_toArray]
            omega
          rw [this]; exact hb) hn (by simp only [List.size_toArray]; omega)
        have hsz : l.toArray.size = len := by simp [hll]
        rw [hsz] at hcall
        refine hcall.mono fun e w' hh => ?_
        obtain ⟨rfl, q, v', dk, rfl, hI⟩ := hh
        have hdk : dk.toList = Lib.decDigits n := by
          have hnd : Lib.nDigits n = len := by rw [nDigits_eq 20 n (by omega)]; exact k4
          have hds : dk.size = len := hI.size
          rw [Lib.decDigits_eq, hnd]
          apply List.ext_getElem?
          intro t
          rw [List.getElem?_map, Array.getElem?_toList]
          rcases Nat.lt_or_ge t len with ht | ht
          · rw [List.getElem?_range ht, Array.getElem?_eq_getElem (by omega)]
            simp only [Option.map_some]
            have := hI.done t (Nat.zero_le _) ht
            rw [getElem!_pos dk t (by omega)] at this
            rw [this]
          · rw [Array.getElem?_eq_none (by omega), List.getElem?_eq_none (by simpa using ht)]
            rfl
        have hds : dk.size = len := hI.size
        have hnew : RelCs M (ofBytes (decN n)) (dk.toList.map fun (b : UInt8) => Value.int .u8 (b.toNat : Int)) := by
          have e1 : decN n = List.map UInt8.toNat dk.toList := by rw [hdk, decF_eq 20 n (by omega)]; rfl
          rw [e1]
          have key : ∀ bs : List UInt8, RelCs M (ofBytes (List.map UInt8.toNat bs)) (bs.map fun (b : UInt8) => Value.int .u8 (b.toNat : Int)) := by
            intro bs
            induction bs with
            | nil => exact RelCs.nil _ _
            | cons b bs ih =>
              simp only [ofBytes, List.map_cons, RelCs, RelC, RelD]
              exact ⟨rfl, ih⟩
          exact key _
        have hlenN : (ofBytes (decN n)).length = (dk.toList.map fun (b : UInt8) => Value.int .u8 (b.toNat : Int)).length := by
          simp only [ofBytes, List.length_map, Array.length_toList]; omega
        obtain ⟨M', s1, s2⟩ := row_write (w' := (putRow (fun (b : UInt8) => Value.int .u8 (b.toNat : Int)) w B (b0 + off) dk).drewN q) (off := off) hs ho hl hnew hlenN (by omega) (by simp only [List.length_map, Array.length_toList]; omega) (by
            intro x hx
            simp only [List.mem_map] at hx
            obtain ⟨b, _, rfl⟩ := hx
            rfl) f1 (mapBlock_at (w := w) f1) (putCells_spl _ _ _ _ (by omega)) (fun b hb => mapBlock_ne (w := w) hb) (mapBlock_size (w := w)) rfl rfl rfl
        exact ⟨_, M', rfl, tupRel, s1, s2⟩
end Mini
end Go.Proofs.YtgjlofpfbhioaaaGreatDoor
namespace Go.Proofs.YtgjlofpfbhioaaaGreatDoor
namespace Mini
open Go
def glob0 (m : Int) (b : Nat) : Option (List D) :=
  match b with
  | 1 => some [.int .i64 m]
  | 2 => some pow10D
  | 6 => some [.ifc]
  | _ => none
def prim0 (f : FuncId) (vs : List V) : Option V :=
  match f with
  | 73 => itoaV vs
  | 90 => joinV vs
  | 92 => splitV vs
  | 100 => lixV vs
  | 119 => parseV vs
  | 121 => ixbV vs
  | 137 => ndV vs
  | 147 => indexV vs
  | 151 => trimV vs
  | _ => none
def hprim0 (f : FuncId) (vs : List V) (H : Heap) : Option (V × Heap) :=
  match f with
  | 138 => fbV vs H
  | _ => none
theorem prim0_ok {m : Int} {f : FuncId} {vs : List V} {r : V} (h : prim0 f vs = some r) : Enters Tryz.prog f ∧ ValCall Tryz.prog (glob0 m) f vs r := by
  unfold prim0 at h
  split at h
  · exact itoaV_ok rfl h
  · exact joinV_ok h
  · exact splitV_ok (m := m) rfl h
  · exact lixV_ok h
  · exact parseV_ok rfl h
  · exact ixbV_ok h
  · exact ndV_ok rfl h
  · exact indexV_ok h
  · exact trimV_ok h
  · cases h
theorem hprim0_ok {m : Int} {f : FuncId} {vs : List V} {H H' : Heap} {r : V} (h : hprim0 f vs H = some (r, H')) : Enters Tryz.prog f ∧ HeapPrim Tryz.prog (glob0 m) f vs H r H' := by
  unfold hprim0 at h
  split at h
  · exact fbV_ok h
  · cases h
def XA (m : Int) : Ctx := ⟨fnsA, prim0, hprim0, fun _ _ _ => none, glob0 m⟩
end Mini
end Go.Proofs.YtgjlofpfbhioaaaGreatDoor
