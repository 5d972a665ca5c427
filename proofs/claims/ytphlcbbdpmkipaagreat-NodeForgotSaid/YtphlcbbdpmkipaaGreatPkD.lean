/- Lemmas of the proof: PkD. -/
import Derived.Shelf.SlIter.Nil
import Derived.Shelf.SortM.Plain
import Derived.Shelf.SortM.SortNone
import Derived.Shelf.Strings.Cut
import Derived.Shelf.SortG.Plain
import Derived.Shelf.SortG.SortNone
import Derived.Shelf.SlicesE.Clone
import Derived.Shelf.Bytes.SlClone
import Derived.Shelf.Bytes.SlEqualAll
import Derived.Ground.SlbCloneProg
import Derived.Ground.GgzProg
import Derived.Ground.SlgmProg
import Derived.Ground.SlgnProg
import Derived.Ground.NamesProg
import Derived.Test.YtphlcbbdpmkipaaGreatProg
import Derived.Test.YtphlcbbdpmkipaaGreatPkA
import Derived.Lib.CutLaws
import Derived.Lib.IndexBytes
import Derived.Maps.OwnSet
import Derived.Maps.StringElems
import Derived.Sort.KeysCollected
import Derived.Test.YtphlcbbdpmkipaaGreatPkB
import Derived.WalkSmall
import Derived.WalkSpells
import Derived.Deep.Draws
import Derived.BigQuiet
import Derived.Lib.AppendStr
import Derived.Laws.BitsAllLaws
/-
  The library's contracts laid at this program by the kit's lay-plain (numbers of ONE seat: YtphlcbbdpmkipaaGreat).
-/
namespace Go.Proofs
open Go.Shelf
def Tryz.laysKeys_ren : Go.Shelf.Ren := ⟨fun | 7 => 199 | 10 => 227 | n => n, fun | 23 => 149 | 26 => 9 | 3 => 9 | 28 => 239 | 0 => 0 | 27 => 238 | 33 => 257 | 4 => 4 | n => n, fun | n => n⟩
theorem Tryz.laysKeys : Go.Proofs.SlLaysZ.n7 Tryz.prog Tryz.laysKeys_ren := {
  mixed := by kernel_rfl
  f7 := ⟨Tryz.f199.name, by decide, Tryz.func199.trans (congrArg some (by kernel_rfl))⟩
  f10 := ⟨Tryz.f227.name, by decide, Tryz.func227.trans (congrArg some (by kernel_rfl))⟩
  t0 := Tryz.underlying0
  a0 := Tryz.isAgg0
  z0 := Tryz.sizeOf0
  v0 := Tryz.zeroValue0
  t4 := Tryz.underlying4
  a4 := Tryz.isAgg4
  z4 := Tryz.sizeOf4
  v4 := Tryz.zeroValue4
  t23 := Tryz.underlying149
  a23 := Tryz.isAgg149
  z23 := Tryz.sizeOf149
  v23 := Tryz.zeroValue149
  t26 := Tryz.underlying9
  a26 := Tryz.isAgg9
  z26 := Tryz.sizeOf9
  v26 := Tryz.zeroValue9
  t27 := Tryz.underlying238
  a27 := Tryz.isAgg238
  z27 := Tryz.sizeOf238
  v27 := Tryz.zeroValue238
  t28 := Tryz.underlying239
  a28 := Tryz.isAgg239
  z28 := Tryz.sizeOf239
  v28 := Tryz.zeroValue239
  t33 := Tryz.underlying257
  a33 := Tryz.isAgg257
  z33 := Tryz.sizeOf257
  v33 := Tryz.zeroValue257 }
def Tryz.laysSorted_ren : Go.Shelf.Ren := ⟨fun | 6 => 198 | 8 => 225 | 9 => 226 | 11 => 237 | 13 => 239 | 12 => 238 | 23 => 253 | 24 => 254 | 14 => 244 | 15 => 245 | 16 => 246 | 17 => 247 | 18 => 248 | 19 => 249 | 20 => 250 | 21 => 251 | 22 => 252 | 25 => 257 | 26 => 258 | 27 => 259 | 28 => 260 | 29 => 261 | 30 => 262 | 31 => 276 | n => n, fun | 26 => 9 | 28 => 239 | 24 => 197 | 0 => 0 | 3 => 3 | 37 => 49 | 48 => 134 | 50 => 193 | 4 => 4 | 40 => 275 | 39 => 274 | 45 => 280 | 5 => 5 | 9 => 9 | 51 => 285 | 55 => 289 | 57 => 298 | 58 => 299 | 33 => 257 | n => n, fun | n => n⟩
theorem Tryz.laysSorted : Go.Proofs.SlLaysZ.n6 Tryz.prog Tryz.laysSorted_ren := {
  mixed := by kernel_rfl
  f6 := ⟨Tryz.f198.name, by decide, Tryz.func198.trans (congrArg some (by kernel_rfl))⟩
  f8 := ⟨Tryz.f225.name, by decide, Tryz.func225.trans (congrArg some (by kernel_rfl))⟩
  f11 := ⟨Tryz.f237.name, by decide, Tryz.func237.trans (congrArg some (by kernel_rfl))⟩
  t0 := Tryz.underlying0
  a0 := Tryz.isAgg0
  z0 := Tryz.sizeOf0
  v0 := Tryz.zeroValue0
  t24 := Tryz.underlying197
  a24 := Tryz.isAgg197
  z24 := Tryz.sizeOf197
  v24 := Tryz.zeroValue197
  t26 := Tryz.underlying9
  a26 := Tryz.isAgg9
  z26 := Tryz.sizeOf9
  v26 := Tryz.zeroValue9
  t28 := Tryz.underlying239
  a28 := Tryz.isAgg239
  z28 := Tryz.sizeOf239
  v28 := Tryz.zeroValue239
  i26 := by kernel_rfl }
def Tryz.laysSortS_ren : Go.Shelf.Ren := ⟨fun | 6 => 226 | 8 => 239 | 9 => 238 | 19 => 253 | 20 => 254 | 21 => 244 | 22 => 245 | 23 => 246 | 24 => 247 | 25 => 248 | 26 => 249 | 27 => 250 | 28 => 251 | 29 => 252 | 36 => 257 | 31 => 258 | 32 => 259 | 37 => 260 | 38 => 261 | 39 => 262 | 41 => 276 | n => n, fun | 27 => 197 | 29 => 9 | 3 => 3 | 32 => 49 | 26 => 197 | 0 => 0 | 44 => 134 | 46 => 193 | 4 => 4 | 36 => 275 | 35 => 274 | 41 => 280 | 5 => 5 | 9 => 9 | 53 => 285 | 57 => 289 | 63 => 298 | 64 => 299 | n => n, fun | n => n⟩
theorem Tryz.laysSortS : Go.Proofs.SlLaysM.n6 Tryz.prog Tryz.laysSortS_ren := {
  mixed := by kernel_rfl
  f6 := ⟨Tryz.f226.name, by decide, Tryz.func226.trans (congrArg some (by kernel_rfl))⟩
  f8 := Tryz.func239.trans (congrArg some (by kernel_rfl))
  f9 := ⟨Tryz.f238.name, by decide, Tryz.func238.trans (congrArg some (by kernel_rfl))⟩
  f19 := Tryz.func253.trans (congrArg some (by kernel_rfl))
  f20 := Tryz.func254.trans (congrArg some (by kernel_rfl))
  f21 := ⟨Tryz.f244.name, by decide, Tryz.func244.trans (congrArg some (by kernel_rfl))⟩
  f22 := ⟨Tryz.f245.name, by decide, Tryz.func245.trans (congrArg some (by kernel_rfl))⟩
  f23 := ⟨Tryz.f246.name, by decide, Tryz.func246.trans (congrArg some (by kernel_rfl))⟩
  f24 := ⟨Tryz.f247.name, by decide, Tryz.func247.trans (congrArg some (by kernel_rfl))⟩
  f25 := ⟨Tryz.f248.name, by decide, Tryz.func248.trans (congrArg some (by kernel_rfl))⟩
  f26 := ⟨Tryz.f249.name, by decide, Tryz.func249.trans (congrArg some (by kernel_rfl))⟩
  f27 := ⟨Tryz.f250.name, by decide, Tryz.func250.trans (congrArg some (by kernel_rfl))⟩
  f28 := ⟨Tryz.f251.name, by decide, Tryz.func251.trans (congrArg some (by kernel_rfl))⟩
  f29 := ⟨Tryz.f252.name, by decide, Tryz.func252.trans (congrArg some (by kernel_rfl))⟩
  f31 := Tryz.func258.trans (congrArg some (by kernel_rfl))
  f32 := Tryz.func259.trans (congrArg some (by kernel_rfl))
  f36 := ⟨Tryz.f257.name, by decide, Tryz.func257.trans (congrArg some (by kernel_rfl))⟩
  f37 := ⟨Tryz.f260.name, by decide, Tryz.func260.trans (congrArg some (by kernel_rfl))⟩
  f38 := ⟨Tryz.f261.name, by decide, Tryz.func261.trans (congrArg some (by kernel_rfl))⟩
  f39 := ⟨Tryz.f262.name, by decide, Tryz.func262.trans (congrArg some (by kernel_rfl))⟩
  f41 := ⟨Tryz.f276.name, by decide, Tryz.func276.trans (congrArg some (by kernel_rfl))⟩
  t0 := Tryz.underlying0
  a0 := Tryz.isAgg0
  z0 := Tryz.sizeOf0
  v0 := Tryz.zeroValue0
  t3 := Tryz.underlying3
  a3 := Tryz.isAgg3
  z3 := Tryz.sizeOf3
  v3 := Tryz.zeroValue3
  t4 := Tryz.underlying4
  a4 := Tryz.isAgg4
  z4 := Tryz.sizeOf4
  v4 := Tryz.zeroValue4
  t5 := Tryz.underlying5
  a5 := Tryz.isAgg5
  z5 := Tryz.sizeOf5
  v5 := Tryz.zeroValue5
  t9 := Tryz.underlying9
  a9 := Tryz.isAgg9
  z9 := Tryz.sizeOf9
  v9 := Tryz.zeroValue9
  t26 := Tryz.underlying197
  a26 := Tryz.isAgg197
  z26 := Tryz.sizeOf197
  v26 := Tryz.zeroValue197
  t27 := Tryz.underlying197
  a27 := Tryz.isAgg197
  z27 := Tryz.sizeOf197
  v27 := Tryz.zeroValue197
  t29 := Tryz.underlying9
  a29 := Tryz.isAgg9
  z29 := Tryz.sizeOf9
  v29 := Tryz.zeroValue9
  t32 := Tryz.underlying49
  a32 := Tryz.isAgg49
  z32 := Tryz.sizeOf49
  v32 := Tryz.zeroValue49
  t35 := Tryz.underlying274
  a35 := Tryz.isAgg274
  z35 := Tryz.sizeOf274
  v35 := Tryz.zeroValue274
  t36 := Tryz.underlying275
  a36 := Tryz.isAgg275
  z36 := Tryz.sizeOf275
  v36 := Tryz.zeroValue275
  t41 := Tryz.underlying280
  a41 := Tryz.isAgg280
  z41 := Tryz.sizeOf280
  v41 := Tryz.zeroValue280
  t44 := Tryz.underlying134
  a44 := Tryz.isAgg134
  z44 := Tryz.sizeOf134
  v44 := Tryz.zeroValue134
  t46 := Tryz.underlying193
  a46 := Tryz.isAgg193
  z46 := Tryz.sizeOf193
  v46 := Tryz.zeroValue193
  t53 := Tryz.underlying285
  a53 := Tryz.isAgg285
  z53 := Tryz.sizeOf285
  v53 := Tryz.zeroValue285
  t57 := Tryz.underlying289
  a57 := Tryz.isAgg289
  z57 := Tryz.sizeOf289
  v57 := Tryz.zeroValue289
  t63 := Tryz.underlying298
  a63 := Tryz.isAgg298
  z63 := Tryz.sizeOf298
  v63 := Tryz.zeroValue298
  t64 := Tryz.underlying299
  a64 := Tryz.isAgg299
  z64 := Tryz.sizeOf299
  v64 := Tryz.zeroValue299 }
def Tryz.laysCut_ren : Go.Shelf.Ren := ⟨fun | 145 => 232 | 220 => 241 | 219 => 255 | 217 => 263 | 225 => 264 | 224 => 265 | 267 => 266 | 266 => 277 | 314 => 278 | n => n, fun | 9 => 9 | 4 => 4 | 59 => 232 | 3 => 3 | 5 => 5 | 46 => 49 | 146 => 301 | 51 => 134 | n => n, fun | 1 => 0 | n => n⟩
theorem Tryz.laysCut : Go.Proofs.Lays.n145 Tryz.prog Tryz.laysCut_ren := {
  mixed := by kernel_rfl
  f145 := Tryz.func232.trans (congrArg some (by kernel_rfl))
  f217 := Tryz.func263.trans (congrArg some (by kernel_rfl))
  f219 := Tryz.func255.trans (congrArg some (by kernel_rfl))
  f220 := Tryz.func241.trans (congrArg some (by kernel_rfl))
  f224 := Tryz.func265.trans (congrArg some (by kernel_rfl))
  f225 := Tryz.func264.trans (congrArg some (by kernel_rfl))
  f266 := Tryz.func277.trans (congrArg some (by kernel_rfl))
  f267 := Tryz.func266.trans (congrArg some (by kernel_rfl))
  f314 := Tryz.func278.trans (congrArg some (by kernel_rfl))
  t3 := Tryz.underlying3
  a3 := Tryz.isAgg3
  z3 := Tryz.sizeOf3
  v3 := Tryz.zeroValue3
  t4 := Tryz.underlying4
  a4 := Tryz.isAgg4
  z4 := Tryz.sizeOf4
  v4 := Tryz.zeroValue4
  t5 := Tryz.underlying5
  a5 := Tryz.isAgg5
  z5 := Tryz.sizeOf5
  v5 := Tryz.zeroValue5
  t9 := Tryz.underlying9
  a9 := Tryz.isAgg9
  z9 := Tryz.sizeOf9
  v9 := Tryz.zeroValue9
  t46 := Tryz.underlying49
  a46 := Tryz.isAgg49
  z46 := Tryz.sizeOf49
  v46 := Tryz.zeroValue49
  t51 := Tryz.underlying134
  a51 := Tryz.isAgg134
  z51 := Tryz.sizeOf134
  v51 := Tryz.zeroValue134
  t59 := Tryz.underlying232
  a59 := Tryz.isAgg232
  z59 := Tryz.sizeOf232
  v59 := Tryz.zeroValue232
  t146 := Tryz.underlying301
  a146 := Tryz.isAgg301
  z146 := Tryz.sizeOf301
  v146 := Tryz.zeroValue301
  g1 := by kernel_rfl }
def Tryz.laysClone_ren : Go.Shelf.Ren := ⟨fun | 41 => 242 | n => n, fun | 22 => 22 | 23 => 2 | 4 => 4 | n => n, fun | n => n⟩
theorem Tryz.laysClone : Go.Proofs.SlLaysE0.n41 Tryz.prog Tryz.laysClone_ren := {
  mixed := by kernel_rfl
  f41 := ⟨Tryz.f242.name, by decide, Tryz.func242.trans (congrArg some (by kernel_rfl))⟩
  t4 := Tryz.underlying4
  a4 := Tryz.isAgg4
  z4 := Tryz.sizeOf4
  v4 := Tryz.zeroValue4
  t22 := Tryz.underlying22
  a22 := Tryz.isAgg22
  z22 := Tryz.sizeOf22
  v22 := Tryz.zeroValue22 }
def Tryz.laysSort_ren : Go.Shelf.Ren := ⟨fun | 53 => 243 | 64 => 239 | 63 => 256 | 78 => 253 | 79 => 254 | 70 => 267 | 71 => 268 | 72 => 269 | 73 => 270 | 74 => 271 | 75 => 272 | 59 => 273 | 76 => 274 | 77 => 275 | 88 => 279 | 89 => 258 | 90 => 259 | 91 => 280 | 92 => 281 | 68 => 282 | 96 => 283 | n => n, fun | 22 => 22 | 23 => 2 | 3 => 3 | 51 => 49 | 0 => 0 | 67 => 134 | 69 => 193 | 4 => 4 | 61 => 275 | 60 => 274 | 44 => 280 | 5 => 5 | 9 => 9 | 75 => 285 | 79 => 289 | 83 => 298 | 84 => 299 | n => n, fun | n => n⟩
theorem Tryz.laysSort : Go.Proofs.SlLaysN.n53 Tryz.prog Tryz.laysSort_ren := {
  mixed := by kernel_rfl
  f53 := ⟨Tryz.f243.name, by decide, Tryz.func243.trans (congrArg some (by kernel_rfl))⟩
  f59 := ⟨Tryz.f273.name, by decide, Tryz.func273.trans (congrArg some (by kernel_rfl))⟩
  f63 := ⟨Tryz.f256.name, by decide, Tryz.func256.trans (congrArg some (by kernel_rfl))⟩
  f64 := Tryz.func239.trans (congrArg some (by kernel_rfl))
  f68 := ⟨Tryz.f282.name, by decide, Tryz.func282.trans (congrArg some (by kernel_rfl))⟩
  f70 := ⟨Tryz.f267.name, by decide, Tryz.func267.trans (congrArg some (by kernel_rfl))⟩
  f71 := ⟨Tryz.f268.name, by decide, Tryz.func268.trans (congrArg some (by kernel_rfl))⟩
  f72 := ⟨Tryz.f269.name, by decide, Tryz.func269.trans (congrArg some (by kernel_rfl))⟩
  f73 := ⟨Tryz.f270.name, by decide, Tryz.func270.trans (congrArg some (by kernel_rfl))⟩
  f74 := ⟨Tryz.f271.name, by decide, Tryz.func271.trans (congrArg some (by kernel_rfl))⟩
  f75 := ⟨Tryz.f272.name, by decide, Tryz.func272.trans (congrArg some (by kernel_rfl))⟩
  f76 := ⟨Tryz.f274.name, by decide, Tryz.func274.trans (congrArg some (by kernel_rfl))⟩
  f77 := ⟨Tryz.f275.name, by decide, Tryz.func275.trans (congrArg some (by kernel_rfl))⟩
  f78 := Tryz.func253.trans (congrArg some (by kernel_rfl))
  f79 := Tryz.func254.trans (congrArg some (by kernel_rfl))
  f88 := ⟨Tryz.f279.name, by decide, Tryz.func279.trans (congrArg some (by kernel_rfl))⟩
  f89 := Tryz.func258.trans (congrArg some (by kernel_rfl))
  f90 := Tryz.func259.trans (congrArg some (by kernel_rfl))
  f91 := ⟨Tryz.f280.name, by decide, Tryz.func280.trans (congrArg some (by kernel_rfl))⟩
  f92 := ⟨Tryz.f281.name, by decide, Tryz.func281.trans (congrArg some (by kernel_rfl))⟩
  f96 := ⟨Tryz.f283.name, by decide, Tryz.func283.trans (congrArg some (by kernel_rfl))⟩
  t0 := Tryz.underlying0
  a0 := Tryz.isAgg0
  z0 := Tryz.sizeOf0
  v0 := Tryz.zeroValue0
  t3 := Tryz.underlying3
  a3 := Tryz.isAgg3
  z3 := Tryz.sizeOf3
  v3 := Tryz.zeroValue3
  t4 := Tryz.underlying4
  a4 := Tryz.isAgg4
  z4 := Tryz.sizeOf4
  v4 := Tryz.zeroValue4
  t5 := Tryz.underlying5
  a5 := Tryz.isAgg5
  z5 := Tryz.sizeOf5
  v5 := Tryz.zeroValue5
  t9 := Tryz.underlying9
  a9 := Tryz.isAgg9
  z9 := Tryz.sizeOf9
  v9 := Tryz.zeroValue9
  t22 := Tryz.underlying22
  a22 := Tryz.isAgg22
  z22 := Tryz.sizeOf22
  v22 := Tryz.zeroValue22
  t23 := Tryz.underlying2
  a23 := Tryz.isAgg2
  z23 := Tryz.sizeOf2
  v23 := Tryz.zeroValue2
  t44 := Tryz.underlying280
  a44 := Tryz.isAgg280
  z44 := Tryz.sizeOf280
  v44 := Tryz.zeroValue280
  t51 := Tryz.underlying49
  a51 := Tryz.isAgg49
  z51 := Tryz.sizeOf49
  v51 := Tryz.zeroValue49
  t60 := Tryz.underlying274
  a60 := Tryz.isAgg274
  z60 := Tryz.sizeOf274
  v60 := Tryz.zeroValue274
  t61 := Tryz.underlying275
  a61 := Tryz.isAgg275
  z61 := Tryz.sizeOf275
  v61 := Tryz.zeroValue275
  t67 := Tryz.underlying134
  a67 := Tryz.isAgg134
  z67 := Tryz.sizeOf134
  v67 := Tryz.zeroValue134
  t69 := Tryz.underlying193
  a69 := Tryz.isAgg193
  z69 := Tryz.sizeOf193
  v69 := Tryz.zeroValue193
  t75 := Tryz.underlying285
  a75 := Tryz.isAgg285
  z75 := Tryz.sizeOf285
  v75 := Tryz.zeroValue285
  t79 := Tryz.underlying289
  a79 := Tryz.isAgg289
  z79 := Tryz.sizeOf289
  v79 := Tryz.zeroValue289
  t83 := Tryz.underlying298
  a83 := Tryz.isAgg298
  z83 := Tryz.sizeOf298
  v83 := Tryz.zeroValue298
  t84 := Tryz.underlying299
  a84 := Tryz.isAgg299
  z84 := Tryz.sizeOf299
  v84 := Tryz.zeroValue299 }
def Tryz.laysCloneB_ren : Go.Shelf.Ren := ⟨fun | 4 => 214 | n => n, fun | 22 => 72 | 4 => 4 | 5 => 5 | n => n, fun | n => n⟩
theorem Tryz.laysCloneB : Go.Proofs.SlLaysK.n4 Tryz.prog Tryz.laysCloneB_ren := {
  mixed := by kernel_rfl
  f4 := Tryz.func214.trans (congrArg some (by kernel_rfl))
  t4 := Tryz.underlying4
  a4 := Tryz.isAgg4
  z4 := Tryz.sizeOf4
  v4 := Tryz.zeroValue4
  t22 := Tryz.underlying72
  a22 := Tryz.isAgg72
  z22 := Tryz.sizeOf72
  v22 := Tryz.zeroValue72
  t5 := Tryz.underlying5
  i5 := by kernel_rfl }
def Tryz.laysEqualB_ren : Go.Shelf.Ren := ⟨fun | 115 => 174 | n => n, fun | 37 => 72 | 4 => 4 | 9 => 9 | 5 => 5 | n => n, fun | n => n⟩
theorem Tryz.laysEqualB : Go.Proofs.Lays.nb115 Tryz.prog Tryz.laysEqualB_ren := {
  mixed := by kernel_rfl
  f115 := Tryz.func174.trans (congrArg some (by kernel_rfl))
  t4 := Tryz.underlying4
  a4 := Tryz.isAgg4
  z4 := Tryz.sizeOf4
  v4 := Tryz.zeroValue4
  t9 := Tryz.underlying9
  a9 := Tryz.isAgg9
  z9 := Tryz.sizeOf9
  v9 := Tryz.zeroValue9
  t37 := Tryz.underlying72
  a37 := Tryz.isAgg72
  z37 := Tryz.sizeOf72
  v37 := Tryz.zeroValue72
  t5 := Tryz.underlying5
  a5 := Tryz.isAgg5
  z5 := Tryz.sizeOf5
  v5 := Tryz.zeroValue5 }
end Go.Proofs
/- Tables as data: words, pairs by their names, what they come to; plain. -/
namespace Go.Proofs.YtphlcbbdpmkipaaGreat
open Go.RowKit
set_option linter.unusedVariables false

theorem ba_ext {a b : ByteArray} (h : a.data.toList = b.data.toList) : a = b := ByteArray.ext (Array.toList_inj.1 h)
theorem ba_ne {a b : ByteArray} (h : a ≠ b) : a.data.toList ≠ b.data.toList := fun e => h (ba_ext e)

/-! words -/
def eqAt (s : ByteArray) : Int := Lib.indexByte s.data.toList 61
def wordT (s : ByteArray) : ByteArray × ByteArray × Bool :=
  if 1 ≤ eqAt s then (s.extract 0 (eqAt s).toNat, s.extract ((eqAt s).toNat + 1) s.size, true) else (ByteArray.empty, ByteArray.empty, false)
theorem indexByte_spec : ∀ (l : List UInt8) (c : UInt8), (Lib.indexByte l c = -1 ∧ c ∉ l) ∨ (∃ i : Nat, Lib.indexByte l c = i ∧ ∃ h : i < l.length, l[i] = c ∧ c ∉ l.take i) := by
  intro l c
  induction l with
  | nil => exact .inl ⟨rfl, by simp⟩
  | cons b l ih =>
    unfold Lib.indexByte
    by_cases h : b = c
    · subst h
      exact .inr ⟨0, by simp, by simp, rfl, by simp⟩
    · have hb : (b == c) = false := by simpa using h
      rw [hb]
      rcases ih with ⟨e, hn⟩ | ⟨i, e, hi, h1, h2⟩
      · rw [e]
        refine .inl ⟨rfl, ?_⟩
        simp only [List.mem_cons, not_or]
        exact ⟨fun e => h e.symm, hn⟩
      · rw [e]
        refine .inr ⟨i + 1, ?_, by rw [List.length_cons]; omega, by simpa using h1, ?_⟩
        · have : ((i : Int) == -1) = false := by simp <;> omega
          simp [this]
        · rw [List.take_succ_cons, List.mem_cons, not_or]
          exact ⟨fun e => h e.symm, h2⟩
theorem size_len (s : ByteArray) : s.data.toList.length = s.size := Array.length_toList
theorem eqAt_cases (s : ByteArray) : eqAt s = -1 ∨ ∃ i : Nat, eqAt s = i ∧ i < s.size := by
  rcases indexByte_spec s.data.toList 61 with ⟨e, _⟩ | ⟨i, e, hi, _⟩
  · exact .inl e
  · exact .inr ⟨i, e, by rw [← size_len]; exact hi⟩
/-- a name without '=' ahead of '=' and what it stands for -/
theorem eqAt_of {a b s : ByteArray} (hs : s.data.toList = a.data.toList ++ 61 :: b.data.toList) (hn : (61 : UInt8) ∉ a.data.toList) : eqAt s = a.size := by
  unfold eqAt
  rcases indexByte_spec s.data.toList 61 with ⟨e, h⟩ | ⟨i, e, hi, h1, h2⟩
  · exact absurd (by rw [hs]; simp) h
  · rw [e]
    have hlen : a.data.toList.length = a.size := size_len a
    have hA : ¬ i < a.data.toList.length := fun hlt => by
      apply hn
      rw [← h1]
      simp only [hs]
      rw [List.getElem_append_left hlt]
      exact List.getElem_mem hlt
    have hB : ¬ a.data.toList.length < i := fun hlt => by
      apply h2
      rw [hs, List.take_append, List.mem_append]
      right
      obtain ⟨m, hm⟩ : ∃ m, i - a.data.toList.length = m + 1 := ⟨i - a.data.toList.length - 1, by omega⟩
      rw [hm, List.take_succ_cons]
      exact List.mem_cons_self
    omega
theorem extract_list (s : ByteArray) (i j : Nat) : (s.extract i j).data.toList = (s.data.toList.take j).drop i := by
  simp [ByteArray.data_extract, Array.toList_extract, List.extract_eq_take_drop, List.drop_take]
theorem wordT_of {a b s : ByteArray} (hs : s.data.toList = a.data.toList ++ 61 :: b.data.toList) (hn : (61 : UInt8) ∉ a.data.toList) (h0 : 0 < a.size) : wordT s = (a, b, true) := by
  have he := eqAt_of hs hn
  have hl : s.size = a.size + 1 + b.size := by
    have := congrArg List.length hs
    rw [List.length_append, List.length_cons, size_len, size_len, size_len] at this
    omega
  unfold wordT
  rw [he, if_pos (by omega), Int.toNat_natCast]
  refine Prod.ext (ba_ext ?_) (Prod.ext (ba_ext ?_) rfl)
  · show (s.extract 0 a.size).data.toList = _
    rw [extract_list, hs, List.drop_zero, ← size_len, List.take_left]
  · show (s.extract (a.size + 1) s.size).data.toList = _
    rw [extract_list, List.take_of_length_le (by rw [size_len]; exact Nat.le_refl _), hs, ← size_len, List.drop_append]
    simp
theorem wordT_size (s : ByteArray) : (wordT s).1.size ≤ s.size ∧ (wordT s).2.1.size ≤ s.size := by
  unfold wordT
  split
  · simp only [ByteArray.size_extract]
    omega
  · simp
theorem wordT_pos (s : ByteArray) (h : (wordT s).2.2 = true) : 0 < (wordT s).1.size := by
  unfold wordT at h ⊢
  rcases eqAt_cases s with e | ⟨i, e, hi⟩
  · rw [e] at h; simp at h
  · rw [e] at h ⊢
    split at h
    · rename_i h1
      rw [if_pos h1]
      simp only [ByteArray.size_extract]
      omega
    · simp at h

/-! pairs by their names -/
abbrev Tb := List (ByteArray × ByteArray)
abbrev nm (p : ByteArray × ByteArray) : List UInt8 := p.1.data.toList
def UpT (L : Tb) : Prop := L.Pairwise fun p q => nm p < nm q
def insT (a b : ByteArray) : Tb → Tb
  | [] => [(a, b)]
  | p :: r => if a.data.toList < nm p then (a, b) :: p :: r else p :: insT a b r
def delT (a : ByteArray) (L : Tb) : Tb := L.filter fun p => !(nm p == a.data.toList)
def doT (L : Tb) (a b : ByteArray) : Tb := if b.size = 0 then delT a L else insT a b (delT a L)
def getT (L : Tb) (a : ByteArray) : ByteArray × Bool := match L.find? (fun p => nm p == a.data.toList) with
  | some p => (p.2, true)
  | none => (ByteArray.empty, false)
theorem ins_mem (a b : ByteArray) (L : Tb) : ∀ x, x ∈ insT a b L ↔ x = (a, b) ∨ x ∈ L := by
  induction L with
  | nil => intro x; simp [insT]
  | cons p r ih =>
    intro x
    unfold insT
    split
    · simp
    · rw [List.mem_cons, ih, List.mem_cons]
      constructor
      · rintro (h | h | h)
        · exact .inr (.inl h)
        · exact .inl h
        · exact .inr (.inr h)
      · rintro (h | h | h)
        · exact .inr (.inl h)
        · exact .inl h
        · exact .inr (.inr h)
theorem lt_of_not {a b : List UInt8} (h : ¬ a < b) (hne : b ≠ a) : b < a := by
  refine Classical.byContradiction fun h2 => hne ?_
  exact List.le_antisymm (List.not_lt.1 h) (List.not_lt.1 h2)
theorem ins_up {a b : ByteArray} {L : Tb} (hu : UpT L) (hn : ∀ p ∈ L, nm p ≠ a.data.toList) : UpT (insT a b L) := by
  induction L with
  | nil => exact List.pairwise_singleton _ _
  | cons p r ih =>
    obtain ⟨h1, h2⟩ := List.pairwise_cons.1 hu
    unfold insT
    split
    · rename_i h
      refine List.pairwise_cons.2 ⟨fun x hx => ?_, hu⟩
      rcases List.mem_cons.1 hx with rfl | hx
      · exact h
      · exact List.lt_trans h (h1 x hx)
    · rename_i h
      refine List.pairwise_cons.2 ⟨fun x hx => ?_, ih h2 (fun q hq => hn q (List.mem_cons_of_mem _ hq))⟩
      rcases (ins_mem a b r x).1 hx with rfl | hx
      · exact lt_of_not h (hn p List.mem_cons_self)
      · exact h1 x hx
theorem del_up {a : ByteArray} {L : Tb} (hu : UpT L) : UpT (delT a L) := List.Pairwise.filter _ hu
theorem del_ne (a : ByteArray) (L : Tb) : ∀ p ∈ delT a L, nm p ≠ a.data.toList := by
  intro p hp
  have := (List.mem_filter.1 hp).2
  simpa using this
theorem do_up {L : Tb} {a b : ByteArray} (hu : UpT L) : UpT (doT L a b) := by
  unfold doT
  split
  · exact del_up hu
  · exact ins_up (del_up hu) (del_ne a L)
theorem ins_len (a b : ByteArray) (L : Tb) : (insT a b L).length = L.length + 1 := by
  induction L with
  | nil => rfl
  | cons p r ih => unfold insT; split <;> simp [ih]
theorem do_len (L : Tb) (a b : ByteArray) : (doT L a b).length ≤ L.length + 1 := by
  have := List.length_filter_le (fun p => !(nm p == a.data.toList)) L
  unfold doT
  split
  · unfold delT; omega
  · rw [ins_len]; unfold delT; omega
theorem do_small {L : Tb} {a b : ByteArray} (h : ∀ p ∈ L, p.1.size ≤ 16 ∧ p.2.size ≤ 16) (ha : a.size ≤ 16) (hb : b.size ≤ 16) : ∀ p ∈ doT L a b, p.1.size ≤ 16 ∧ p.2.size ≤ 16 := by
  intro p hp
  unfold doT at hp
  split at hp
  · exact h p (List.mem_filter.1 hp).1
  · rcases (ins_mem _ _ _ _).1 hp with rfl | hp
    · exact ⟨ha, hb⟩
    · exact h p (List.mem_filter.1 hp).1

/-! the map's datum -/
abbrev litP (p : ByteArray × ByteArray) : Lit × DataW Unit := (.string p.1.data.toList, .lit (.string p.2.data.toList))
def tblD (L : Tb) : DataW Unit := .map (L.map litP)
theorem before_lt : ∀ a b : List UInt8, bytesBefore a b = decide (a < b)
  | [], [] => by simp [bytesBefore]
  | [], _ :: _ => by simp [bytesBefore]
  | _ :: _, [] => by simp [bytesBefore]
  | a :: r, b :: s => by
    unfold bytesBefore
    rw [before_lt r s, Bool.eq_iff_iff]
    simp only [Bool.or_eq_true, Bool.and_eq_true, decide_eq_true_eq, beq_iff_eq, List.cons_lt_cons_iff]
theorem del_D (L : Tb) (a : ByteArray) : (tblD L).del (.string a.data.toList) = tblD (delT a L) := by
  unfold tblD DataW.del delT
  simp only [DataW.map.injEq]
  rw [List.filter_map]
  rfl
theorem ins_D (a b : ByteArray) (L : Tb) : DataW.insert (litP (a, b)) (L.map litP) = (insT a b L).map litP := by
  induction L with
  | nil => rfl
  | cons p r ih =>
    rw [List.map_cons]
    unfold DataW.insert insT
    show (if bytesBefore a.data.toList p.1.data.toList = true then _ else _) = _
    rw [before_lt]
    by_cases h : a.data.toList < p.1.data.toList
    · rw [if_pos (by simpa using h), if_pos h]; rfl
    · rw [if_neg (by simpa using h), if_neg h, ih]; rfl
theorem put_D (L : Tb) (a b : ByteArray) : (tblD L).put (.string a.data.toList) (.lit (.string b.data.toList)) = tblD (insT a b (delT a L)) := by
  unfold tblD DataW.put
  simp only [DataW.map.injEq]
  rw [← ins_D]
  congr 1
  unfold delT
  rw [List.filter_map]
  rfl
theorem find_D (L : Tb) (a : ByteArray) : (L.map litP).find? (fun p => p.1.sameKey (.string a.data.toList)) = (L.find? (fun p => nm p == a.data.toList)).map litP := by
  rw [List.find?_map]
  rfl
theorem at_D (L : Tb) (a : ByteArray) : (tblD L).atKey (.string a.data.toList) (.lit (.string [])) = .lit (.string (getT L a).1.data.toList) := by
  unfold tblD DataW.atKey getT
  simp only
  rw [find_D]
  cases L.find? (fun p => nm p == a.data.toList) <;> rfl
theorem has_D (L : Tb) (a : ByteArray) : Maps.has (tblD L) (.string a.data.toList) = (getT L a).2 := by
  unfold tblD getT
  have h : (L.map litP).any (fun p => p.1.sameKey (.string a.data.toList)) = ((L.map litP).find? (fun p => p.1.sameKey (.string a.data.toList))).isSome := by
    rw [Bool.eq_iff_iff, List.find?_isSome, List.any_eq_true]
  rw [Maps.has_eq, h, find_D]
  cases L.find? (fun p => nm p == a.data.toList) <;> rfl
theorem keys_D (L : Tb) : strKeys (tblD L) = L.map nm := by
  show (L.map litP).map _ = _
  rw [List.map_map]; rfl
theorem size_D (L : Tb) : Maps.size (tblD L) = L.length := by
  unfold tblD
  rw [Maps.size_eq, List.length_map]
/-- sorted, the keys are the names in their order -/
theorem keys_sorted {L : Tb} (hu : UpT L) {ss : List (List UInt8)} (hp : ss.Perm (strKeys (tblD L))) : ss.mergeSort (fun x y => decide (x ≤ y)) = L.map nm := by
  rw [mergeSort_of_perm (l' := L.map nm) (by rw [← keys_D]; exact hp)]
  refine List.mergeSort_of_pairwise ?_
  rw [List.pairwise_map]
  exact List.Pairwise.imp (fun {a b} h => by simpa using List.le_of_lt h) hu
theorem get_mem {L : Tb} (hu : UpT L) {p : ByteArray × ByteArray} (hp : p ∈ L) : getT L p.1 = (p.2, true) := by
  induction L with
  | nil => simp at hp
  | cons x r ih =>
    obtain ⟨h1, h2⟩ := List.pairwise_cons.1 hu
    unfold getT
    rw [List.find?_cons]
    rcases List.mem_cons.1 hp with rfl | hp
    · simp
    · have hne : nm x ≠ p.1.data.toList := fun e => List.lt_irrefl _ (by have := h1 p hp; rw [e] at this; exact this)
      have : (nm x == p.1.data.toList) = false := by simpa using hne
      rw [this]
      have := ih h2 hp
      unfold getT at this
      exact this

/-! what a table comes to, as bytes -/
def txtT (s : ByteArray) : List UInt8 := UInt8.ofNat (2 * s.size) :: s.data.toList
def bytesT (L : Tb) : List UInt8 := L.flatMap fun p => txtT p.1 ++ txtT p.2
def stepC (x : Nat) : Nat := if x % 2 = 1 then (x / 2) ^^^ 3988292384 else x / 2
def stepsC : Nat → Nat → Nat
  | 0, x => x
  | n + 1, x => stepC (stepsC n x)
def byteC (x : Nat) (b : UInt8) : Nat := stepsC 8 (x ^^^ b.toNat)
def crcT (l : List UInt8) : Nat := 4294967295 ^^^ l.foldl byteC 4294967295
theorem xor_lt {a b : Nat} (ha : a < 4294967296) (hb : b < 4294967296) : a ^^^ b < 4294967296 := Nat.xor_lt_two_pow (n := 32) ha hb
theorem stepC_lt {x : Nat} (h : x < 4294967296) : stepC x < 4294967296 := by
  unfold stepC
  split
  · exact xor_lt (by omega) (by omega)
  · omega
theorem stepsC_lt {x : Nat} (h : x < 4294967296) : ∀ n, stepsC n x < 4294967296
  | 0 => h
  | n + 1 => stepC_lt (stepsC_lt h n)
theorem byteC_lt {x : Nat} (h : x < 4294967296) (b : UInt8) : byteC x b < 4294967296 := stepsC_lt (xor_lt h (by have := b.toNat_lt; omega)) 8
theorem foldC_lt : ∀ (l : List UInt8) {x : Nat}, x < 4294967296 → l.foldl byteC x < 4294967296
  | [], _, h => h
  | b :: l, _, h => foldC_lt l (byteC_lt h b)
theorem crcT_nil : crcT [] = 0 := by decide
end Go.Proofs.YtphlcbbdpmkipaaGreat
/- The library's contracts that a table wants: strings.Cut, slices.Sorted(maps.Keys(m)). -/
namespace Go.Proofs.YtphlcbbdpmkipaaGreat
open Go.RowKit Go.Maps Go.Sort Go.Shelf
set_option linter.unusedVariables false

theorem sCut_any (s : ByteArray) (m : Int) (w : World) (hs : s.size < 4294967281) (hm : w.cell? ⟨0, 0, none⟩ = some (.int .i64 m)) :
    Calls Tryz.prog 232 #[.string s, .string ⟨#[61]⟩] w fun e w' => (e = .returned (.tuple #[.string ⟨(Lib.cut s.data.toList [61]).1.toArray⟩, .string ⟨(Lib.cut s.data.toList [61]).2.1.toArray⟩, .bool (Lib.cut s.data.toList [61]).2.2])) ∧ ∃ n, w' = w.drewN n :=
  Any.strings_Cut Tryz.laysCut s ⟨#[61]⟩ m w hs hm

theorem sorts (m : Nat) : AnyZ.SortsIn Tryz.prog Tryz.laysSorted_ren Fence.wide m :=
  ⟨fun blk off cap ss W hH hblk hsz => callsIn_wide.2 (AnyM.slices_Sort_string Tryz.laysSortS blk off cap ss W hH hblk hsz),
   fun p cap W => callsIn_wide.2 (AnyM.slices_Sort_string_none Tryz.laysSortS p cap W)⟩

theorem mKeys_any (mb : Option Nat) (W : World) : CallsIn Fence.wide 5 Tryz.prog 199 #[.map mb] W fun e w' => e = .returned (.func (.func 227) #[] #[.pointer (some ⟨W.heap.size, 0, none⟩)]) ∧ w' = W.alloc (.cells #[.map mb] 149) :=
  AnyZ.keys_in Tryz.laysKeys Fence.wide 5 trivial rfl mb W

set_option maxHeartbeats 1000000 in
theorem sSorted_any {H : Type} (b nn : Nat) (D0 : DataW H) (R : Value → Option (DataW H × List MemPlace)) (w : World) (hown : w.ownsMap Tryz.prog 9 R b nn D0) (hmax : Maps.size D0 ≤ maxLen) (hbytes : Maps.size D0 * 16 ≤ 140737488355328) :
    CallsIn Fence.wide 5 Tryz.prog 198 #[.func (.func 227) #[] #[.pointer (some ⟨w.heap.size, 0, none⟩)]] (w.alloc (.cells #[.map (some b)] 149)) fun e w' => ∃ (v : Value) (ss : List (List UInt8)), e = .returned v ∧ ss.Perm (strKeys D0) ∧
      w'.ownsRow (w.alloc (.cells #[.map (some b)] 149)).heap.size 9 1 v ss.length ((ss.mergeSort (fun x y => decide (x ≤ y))).map encStr) ∧ (v = .slice none 0 0 ↔ ss = []) ∧ Below (w.alloc (.cells #[.map (some b)] 149)).heap.size (w.alloc (.cells #[.map (some b)] 149)) w' := by
  have hbl := hown.lt
  have hseq : SeqGives Fence.wide 2 Tryz.prog 227 #[.pointer (some ⟨w.heap.size, 0, none⟩)] encStr (fun ss => ss.Perm (strKeys D0)) (Maps.size D0) (w.alloc (.cells #[.map (some b)] 149)) :=
    AnyZ.keys_gives (ρ := Tryz.laysKeys_ren) { Tryz.laysKeys with } Fence.wide _ trivial rfl (by omega) w.heap.size b nn D0 _ (by simp) (by simp) (by
      obtain ⟨es, clock, hb, Ft, hs, hD⟩ := hown
      exact ⟨es, clock, (Below.heap_alloc _ _ b hbl).trans hb, Ft, hs, hD⟩)
  exact AnyZ.sorted_in Tryz.laysSorted Fence.wide 5 trivial trivial trivial trivial rfl (by omega) (sorts _) (enters_of Tryz.func226 (by kernel_rfl) rfl) 227 #[.pointer (some ⟨w.heap.size, 0, none⟩)] trivial (enters_of Tryz.func227 (by kernel_rfl) rfl) _ _ hmax hbytes _ hseq
end Go.Proofs.YtphlcbbdpmkipaaGreat
/- Contracts: words; a table is made, asked, named. -/
namespace Go.Proofs.YtphlcbbdpmkipaaGreat
open Go.RowKit Go.Maps Go.Shelf
set_option linter.unusedVariables false

theorem sKeyed : Keyed Tryz.prog 9 := string_keyed Tryz.underlying9
theorem sKey {a : ByteArray} (h : a.size ≤ 1000) : keyOf Tryz.prog 9 (.string a) = some (.string a.data.toList) := by
  have : a.size ≤ maxLen := by unfold maxLen; omega
  simp [keyOf, Tryz.underlying9, mapKey, this]
theorem sElem {a : ByteArray} (h : a.size ≤ 1000) : (plainElem (H := Unit) Tryz.prog 9) (.string a) = some (.lit (.string a.data.toList), []) :=
  plainElem_string Tryz.underlying9 (by unfold maxLen; omega)

theorem sNe {a : ByteArray} (h : ¬ a = ByteArray.empty) : a.toList.isEmpty = false := by
  rw [ByteArray.toList_eq]
  cases hl : a.data.toList with
  | nil => exact absurd (ba_ext (by rw [hl]; rfl)) h
  | cons x l => rfl
theorem sNil : (ByteArray.empty).toList.isEmpty = true := by rw [ByteArray.toList_eq]; rfl
/-- the table behind a pointer -/
structure TbO (w : World) (q tb : Nat) (L : Tb) : Prop where
  ptr : w.heap[q]? = some (.cells #[.map (some tb)] 151 (0, 0))
  own : ∃ n, w.ownsMap Tryz.prog 9 (plainElem (H := Unit) Tryz.prog 9) tb n (tblD L)
  up : UpT L
  small : ∀ p ∈ L, p.1.size ≤ 16 ∧ p.2.size ≤ 16
theorem TbO.ne {w : World} {q tb : Nat} {L : Tb} (h : TbO w q tb L) : q ≠ tb := fun e => by
  obtain ⟨n, es, clock, hb, _⟩ := h.own
  have := h.ptr
  rw [e, hb] at this
  cases this
theorem TbO.ltq {w : World} {q tb : Nat} {L : Tb} (h : TbO w q tb L) : q < w.heap.size := at_lt h.ptr
theorem TbO.ltb {w : World} {q tb : Nat} {L : Tb} (h : TbO w q tb L) : tb < w.heap.size := by
  obtain ⟨n, hn⟩ := h.own
  exact hn.lt
theorem own_below {w w' : World} {tb n : Nat} {D : DataW Unit} (h : w.ownsMap Tryz.prog 9 (plainElem (H := Unit) Tryz.prog 9) tb n D) (hb : Below w.heap.size w w') : w'.ownsMap Tryz.prog 9 (plainElem (H := Unit) Tryz.prog 9) tb n D :=
  h.kept (row := none) ⟨hb.os, hb.tape, hb.output, hb.size, fun k hk _ => hb.block k hk⟩ (by simp)
theorem TbO.grow {w w' : World} {q tb : Nat} {L : Tb} (h : TbO w q tb L) (hb : Below w.heap.size w w') : TbO w' q tb L := by
  obtain ⟨n, hn⟩ := h.own
  exact ⟨at_below h.ptr hb, ⟨n, own_below hn hb⟩, h.up, h.small⟩
/-- as many entries as pairs -/
theorem TbO.tight {w : World} {q tb : Nat} {L : Tb} (h : TbO w q tb L) : w.ownsMap Tryz.prog 9 (plainElem (H := Unit) Tryz.prog 9) tb L.length (tblD L) := by
  obtain ⟨n, es, clock, hb, F, hs, hD⟩ := h.own
  refine ⟨es, clock, hb, F, ?_, hD⟩
  have h1 : Maps.size (tblD L) = L.length := size_D L
  rw [hD] at h1
  have h2 : Maps.size (H := Unit) (.map ((es.toList.map (WideElems.rg Tryz.prog 9 (plainElem (H := Unit) Tryz.prog 9))).foldr DataW.insert [])) = es.size := by simp [Maps.size, length_sorted]
  omega
theorem TbO.turn {w w' : World} {q tb n : Nat} {L L' : Tb} (h : TbO w q tb L) (hm : w.mapTurned w' tb) (ho : w'.ownsMap Tryz.prog 9 (plainElem (H := Unit) Tryz.prog 9) tb n (tblD L')) (hu : UpT L') (hs : ∀ p ∈ L', p.1.size ≤ 16 ∧ p.2.size ≤ 16) :
    TbO w' q tb L' ∧ Chg (fun j => j = tb) w w' := by
  have hg := hm.grown
  have hc : Chg (fun j => j = tb) w w' := ⟨hg.os, hg.tape, hg.output, hg.size, fun k hk hF => hg.block k hk (by simpa using hF)⟩
  exact ⟨⟨at_chg h.ptr hc h.ne, ⟨n, ho⟩, hu, hs⟩, hc⟩

set_option maxRecDepth 100000 in
set_option maxHeartbeats 1000000 in
theorem tNew_any (w : World) : Calls Tryz.prog 45 #[] w fun r w' => ∃ q tb, r = .returned (.pointer (some ⟨q, 0, none⟩)) ∧ TbO w' q tb [] ∧ w.heap.size ≤ q ∧ w.heap.size ≤ tb ∧ Below w.heap.size w w' := by
  have hmm := @run_makeMap Tryz.prog
  have hown := World.ownsMap_made (H := Unit) w Tryz.prog 9 (plainElem (H := Unit) Tryz.prog 9)
  obtain ⟨w1, hw1⟩ : ∃ W, W = w.alloc (.map #[] 0) := ⟨_, rfl⟩
  have hb1 : Below w.heap.size w w1 := hw1 ▸ (Below.refl _ _).alloc (Nat.le_refl _) _
  obtain ⟨w2, hw2⟩ : ∃ W, W = w1.alloc (.cells #[.map (some w.heap.size)] 151) := ⟨_, rfl⟩
  have hb2 : Below w1.heap.size w1 w2 := hw2 ▸ (Below.refl _ _).alloc (Nat.le_refl _) _
  have hx : w2.heap[w1.heap.size]? = some (.cells #[.map (some w.heap.size)] 151 (0, 0)) := hw2 ▸ at_new _ _
  rw [← hw1] at hown
  have ho2 := own_below hown hb2
  have hs1 := hb1.size
  have key : ∃ q tb, Ending.returned (.pointer (some ⟨w1.heap.size, 0, none⟩)) = Ending.returned (.pointer (some ⟨q, 0, none⟩)) ∧ TbO w2 q tb [] ∧ w.heap.size ≤ q ∧ w.heap.size ≤ tb ∧ Below w.heap.size w w2 :=
    ⟨_, _, rfl, ⟨hx, ⟨0, ho2⟩, List.Pairwise.nil, by simp⟩, hs1, Nat.le_refl _, hb1.trans (hb2.mono hs1)⟩
  rw [hw2, hw1] at key
  replace key := Lib.hid key
  clear hx ho2 hown hb1 hb2 hs1
  subst hw2 hw1
  go_enter Tryz.func45, Tryz.ntmps45
  go_wp2
  go_ret
  obtain ⟨q, tb, e, h⟩ := key.out
  exact ⟨q, tb, Eq.trans (by simp) e, h⟩

set_option maxRecDepth 100000 in
set_option maxHeartbeats 1000000 in
theorem tWord_any (s : ByteArray) (m : Int) (w : World) (hs : s.size < 4294967281) (hm : w.cell? ⟨0, 0, none⟩ = some (.int .i64 m)) :
    Calls Tryz.prog 212 #[.string s] w fun r w' => r = .returned (.tuple #[.string (wordT s).1, .string (wordT s).2.1, .bool (wordT s).2.2]) ∧ Below w.heap.size w w' := by
  have hB := Lib.hid (Below.refl w.heap.size w)
  have h1 : Lib.indexB s ⟨#[61]⟩ = eqAt s := Lib.index_one _ _
  rcases eqAt_cases s with h | ⟨i, h, hi⟩
  · rw [h] at h1
    obtain ⟨e1, e2, e3⟩ := Lib.cutB_miss s _ h1
    have hw : wordT s = (ByteArray.empty, ByteArray.empty, false) := by unfold wordT; rw [h]; rfl
    rw [hw]
    replace hw := Lib.hid hw
    replace e1 := Lib.hid e1
    replace e2 := Lib.hid e2
    replace e3 := Lib.hid e3
    clear h1 h
    go_enter Tryz.func212, Tryz.ntmps212
    go_wp2_with fail
    refine (sCut_any s m w hs hm).mono ?_
    rintro r w1 ⟨rfl, n, rfl⟩
    rw [show (Lib.cut s.data.toList [61]).2.2 = false from e3.out]
    go_wp2
    exact bodyPost_ret (v := .tuple #[.string ByteArray.empty, .string ByteArray.empty, .bool false]) (by simp [results, Tryz.results212, go_sem]; rfl) rfl ⟨rfl, below_drewN hB.out _⟩
  · rw [h] at h1
    obtain ⟨e1, e2, e3⟩ := Lib.cutB_hit s _ i h1
    replace e1 := Lib.hid e1
    replace e2 := Lib.hid e2
    replace e3 := Lib.hid e3
    clear h1
    by_cases h0 : i = 0
    · have hw : wordT s = (ByteArray.empty, ByteArray.empty, false) := by unfold wordT; rw [h, h0]; rfl
      rw [hw]
      have hz : s.extract 0 i = ByteArray.empty := by rw [h0]; exact ba_ext (by simp)
      replace hw := Lib.hid hw
      replace hz := Lib.hid hz
      clear h h0
      go_enter Tryz.func212, Tryz.ntmps212
      go_wp2_with fail
      refine (sCut_any s m w hs hm).mono ?_
      rintro r w1 ⟨rfl, n, rfl⟩
      rw [show (Lib.cut s.data.toList [61]).2.2 = true from e3.out, show (⟨(Lib.cut s.data.toList [61]).1.toArray⟩ : ByteArray) = s.extract 0 i from e1.out, hz.out]
      go_wp2
      exact bodyPost_ret (v := .tuple #[.string ByteArray.empty, .string ByteArray.empty, .bool false]) (by simp [results, Tryz.results212, go_sem]; rfl) rfl ⟨rfl, below_drewN hB.out _⟩
    · have hw : wordT s = (s.extract 0 i, s.extract (i + 1) s.size, true) := by unfold wordT; rw [h, if_pos (by omega)]; rfl
      rw [hw]
      obtain ⟨a, ha⟩ : ∃ a, s.extract 0 i = a := ⟨_, rfl⟩
      obtain ⟨b, hb⟩ : ∃ b, s.extract (i + 1) s.size = b := ⟨_, rfl⟩
      have hne : ¬ a = ByteArray.empty := fun e => by
        have h2 : (s.extract 0 i).size = 0 := by rw [ha, e]; rfl
        rw [ByteArray.size_extract] at h2
        omega
      rw [ha, hb]
      have e1' : Hid ((⟨(Lib.cut s.data.toList [61]).1.toArray⟩ : ByteArray) = a) := Lib.hid (Eq.trans e1.out ha)
      have e2' : Hid ((⟨(Lib.cut s.data.toList [61]).2.1.toArray⟩ : ByteArray) = b) := Lib.hid (Eq.trans e2.out hb)
      clear e1 e2 hw h h0 ha hb
      have hd : a.toList.isEmpty = false := sNe hne
      go_enter Tryz.func212, Tryz.ntmps212
      go_wp2_with fail
      refine (sCut_any s m w hs hm).mono ?_
      rintro r w1 ⟨rfl, n, rfl⟩
      rw [show (Lib.cut s.data.toList [61]).2.2 = true from e3.out, e1'.out, e2'.out]
      go_wp2
      exact bodyPost_ret (v := .tuple #[.string a, .string b, .bool true]) (by simp [results, Tryz.results212, go_sem]) rfl ⟨rfl, below_drewN hB.out _⟩

/-- a row of strings of the call's own -/
def strsV (l : List (List UInt8)) : List Value := l.map fun s => .string ⟨s.toArray⟩

set_option maxHeartbeats 1000000 in
theorem tNames_any (q tb : Nat) (L : Tb) (w : World) (h : TbO w q tb L) (hl : L.length ≤ 1000) :
    Calls Tryz.prog 152 #[.pointer (some ⟨q, 0, none⟩)] w fun r w' => ∃ v, r = .returned v ∧ w'.ownsRow w.heap.size 9 1 v L.length (strsV (L.map nm)) ∧ Below w.heap.size w w' := by
  have c0 := cell_at h.ptr 0
  simp only [List.getElem?_toArray, List.getElem?_cons_zero] at c0
  have hown := h.tight
  have hks := fun (ss : List (List UInt8)) => keys_sorted (ss := ss) h.up
  have hmax : Maps.size (tblD L) ≤ maxLen := by rw [size_D]; unfold maxLen; omega
  have hbytes : Maps.size (tblD L) * 16 ≤ 140737488355328 := by rw [size_D]; omega
  have hlen : ∀ ss : List (List UInt8), ss.Perm (strKeys (tblD L)) → ss.length = L.length := fun ss hp => by rw [hp.length_eq, keys_D, List.length_map]
  clear h
  replace hks := Lib.hid hks
  replace hlen := Lib.hid hlen
  refine (callsIn_wide (n := 6)).1 ?_
  have hfK : Fence.wide.fn 199 := trivial
  have hfS : Fence.wide.fn 198 := trivial
  refine callsIn_of_wp Tryz.func152 rfl trivial ?_ rfl
  simp only [Tryz.ntmps152, List.size_toArray, List.length_cons, List.length_nil, Nat.reduceAdd, Nat.reduceSub, Array.replicate_succ, Array.replicate_zero, List.push_toArray, List.append_toArray, List.nil_append, List.cons_append]
  gi_wp2_with (first
    | (gi_at_call 199; refine (mKeys_any _ _).mono ?_; rintro e w' ⟨rfl, rfl⟩)
    | (gi_at_call 198; refine (sSorted_any tb L.length (tblD L) (plainElem (H := Unit) Tryz.prog 9) w hown hmax hbytes).mono ?_; rintro e w' ⟨v, ss, rfl, hS, hrow, hnil, hb⟩))
  rw [hks.out ss hS, hlen.out ss hS] at hrow
  go_ret
  exact ⟨v, rfl, Go.Proofs.ownsRow_base_a hrow (by simp), ((Below.refl _ w).alloc (Nat.le_refl _) _).trans (hb.mono (by simp))⟩

set_option maxRecDepth 100000 in
set_option maxHeartbeats 1000000 in
theorem tNames_nil (w : World) : Calls Tryz.prog 152 #[.pointer none] w fun r w' => r = .returned (.slice none 0 0) ∧ w = w' := by
  go_enter Tryz.func152, Tryz.ntmps152
  go_wp2
  go_ret
  exact ⟨rfl, rfl⟩
end Go.Proofs.YtphlcbbdpmkipaaGreat
/- Contract: a table does what an entry says. -/
namespace Go.Proofs.YtphlcbbdpmkipaaGreat
open Go.RowKit Go.Maps
set_option linter.unusedVariables false

def okDo (e : Ent) : Bool := (wordT e.data).2.2 && mayE e
def nextT (L : Tb) (e : Ent) : Tb := if okDo e = true then doT L (wordT e.data).1 (wordT e.data).2.1 else L
theorem mayE_data {e : Ent} (h : mayE e = true) : e.data.size ≤ 16 := by
  rw [mayE_in] at h
  simp only [Bool.and_eq_true, decide_eq_true_eq] at h
  omega
theorem next_len (L : Tb) (e : Ent) : (nextT L e).length ≤ L.length + 1 := by
  unfold nextT
  split
  · exact do_len _ _ _
  · omega
theorem next_up {L : Tb} (h : UpT L) (e : Ent) : UpT (nextT L e) := by
  unfold nextT
  split
  · exact do_up h
  · exact h
theorem next_small {L : Tb} (h : ∀ p ∈ L, p.1.size ≤ 16 ∧ p.2.size ≤ 16) (e : Ent) : ∀ p ∈ nextT L e, p.1.size ≤ 16 ∧ p.2.size ≤ 16 := by
  unfold nextT
  split
  · rename_i hk
    unfold okDo at hk
    have h16 := mayE_data (Bool.and_eq_true_iff.1 hk).2
    have hz := wordT_size e.data
    exact do_small h (by omega) (by omega)
  · exact h

set_option maxRecDepth 100000 in
set_option maxHeartbeats 4000000 in
theorem tDo_gen (q tb : Nat) (L : Tb) (e : Ent) (m : Int) (w : World) (h : TbO w q tb L) (hl : L.length ≤ 1000000000000) (hm : w.cell? ⟨0, 0, none⟩ = some (.int .i64 m)) (hs : e.data.size < 4294967281) :
    Calls Tryz.prog 168 #[.pointer (some ⟨q, 0, none⟩), e.val] w fun r w' => r = .returned (.bool (okDo e)) ∧ TbO w' q tb (nextT L e) ∧ Chg (fun j => j = tb) w w' := by
  obtain ⟨wa, hwa⟩ : ∃ W, W = w.alloc (.cells e.cells.toArray 101) := ⟨_, rfl⟩
  have hba : Below w.heap.size w wa := hwa ▸ (Below.refl _ _).alloc (Nat.le_refl _) _
  have hx : wa.heap[w.heap.size]? = some (.cells e.cells.toArray 101 (0, 0)) := hwa ▸ at_new _ _
  obtain ⟨nE, hnE⟩ : ∃ n, n = w.heap.size := ⟨_, rfl⟩
  rw [← hnE] at hx
  have hma : wa.cell? ⟨0, 0, none⟩ = some (.int .i64 m) := by rw [hba.cell (cell_lt hm)]; exact hm
  have ha := Lib.hid (h.grow hba)
  have hB := Lib.hid hba
  have hmay := emay_any e
  have hok : okDo e = ((wordT e.data).2.2 && mayE e) := rfl
  have hnx : nextT L e = if okDo e = true then doT L (wordT e.data).1 (wordT e.data).2.1 else L := rfl
  have hup := next_up h.up e
  have hsm := next_small h.small e
  have hmd := @mayE_data e
  have hwz := wordT_size e.data
  have hW := fun w' hm' => tWord_any e.data m w' hs hm'
  clear h hba
  obtain ⟨a1, a2, a3, a4, a5, a6, s⟩ := e
  simp only [Ent.val] at hmay ⊢
  dsimp only at hok hnx hmd hwz hW hs
  obtain ⟨⟨a, b, k⟩, hwd⟩ : ∃ x, wordT s = x := ⟨_, rfl⟩
  rw [hwd] at hok hnx hwz hW
  obtain ⟨my, hmy⟩ : ∃ x, mayE (⟨a1, a2, a3, a4, a5, a6, s⟩ : Ent) = x := ⟨_, rfl⟩
  rw [hmy] at hok hmd hmay
  dsimp only at hok hnx hwz hW
  generalize nextT L ⟨a1, a2, a3, a4, a5, a6, s⟩ = L' at hnx hup hsm ⊢
  generalize okDo ⟨a1, a2, a3, a4, a5, a6, s⟩ = ok at hok hnx ⊢
  subst hok
  clear hwd hmy
  replace hx := Lib.hid hx
  replace hnx := Lib.hid hnx
  replace hup := Lib.hid hup
  replace hsm := Lib.hid hsm
  replace hmd := Lib.hid hmd
  replace hW := Lib.hid hW
  replace hmay := Lib.hid hmay
  have c0 := cell_at hx.out 0
  have c1 := cell_at hx.out 1
  have c2 := cell_at hx.out 2
  have c3 := cell_at hx.out 3
  have c4 := cell_at hx.out 4
  have c5 := cell_at hx.out 5
  have c6 := cell_at hx.out 6
  simp only [List.getElem?_toArray, List.getElem?_cons_zero, List.getElem?_cons_succ] at c0 c1 c2 c3 c4 c5 c6
  go_enter Tryz.func168, Tryz.ntmps168
  go_upto_region 1 with (fail)
  rw [← hwa, ← hnE]
  clear hwa
  replace hnE := Lib.hid hnE
  go_wp2_with fail
  refine (hW.out _ hma).mono ?_
  rintro r w2 ⟨rfl, hb2⟩
  clear c0 c1 c2 c3 c4 c5 c6
  replace hx := Lib.hid (at_below hx.out hb2)
  replace ha := Lib.hid (ha.out.grow hb2)
  replace hB := Lib.hid (hB.out.trans (hb2.mono hB.out.size))
  clear hb2 hma hW
  have c0 := cell_at hx.out 0
  have c1 := cell_at hx.out 1
  have c2 := cell_at hx.out 2
  have c3 := cell_at hx.out 3
  have c4 := cell_at hx.out 4
  have c5 := cell_at hx.out 5
  have c6 := cell_at hx.out 6
  simp only [List.getElem?_toArray, List.getElem?_cons_zero, List.getElem?_cons_succ] at c0 c1 c2 c3 c4 c5 c6
  cases k with
  | false =>
    have hL : Hid (L' = L) := Lib.hid (by rw [hnx.out]; rfl)
    go_wp2
    go_ret
    exact ⟨rfl, by rw [hL.out]; exact ha.out, .of_below hB.out⟩
  | true =>
    go_wp2_with fail
    refine (hmay.out _).mono ?_
    rintro r w3 ⟨rfl, hb3⟩
    clear c0 c1 c2 c3 c4 c5 c6
    replace ha := Lib.hid (ha.out.grow hb3)
    replace hB := Lib.hid (hB.out.trans (hb3.mono hB.out.size))
    clear hb3 hx
    cases my with
    | false =>
      have hL : Hid (L' = L) := Lib.hid (by rw [hnx.out]; rfl)
      go_wp2
      go_ret
      exact ⟨rfl, by rw [hL.out]; exact ha.out, .of_below hB.out⟩
    | true =>
      have h16 := hmd.out rfl
      have hz1 : a.size ≤ 1000 := by omega
      have hz2 : b.size ≤ 1000 := by omega
      have c0 := cell_at ha.out.ptr 0
      simp only [List.getElem?_toArray, List.getElem?_cons_zero] at c0
      have hown := ha.out.tight
      by_cases hb0 : b = ByteArray.empty
      · subst hb0
        have hL : Hid (L' = delT a L) := Lib.hid (by rw [hnx.out]; rfl)
        have hd := sNil
        have hD := Lib.hid (del_D L a)
        go_wp2_with (first
          | (at_delete; refine wpList_delete_own _ rfl _ _ 149 9 rfl 9 sKeyed Tryz.underlying149 _ tb _ _ rfl hown _ _ rfl (sKey hz1) ?_; intro w5 hown5 hturn5))
        rw [hD.out, ← hL.out] at hown5
        go_ret
        have ht := ha.out.turn hturn5 hown5 hup.out hsm.out
        exact ⟨rfl, ht.1, (Chg.of_below hB.out).more ht.2 (fun i hi => .inl hi)⟩
      · have hL : Hid (L' = insT a b (delT a L)) := Lib.hid (by
          rw [hnx.out, if_pos (show (true && true) = true from rfl)]
          unfold doT
          rw [if_neg (fun e => hb0 (ba_ext (by rw [List.length_eq_zero_iff.1 ((size_len b).trans e)]; rfl)))])
        have hd := sNe hb0
        have hD := Lib.hid (put_D L a b)
        have hlm : L.length < maxLen := by unfold maxLen; omega
        clear hb0
        go_wp2_with (first
          | (at_mapUpdate; refine wpList_mapUpdate_in _ rfl _ _ _ 149 rfl 9 9 sKeyed Tryz.underlying149 _ tb _ _ rfl hown hlm _ _ _ rfl rfl (sKey hz1) _ [] (sElem hz2) ?_; intro w5 hown5 hturn5))
        rw [hD.out, ← hL.out] at hown5
        go_ret
        have ht := ha.out.turn hturn5 hown5 hup.out hsm.out
        exact ⟨rfl, ht.1, (Chg.of_below hB.out).more ht.2 (fun i hi => .inl hi)⟩

theorem tDo_any (q tb : Nat) (L : Tb) (e : Ent) (m : Int) (w : World) (h : TbO w q tb L) (hl : L.length ≤ 1000) (hm : w.cell? ⟨0, 0, none⟩ = some (.int .i64 m)) (hs : e.data.size < 4294967281) :
    Calls Tryz.prog 168 #[.pointer (some ⟨q, 0, none⟩), e.val] w fun r w' => r = .returned (.bool (okDo e)) ∧ TbO w' q tb (nextT L e) ∧ Chg (fun j => j = tb) w w' := tDo_gen q tb L e m w h (by omega) hm hs

set_option maxRecDepth 100000 in
set_option maxHeartbeats 1000000 in
theorem tDo_nil (e : Ent) (m : Int) (w : World) (hm : w.cell? ⟨0, 0, none⟩ = some (.int .i64 m)) (hs : e.data.size < 4294967281) :
    Calls Tryz.prog 168 #[.pointer none, e.val] w fun r w' => r = .returned (.bool false) ∧ Below w.heap.size w w' := by
  obtain ⟨wa, hwa⟩ : ∃ W, W = w.alloc (.cells e.cells.toArray 101) := ⟨_, rfl⟩
  have hba : Below w.heap.size w wa := hwa ▸ (Below.refl _ _).alloc (Nat.le_refl _) _
  have hx : wa.heap[w.heap.size]? = some (.cells e.cells.toArray 101 (0, 0)) := hwa ▸ at_new _ _
  obtain ⟨nE, hnE⟩ : ∃ n, n = w.heap.size := ⟨_, rfl⟩
  rw [← hnE] at hx
  have hma : wa.cell? ⟨0, 0, none⟩ = some (.int .i64 m) := by rw [hba.cell (cell_lt hm)]; exact hm
  have hB := Lib.hid hba
  have hW := fun w' hm' => tWord_any e.data m w' hs hm'
  obtain ⟨a1, a2, a3, a4, a5, a6, s⟩ := e
  simp only [Ent.val]
  dsimp only at hW hs
  generalize wordT s = x at hW
  obtain ⟨a, b, k⟩ := x
  dsimp only at hW
  have c6 := cell_at hx 6
  simp only [List.getElem?_toArray, List.getElem?_cons_zero, List.getElem?_cons_succ] at c6
  replace hW := Lib.hid hW
  clear hba hx
  go_enter Tryz.func168, Tryz.ntmps168
  go_upto_region 1 with (fail)
  rw [← hwa, ← hnE]
  clear hwa
  replace hnE := Lib.hid hnE
  go_wp2_with fail
  refine (hW.out _ hma).mono ?_
  rintro r w2 ⟨rfl, hb2⟩
  replace hB := Lib.hid (hB.out.trans (hb2.mono hB.out.size))
  clear hb2 hma hW c6
  go_wp2
  go_ret
  exact ⟨rfl, hB.out⟩
end Go.Proofs.YtphlcbbdpmkipaaGreat
/- Contracts: numbers and texts behind bytes. -/
namespace Go.Proofs.YtphlcbbdpmkipaaGreat
open Go.RowKit
set_option linter.unusedVariables false

def byteV (l : List UInt8) : List Value := l.map fun b => .int .u8 b.toNat
/-- a row of bytes of the call's own -/
def ownB (w : World) (base : Nat) (v : Value) (l : List UInt8) : Prop := w.ownsRow base 5 1 v l.length (byteV l)
theorem byteV_app (l m : List UInt8) : byteV (l ++ m) = byteV l ++ byteV m := List.map_append
theorem infoByte : (Tryz.prog.info? 5).map (fun i => (i.zero, i.size, i.bytes)) = some (some (.int .u8 0), 1, 1) := by kernel_rfl
theorem ownB.grow {w w' : World} {base : Nat} {v : Value} {l : List UInt8} (h : ownB w base v l) (hb : Below w.heap.size w w') : ownB w' base v l :=
  World.ownsRow.kept h (row := none) ⟨hb.os, hb.tape, hb.output, hb.size, fun k hk _ => hb.block k hk⟩ (by cases v.ownBlock with | none => exact .inl rfl | some k => exact .inr (by simp))

set_option maxRecDepth 100000 in
set_option maxHeartbeats 4000000 in
theorem nPut_any (v : Value) (l : List UInt8) (base n : Nat) (w : World) (h : ownB w base v l) (hb : base ≤ w.heap.size) (hl : l.length ≤ 100000) (hn : n ≤ 60) :
    Calls Tryz.prog 200 #[v, .int .i64 (n : Int)] w fun r w' => ∃ v', r = .returned v' ∧ ownB w' base v' (l ++ [UInt8.ofNat (2 * n)]) ∧ Below base w w' := by
  obtain ⟨i0, hi, hz0, hz1, hz2⟩ := info_parts infoByte
  replace hi := Lib.hid hi
  have hlen : (l ++ [UInt8.ofNat (2 * n)]).length = l.length + 1 := by simp
  have hbv : byteV (l ++ [UInt8.ofNat (2 * n)]) = byteV l ++ [.int .u8 ((2 * n : Nat) : Int)] := by
    rw [byteV_app]
    unfold byteV
    simp
    omega
  unfold ownB at h
  replace hbv := Lib.hid hbv
  replace hlen := Lib.hid hlen
  replace h := Lib.hid h
  go_enter Tryz.func200, Tryz.ntmps200
  go_wp2
  go_loopw [0, 5] (fun a u wr => a = v ∧ u = .int .u64 ((n : Int) * 2) ∧ wr = w) (fun _ _ _ => 0)
  case atStart => exact ⟨rfl, rfl, rfl⟩
  case round =>
    obtain ⟨rfl, rfl, rfl⟩ := hrel
    have hn' : Hid ((n : Int) * 2 = ((2 * n : Nat) : Int)) := Lib.hid (by omega)
    have hn2 : ¬ (n : Int) * 2 > 127 := by omega
    have hi' := hi.out
    go_wp2_with (first
      | (at_builtin; refine wpList_append_own _ rfl _ _ 72 rfl base 5 i0 (.int .u8 0) 1 1 Tryz.underlying72 hi' hz0 hz1 hz2 rfl (by decide) _ _ _ rfl (World.ownsRow.alloc h.out _) ⟨_, 0, none⟩ 1 1 [.int .u8 ((n : Int) * 2)] rfl rfl ?c1 ?c2 ?c3 ?c4 ?c5 ?_))
    case c2 => rfl
    case c3 => unfold maxLen; omega
    case c4 => omega
    case c5 => omega
    intro v7 w7 hown7 hg7 _
    rw [hn'.out, ← hbv.out, ← hlen.out] at hown7
    have hB7 : Below base wr w7 := ((Below.refl base wr).alloc hb _).grown hg7 (by simp; omega) (fun k hk => (h.out.lt k hk).1)
    clear hg7
    replace hown7 := Lib.hid hown7
    replace hB7 := Lib.hid hB7
    go_wp2
    go_ret
    exact ⟨v7, rfl, hown7.out, hB7.out⟩

theorem strV (s : ByteArray) : Lib.strCells s = byteV s.data.toList := rfl
set_option maxRecDepth 100000 in
set_option maxHeartbeats 4000000 in
theorem nPutText_any (v : Value) (l : List UInt8) (base : Nat) (s : ByteArray) (w : World) (h : ownB w base v l) (hb : base ≤ w.heap.size) (hl : l.length ≤ 90000) (hs : s.size ≤ 60) :
    Calls Tryz.prog 153 #[v, .string s] w fun r w' => ∃ v', r = .returned v' ∧ ownB w' base v' (l ++ txtT s) ∧ Below base w w' := by
  obtain ⟨i0, hi, hz0, hz1, hz2⟩ := info_parts infoByte
  replace hi := Lib.hid hi
  have happ : l ++ txtT s = (l ++ [UInt8.ofNat (2 * s.size)]) ++ s.data.toList := by unfold txtT; simp
  rw [happ]
  have hlen : ((l ++ [UInt8.ofNat (2 * s.size)]) ++ s.data.toList).length = (l ++ [UInt8.ofNat (2 * s.size)]).length + s.size := by rw [List.length_append, size_len]
  have hbv : byteV ((l ++ [UInt8.ofNat (2 * s.size)]) ++ s.data.toList) = byteV (l ++ [UInt8.ofNat (2 * s.size)]) ++ Lib.strCells s := by rw [byteV_app, strV]
  have hl1 : (l ++ [UInt8.ofNat (2 * s.size)]).length ≤ 90001 := by simp; omega
  clear happ
  have hP := nPut_any v l base s.size w h hb (by omega) hs
  generalize l ++ [UInt8.ofNat (2 * s.size)] = l1 at hbv hlen hl1 hP ⊢
  replace hbv := Lib.hid hbv
  replace hlen := Lib.hid hlen
  replace hP := Lib.hid hP
  go_enter Tryz.func153, Tryz.ntmps153
  go_wp2_with fail
  refine hP.out.mono ?_
  rintro r w1 ⟨v1, rfl, ho1, hb1⟩
  have hsz := hb1.size
  have hi' := hi.out
  unfold ownB at ho1
  replace ho1 := Lib.hid ho1
  replace hb1 := Lib.hid hb1
  go_wp2_with (first
    | (at_builtin; refine Lib.wpList_append_own_string _ rfl _ _ 72 9 rfl base 5 i0 Tryz.underlying72 Tryz.underlying9 hi' hz0 hz1 hz2 _ _ _ rfl ho1.out s rfl ?d1 ?d2 ?d3 ?_))
  case d1 => unfold maxLen; omega
  case d2 => omega
  case d3 => omega
  intro v7 w7 hown7 hg7 _
  rw [← hbv.out, ← hlen.out] at hown7
  have hB7 : Below base w w7 := hb1.out.grown hg7 (by omega) (fun k hk => (ho1.out.lt k hk).1)
  clear hg7
  replace hown7 := Lib.hid hown7
  replace hB7 := Lib.hid hB7
  go_wp2
  go_ret
  exact ⟨v7, rfl, hown7.out, hB7.out⟩
end Go.Proofs.YtphlcbbdpmkipaaGreat
/- Contract: the sum of bytes. -/
namespace Go.Proofs.YtphlcbbdpmkipaaGreat
open Go.RowKit
set_option linter.unusedVariables false

def rdB (w : World) (v : Value) (l : List UInt8) : Prop :=
  ∃ a cap, v = .slice a l.length cap ∧ l.length ≤ cap ∧ cap ≤ maxLen ∧ (0 < l.length → ∃ b off, a = some ⟨b, off, none⟩ ∧ ∀ j (h : j < l.length), w.cell? ⟨b, off + j, none⟩ = some (.int .u8 l[j].toNat))
theorem ownB.rd {w : World} {base : Nat} {v : Value} {l : List UInt8} (h : ownB w base v l) : rdB w v l := by
  obtain ⟨hl, ⟨rfl, h0⟩ | ⟨g, cap, cur, rfl, hb, hg, hn, hc, hs, ht⟩⟩ := h
  · exact ⟨none, 0, by rw [h0], by rw [h0]; exact Nat.zero_le _, Nat.zero_le _, fun h => by omega⟩
  · refine ⟨some ⟨g, 0, none⟩, cap, rfl, hn, hc, fun _ => ⟨g, 0, rfl, fun j hj => ?_⟩⟩
    have h1 : (cur.toList.take (l.length * 1))[j]? = some (.int .u8 l[j].toNat) := by
      rw [ht]; unfold byteV
      rw [List.getElem?_map, List.getElem?_eq_getElem hj]; rfl
    rw [List.getElem?_take] at h1
    split at h1
    · simp [World.cell?, hg] at h1 ⊢
      simpa using h1
    · cases h1
theorem foldl_take {α β : Type} (f : α → β → α) (a : α) (l : List β) (k : Nat) (h : k < l.length) : (l.take (k + 1)).foldl f a = f ((l.take k).foldl f a) l[k] := by
  rw [List.take_succ_eq_append_getElem h, List.foldl_append]; rfl
theorem foldC_take (l : List UInt8) (x : Nat) (k : Nat) (h : k < l.length) : (l.take (k + 1)).foldl byteC x = byteC ((l.take k).foldl byteC x) l[k] := by
  rw [List.take_succ_eq_append_getElem h, List.foldl_append]; rfl

theorem exprC (z : Nat) (hz : z < 4294967296) : bits .xor .u32 ((z : Int) / 2) (bits .and .u32 3988292384 (-bits .and .u32 (z : Int) 1 % 4294967296)) = ((stepC z : Nat) : Int) := by
  have h1 : bits .and .u32 (z : Int) 1 = ((z % 2 : Nat) : Int) := by rw [show (1 : Int) = ((1 : Nat) : Int) from rfl, u32_and_nat z 1 hz (by omega), Nat.and_one_is_mod]
  have h2 : (z : Int) / 2 = ((z / 2 : Nat) : Int) := by omega
  rw [h1, h2]
  unfold stepC
  by_cases h : z % 2 = 1
  · rw [if_pos h, h, show (-((1 : Nat) : Int)) % 4294967296 = ((4294967295 : Nat) : Int) by decide, show (3988292384 : Int) = ((3988292384 : Nat) : Int) from rfl, u32_and_nat _ _ (by omega) (by omega),
      show (3988292384 &&& 4294967295 : Nat) = 3988292384 by decide, u32_xor_nat _ _ (by omega) (by omega)]
  · have h0 : z % 2 = 0 := by omega
    rw [if_neg h, h0, show (-((0 : Nat) : Int)) % 4294967296 = ((0 : Nat) : Int) by decide, show (3988292384 : Int) = ((3988292384 : Nat) : Int) from rfl, u32_and_nat _ _ (by omega) (by omega),
      show (3988292384 &&& 0 : Nat) = 0 by decide, u32_xor_nat _ _ (by omega) (by omega), Nat.xor_zero]
set_option maxRecDepth 100000 in
set_option maxHeartbeats 4000000 in
theorem cSum_any (v : Value) (l : List UInt8) (w : World) (h : rdB w v l) :
    Calls Tryz.prog 154 #[v] w fun r w' => r = .returned (.int .u32 (crcT l : Nat)) ∧ w = w' := by
  obtain ⟨a, cap, rfl, hm, hM, ha⟩ := h
  unfold maxLen at hM
  replace ha := Lib.hid ha
  go_enter Tryz.func154, Tryz.ntmps154
  go_wp2
  go_loop [3, 8] (fun s i => ∃ k : Nat, k ≤ l.length ∧ i = .int .i64 k ∧ s = .int .u32 (((l.take k).foldl byteC 4294967295 : Nat) : Int)) (fun _ i => l.length - (intOf i).toNat)
  case atStart => exact ⟨0, Nat.zero_le _, rfl, rfl⟩
  case round =>
    obtain ⟨k, hk, rfl, rfl⟩ := hrel
    by_cases hlt : k < l.length
    · obtain ⟨g, off, rfl, hc⟩ := ha.out (by omega)
      have hck := hc k hlt
      have hst := foldC_take l 4294967295 k hlt
      have hxl := foldC_lt (l.take k) (x := 4294967295) (by omega)
      clear hc
      generalize l[k] = b at hck hst
      generalize (l.take k).foldl byteC 4294967295 = x at hst hxl ⊢
      replace hst := Lib.hid hst
      have hbl := b.toNat_lt
      go_upto_region 6 with (fail)
      rw [u32_xor_nat x b.toNat hxl (by omega)]
      have hyl := xor_lt hxl (show b.toNat < 4294967296 by omega)
      have hst2 : Hid ((l.take (k + 1)).foldl byteC 4294967295 = stepsC 8 (x ^^^ b.toNat)) := hst
      clear hst
      generalize x ^^^ b.toNat = y at hst2 hyl ⊢
      go_wp2
      go_loop [3, 16] (fun s i => ∃ j : Nat, j ≤ 8 ∧ i = .int .i64 j ∧ s = .int .u32 ((stepsC j y : Nat) : Int)) (fun _ i => 8 - (intOf i).toNat)
      case atStart => exact ⟨0, Nat.zero_le _, rfl, rfl⟩
      case round =>
        obtain ⟨j, hj, rfl, rfl⟩ := hrel
        by_cases hlt8 : j < 8
        · have hsl := stepsC_lt hyl j
          have hnx : stepsC (j + 1) y = stepC (stepsC j y) := rfl
          generalize stepsC j y = z at hsl hnx ⊢
          replace hnx := Lib.hid hnx
          go_upto_region 9 with (fail)
          rw [exprC z hsl, ← hnx.out]
          go_wp2
          go_round
          case rel => exact ⟨j + 1, by omega, by go_num, rfl⟩
          case measure => simp [intOf]; omega
        · obtain rfl : j = 8 := by omega
          rw [← hst2.out]
          go_wp2
          go_round
          case rel => exact ⟨k + 1, by omega, by go_num, rfl⟩
          case measure => simp [intOf]; omega
    · obtain rfl : k = l.length := by omega
      rw [List.take_length]
      have hcl := foldC_lt l (x := 4294967295) (by omega)
      have hcr : Hid (crcT l = 4294967295 ^^^ l.foldl byteC 4294967295) := Lib.hid rfl
      generalize l.foldl byteC 4294967295 = x at hcl hcr ⊢
      have hsg : IntKind.u32.signed = false := rfl
      have hmx : Hid (bits .xor .u32 IntKind.u32.max (x : Int) = ((crcT l : Nat) : Int)) := Lib.hid (by
        rw [show IntKind.u32.max = ((4294967295 : Nat) : Int) by decide, u32_xor_nat _ _ (by omega) hcl, hcr.out])
      go_wp2
      all_goals first | (exfalso; simp_all; done) | skip
      all_goals
        rw [hmx.out]
        go_ret
        exact ⟨rfl, rfl⟩
end Go.Proofs.YtphlcbbdpmkipaaGreat
/- Contract: the sum of a table. -/
namespace Go.Proofs.YtphlcbbdpmkipaaGreat
open Go.RowKit Go.Maps
set_option linter.unusedVariables false

theorem strsV_names (L : Tb) : strsV (L.map nm) = L.map fun p => Value.string p.1 := by
  unfold strsV
  rw [List.map_map]
  refine List.map_congr_left fun p _ => ?_
  show Value.string ⟨p.1.data.toList.toArray⟩ = _
  rw [show (⟨p.1.data.toList.toArray⟩ : ByteArray) = p.1 from ba_ext (by simp)]
theorem tLook {w : World} {q tb : Nat} {L : Tb} (h : TbO w q tb L) {a : ByteArray} (ha : a.size ≤ 1000) : (Instr.lookup 149 (.map (some tb)) (.string a) false).run Tryz.prog w = .ok (.string (getT L a).1) w := by
  obtain ⟨v, ps, hrun, hv⟩ := h.tight.lookup sKeyed Tryz.underlying149 (Tryz.zeroValue9 w) (sElem (a := ByteArray.empty) (by decide)) (sKey ha)
  obtain ⟨c, rfl, hc, _⟩ := plainElem_string_inv Tryz.underlying9 hv
  have e := congrArg Prod.fst hc
  rw [show ((ByteArray.empty).data.toList : List UInt8) = [] from rfl, at_D L a] at e
  simp only [DataW.lit.injEq, Lit.string.injEq] at e
  rw [hrun, ba_ext e]
theorem bytesT_take (L : Tb) (k : Nat) (h : k < L.length) : bytesT (L.take (k + 1)) = (bytesT (L.take k) ++ txtT L[k].1) ++ txtT L[k].2 := by
  unfold bytesT
  rw [List.take_succ_eq_append_getElem h, List.flatMap_append]
  simp
theorem bytesT_len {L : Tb} (hs : ∀ p ∈ L, p.1.size ≤ 16 ∧ p.2.size ≤ 16) : ∀ k, (bytesT (L.take k)).length ≤ 34 * k := by
  intro k
  induction k with
  | zero => simp [bytesT]
  | succ k ih =>
    by_cases hlt : k < L.length
    · obtain ⟨h1, h2⟩ := hs L[k] (List.getElem_mem hlt)
      rw [bytesT_take L k hlt]
      unfold txtT
      simp only [List.length_append, List.length_cons, size_len]
      omega
    · rw [List.take_of_length_le (by omega)] at ih ⊢
      omega

set_option maxRecDepth 100000 in
set_option maxHeartbeats 8000000 in
theorem tSum_any (q tb : Nat) (L : Tb) (w : World) (h : TbO w q tb L) (hl : L.length ≤ 100) :
    Calls Tryz.prog 84 #[.pointer (some ⟨q, 0, none⟩)] w fun r w' => r = .returned (.int .u32 (crcT (bytesT L) : Nat)) ∧ Below w.heap.size w w' := by
  have hH := Lib.hid h
  have c0 := cell_at h.ptr 0
  simp only [List.getElem?_toArray, List.getElem?_cons_zero] at c0
  clear h
  go_enter Tryz.func84, Tryz.ntmps84
  go_wp2_with fail
  refine (tNames_any q tb L w hH.out (by omega)).mono ?_
  rintro r w1 ⟨v, rfl, hrow, hb1⟩
  have hT := hH.out.grow hb1
  have hlk : ∀ (x : ExtF (fun j => w1.heap.size ≤ j) w1) (a : ByteArray), a.size ≤ 1000 → (Instr.lookup 149 (.map (some tb)) (.string a) false).run Tryz.prog (upF (fun j => w1.heap.size ≤ j) w1 x) = .ok (.string (getT L a).1) (upF (fun j => w1.heap.size ≤ j) w1 x) := fun x a ha =>
    tLook (hT.grow ((upF_chg _ _ x).below (Nat.le_refl _) (fun k hk => hk))) ha
  have hlq := hT.ltq
  have hlb := hT.ltb
  have hup := Lib.hid hT.up
  have hsm := Lib.hid hT.small
  have hbl := Lib.hid (bytesT_len hT.small)
  clear c0
  have c0 := cell_at hT.ptr 0
  simp only [List.getElem?_toArray, List.getElem?_cons_zero] at c0
  have u0 := upF_cell (F := fun j => w1.heap.size ≤ j) (b := w1) (Nat.not_le.2 hlq) c0
  rw [strsV_names] at hrow
  have hcells : ∃ a cap, v = .slice a L.length cap ∧ L.length ≤ cap ∧ cap ≤ maxLen ∧ (0 < L.length → ∃ g, a = some ⟨g, 0, none⟩ ∧ ∀ k (hk : k < L.length), w1.cell? ⟨g, k, none⟩ = some (.string L[k].1)) := by
    obtain ⟨_, ⟨rfl, h0⟩ | ⟨g, cap, cur, rfl, hb, hg, hn, hc, hs, ht⟩⟩ := hrow
    · exact ⟨none, 0, by rw [h0], by omega, Nat.zero_le _, fun h => by omega⟩
    · refine ⟨some ⟨g, 0, none⟩, cap, rfl, hn, hc, fun _ => ⟨g, rfl, fun k hk => ?_⟩⟩
      have h1 : (cur.toList.take (L.length * 1))[k]? = some (.string L[k].1) := by
        rw [ht, List.getElem?_map, List.getElem?_eq_getElem hk]; rfl
      rw [List.getElem?_take] at h1
      split at h1
      · simp [World.cell?, hg] at h1 ⊢
        simpa using h1
      · cases h1
  obtain ⟨a, cap, rfl, hm, hM, hc⟩ := hcells
  unfold maxLen at hM
  replace hc := Lib.hid hc
  replace hlk := Lib.hid hlk
  replace hT := Lib.hid hT
  replace hb1 := Lib.hid hb1
  clear hrow hH c0
  go_wp2
  go_loopw [3, 11] (fun s i wr => ∃ k : Nat, k ≤ L.length ∧ i = .int .i64 k ∧ ownB wr w1.heap.size s (bytesT (L.take k)) ∧ Below w1.heap.size w1 wr) (fun _ i _ => L.length - (intOf i).toNat)
  case atStart => exact ⟨0, Nat.zero_le _, rfl, World.ownsRow_nil _ _ _ _, Below.refl _ _⟩
  case round =>
    obtain ⟨k, hk, rfl, hown, hbel⟩ := hrel
    by_cases hlt : k < L.length
    · obtain ⟨g, rfl, hce⟩ := hc.out (by omega)
      have hcw := hce k hlt
      have hcl : wr.cell? ⟨g, k, none⟩ = some (.string L[k].1) := by rw [hbel.cell (cell_lt hcw)]; exact hcw
      have hst := bytesT_take L k hlt
      have hlen := hbl.out k
      obtain ⟨hs1, hs2⟩ := hsm.out _ (List.getElem_mem hlt)
      have hlk1 := fun x => hlk.out x L[k].1 (by omega)
      have hget := get_mem hup.out (List.getElem_mem hlt)
      rw [hget] at hlk1
      clear hce hcw hget
      dsimp only at hlk1
      generalize L[k] = p at hcl hst hs1 hs2 hlk1
      obtain ⟨nmk, val⟩ := p
      dsimp only at hcl hst hs1 hs2 hlk1
      generalize bytesT (L.take k) = A at hown hst hlen
      have hlA : (A ++ txtT nmk).length ≤ 90000 := by
        unfold txtT
        simp only [List.length_append, List.length_cons, size_len]
        omega
      replace hst := Lib.hid hst
      replace hown := Lib.hid hown
      replace hbel := Lib.hid hbel
      go_upto_region 7 with (fail)
      refine wp_region_pm (fun j => w1.heap.size ≤ j) w1 (.q 0 (.q 1 (.q 3 (.q 4 (.q 5 (.q 6 (.q 7 (.q 8 (.l 2 (.l 9 (.q 10 .fin))))))))))) (by kernel_rfl) (by kernel_rfl) (.of_below hbel.out) ?_
      intro w2 hheap hb2 _
      have hbel2 := hbel.out.trans (hb2.mono hbel.out.size)
      have hown2 := hown.out.grow hb2
      clear hheap hb2 hbel hown hcl
      repeat (refine pm_q rfl ?_; go_big_quiet_step (fail); refine wpQuiet_nil ?_)
      refine pm_l rfl (by kernel_rfl) ?_
      intro K hK
      go_simp
      refine (nPutText_any _ A w1.heap.size nmk w2 hown2 hbel2.size (by omega) (by omega)).mono ?_
      rintro r w3 ⟨v3, rfl, ho3, hb3⟩
      have hbel3 := hbel2.trans hb3
      refine hK _ _ (.of_below hbel3) ?_
      clear hK K hown2 hb3 hbel2
      refine pm_l rfl (by kernel_rfl) ?_
      intro K hK
      go_simp
      refine (nPutText_any _ (A ++ txtT nmk) w1.heap.size val w3 ho3 hbel3.size hlA (by omega)).mono ?_
      rintro r w4 ⟨v4, rfl, ho4, hb4⟩
      have hbel4 := hbel3.trans hb4
      refine hK _ _ (.of_below hbel4) ?_
      clear hK K ho3 hb4 hbel3
      repeat (refine pm_q rfl ?_; go_big_quiet_step (fail); refine wpQuiet_nil ?_)
      refine pm_fin ?_
      rw [← hst.out] at ho4
      replace ho4 := Lib.hid ho4
      replace hbel4 := Lib.hid hbel4
      clear hlk1 u0
      go_wp2
      go_roundw
      case rel => exact ⟨k + 1, by omega, by go_num, ho4.out, hbel4.out⟩
      case measure => simp [intOf]; omega
    · obtain rfl : k = L.length := by omega
      rw [List.take_length] at hown
      have hrd := Lib.hid hown.rd
      have hB := Lib.hid (hb1.out.trans (hbel.mono hb1.out.size))
      clear hown hbel
      go_wp2_with fail
      refine (cSum_any _ _ _ hrd.out).mono ?_
      rintro r w4 ⟨rfl, rfl⟩
      go_wp2
      go_ret
      exact ⟨rfl, hB.out⟩

set_option maxRecDepth 100000 in
set_option maxHeartbeats 1000000 in
theorem tSum_nil (w : World) : Calls Tryz.prog 84 #[.pointer none] w fun r w' => r = .returned (.int .u32 0) ∧ w = w' := by
  go_enter Tryz.func84, Tryz.ntmps84
  go_wp2
  go_ret
  exact ⟨rfl, rfl⟩
end Go.Proofs.YtphlcbbdpmkipaaGreat
/- Contracts of the reference: numbers, texts, sums, words. -/
namespace Go.Proofs.YtphlcbbdpmkipaaGreat
open Go.RowKit
set_option linter.unusedVariables false

set_option maxRecDepth 100000 in
set_option maxHeartbeats 4000000 in
theorem r1Put_any (n : Nat) (w : World) (hn : n ≤ 60) :
    Calls Tryz.prog 77 #[.int .i64 (n : Int)] w fun r w' => ∃ v', r = .returned v' ∧ ownB w' w.heap.size v' [UInt8.ofNat (2 * n)] ∧ Below w.heap.size w w' := by
  obtain ⟨i0, hi, hz0, hz1, hz2⟩ := info_parts infoByte
  replace hi := Lib.hid hi
  have hbv : byteV [UInt8.ofNat (2 * n)] = [.int .u8 ((2 * n : Nat) : Int)] := by
    unfold byteV
    simp
    omega
  replace hbv := Lib.hid hbv
  have hnil := Lib.hid (World.ownsRow_nil w w.heap.size 5 1)
  obtain ⟨base, hbase⟩ : ∃ b, b = w.heap.size := ⟨_, rfl⟩
  rw [← hbase] at hnil ⊢
  replace hbase := Lib.hid hbase
  go_enter Tryz.func77, Tryz.ntmps77
  go_wp2
  go_loopw [3, 4] (fun u a wr => u = .int .u64 ((n : Int) * 2) ∧ a = .slice none 0 0 ∧ wr = w) (fun _ _ _ => 0)
  case atStart => exact ⟨rfl, rfl, rfl⟩
  case round =>
    obtain ⟨rfl, rfl, rfl⟩ := hrel
    have hn' : Hid ((n : Int) * 2 = ((2 * n : Nat) : Int)) := Lib.hid (by omega)
    have hn2 : ¬ (n : Int) * 2 ≥ 128 := by omega
    have hi' := hi.out
    go_wp2_with (first
      | (at_builtin; refine wpList_append_own _ rfl _ _ 72 rfl base 5 i0 (.int .u8 0) 1 1 Tryz.underlying72 hi' hz0 hz1 hz2 rfl (by decide) _ _ _ rfl (World.ownsRow.alloc hnil.out _) ⟨_, 0, none⟩ 1 1 [.int .u8 ((n : Int) * 2)] rfl rfl ?c1 ?c2 ?c3 ?c4 ?c5 ?_))
    case c2 => rfl
    case c3 => unfold maxLen; omega
    case c5 => have := hbase.out; omega
    intro v7 w7 hown7 hg7 _
    rw [hn'.out, ← hbv.out] at hown7
    have hB7 : Below base wr w7 := ((Below.refl base wr).alloc (by rw [hbase.out]; exact Nat.le_refl _) _).grown hg7 (by have := hbase.out; simp; omega) (fun k hk => by cases hk)
    clear hg7
    have ho7 : ownB w7 base v7 [UInt8.ofNat (2 * n)] := hown7
    clear hown7
    replace ho7 := Lib.hid ho7
    replace hB7 := Lib.hid hB7
    go_wp2
    go_ret
    exact ⟨v7, rfl, ho7.out, hB7.out⟩

set_option maxRecDepth 100000 in
set_option maxHeartbeats 4000000 in
theorem r1PutText_any (s : ByteArray) (w : World) (hs : s.size ≤ 60) :
    Calls Tryz.prog 149 #[.string s] w fun r w' => ∃ v', r = .returned v' ∧ ownB w' w.heap.size v' (txtT s) ∧ Below w.heap.size w w' := by
  obtain ⟨i0, hi, hz0, hz1, hz2⟩ := info_parts infoByte
  replace hi := Lib.hid hi
  have hlen : (txtT s).length = 1 + s.size := by unfold txtT; rw [List.length_cons, size_len]; omega
  have hbv : byteV (txtT s) = byteV [UInt8.ofNat (2 * s.size)] ++ Lib.strCells s := by rw [strV, ← byteV_app]; rfl
  have hP := r1Put_any s.size w hs
  generalize UInt8.ofNat (2 * s.size) = ub at hP hbv
  replace hbv := Lib.hid hbv
  replace hlen := Lib.hid hlen
  replace hP := Lib.hid hP
  go_enter Tryz.func149, Tryz.ntmps149
  go_wp2_with fail
  refine hP.out.mono ?_
  rintro r w1 ⟨v1, rfl, ho1, hb1⟩
  have hsz := hb1.size
  have hi' := hi.out
  unfold ownB at ho1
  replace ho1 := Lib.hid ho1
  replace hb1 := Lib.hid hb1
  go_wp2_with (first
    | (at_builtin; refine Lib.wpList_append_own_string _ rfl _ _ 72 9 rfl w.heap.size 5 i0 Tryz.underlying72 Tryz.underlying9 hi' hz0 hz1 hz2 _ _ _ rfl ho1.out s rfl ?d1 ?d2 ?d3 ?_))
  case d1 => simp only [List.length_cons, List.length_nil]; unfold maxLen; omega
  case d2 => simp only [List.length_cons, List.length_nil]; omega
  case d3 => omega
  intro v7 w7 hown7 hg7 _
  have ho7 : ownB w7 w.heap.size v7 (txtT s) := by unfold ownB; rw [hbv.out, hlen.out]; exact hown7
  have hB7 : Below w.heap.size w w7 := hb1.out.grown hg7 (by omega) (fun k hk => (ho1.out.lt k hk).1)
  clear hg7 hown7
  replace ho7 := Lib.hid ho7
  replace hB7 := Lib.hid hB7
  go_wp2
  go_ret
  exact ⟨v7, rfl, ho7.out, hB7.out⟩

set_option maxRecDepth 100000 in
set_option maxHeartbeats 4000000 in
theorem r1Sum_any (v : Value) (l : List UInt8) (w : World) (h : rdB w v l) :
    Calls Tryz.prog 148 #[v] w fun r w' => r = .returned (.int .u32 (crcT l : Nat)) ∧ w = w' := by
  obtain ⟨a, cap, rfl, hm, hM, ha⟩ := h
  unfold maxLen at hM
  replace ha := Lib.hid ha
  go_enter Tryz.func148, Tryz.ntmps148
  go_wp2
  go_loop [3, 4] (fun s i => ∃ k : Nat, k ≤ l.length ∧ i = .int .i64 k ∧ s = .int .u32 (((l.take k).foldl byteC 4294967295 : Nat) : Int)) (fun _ i => l.length - (intOf i).toNat)
  case atStart => exact ⟨0, Nat.zero_le _, rfl, rfl⟩
  case round =>
    obtain ⟨k, hk, rfl, rfl⟩ := hrel
    by_cases hlt : k < l.length
    · obtain ⟨g, off, rfl, hc⟩ := ha.out (by omega)
      have hck := hc k hlt
      have hst := foldC_take l 4294967295 k hlt
      have hxl := foldC_lt (l.take k) (x := 4294967295) (by omega)
      clear hc
      generalize l[k] = b at hck hst
      generalize (l.take k).foldl byteC 4294967295 = x at hst hxl ⊢
      replace hst := Lib.hid hst
      have hbl := b.toNat_lt
      go_upto_region 6 with (fail)
      rw [u32_xor_nat x b.toNat hxl (by omega)]
      have hyl := xor_lt hxl (show b.toNat < 4294967296 by omega)
      have hst2 : Hid ((l.take (k + 1)).foldl byteC 4294967295 = stepsC 8 (x ^^^ b.toNat)) := hst
      clear hst
      generalize x ^^^ b.toNat = y at hst2 hyl ⊢
      go_wp2
      go_loop [3, 5] (fun s i => ∃ j : Nat, j ≤ 8 ∧ i = .int .i64 j ∧ s = .int .u32 ((stepsC j y : Nat) : Int)) (fun _ i => 8 - (intOf i).toNat)
      case atStart => exact ⟨0, Nat.zero_le _, rfl, rfl⟩
      case round =>
        obtain ⟨j, hj, rfl, rfl⟩ := hrel
        by_cases hlt8 : j < 8
        · have hsl := stepsC_lt hyl j
          have hnx : stepsC (j + 1) y = stepC (stepsC j y) := rfl
          generalize stepsC j y = z at hsl hnx ⊢
          unfold stepC at hnx
          by_cases hodd : z % 2 = 1
          · rw [if_pos hodd] at hnx
            have d1 : (((z : Int) % 2) == 1) = true := by simp; omega
            have hx : Hid (bits .xor .u32 ((z : Int) / 2) 3988292384 = ((stepsC (j + 1) y : Nat) : Int)) := Lib.hid (by
              rw [hnx, show (z : Int) / 2 = ((z / 2 : Nat) : Int) by omega, show (3988292384 : Int) = ((3988292384 : Nat) : Int) from rfl, u32_xor_nat _ _ (by omega) (by omega)])
            clear hnx
            go_upto_region 8 with (fail)
            rw [hx.out]
            go_wp2
            go_round
            case rel => exact ⟨j + 1, by omega, by go_num, rfl⟩
            case measure => simp [intOf]; omega
          · rw [if_neg hodd] at hnx
            have d1 : (((z : Int) % 2) == 1) = false := by simp; omega
            have hx : Hid ((z : Int) / 2 = ((stepsC (j + 1) y : Nat) : Int)) := Lib.hid (by rw [hnx]; omega)
            clear hnx
            go_upto_region 8 with (fail)
            rw [hx.out]
            go_wp2
            go_round
            case rel => exact ⟨j + 1, by omega, by go_num, rfl⟩
            case measure => simp [intOf]; omega
        · obtain rfl : j = 8 := by omega
          rw [← hst2.out]
          go_wp2
          go_round
          case rel => exact ⟨k + 1, by omega, by go_num, rfl⟩
          case measure => simp [intOf]; omega
    · obtain rfl : k = l.length := by omega
      rw [List.take_length]
      have hcl := foldC_lt l (x := 4294967295) (by omega)
      have hcr : Hid (crcT l = 4294967295 ^^^ l.foldl byteC 4294967295) := Lib.hid rfl
      generalize l.foldl byteC 4294967295 = x at hcl hcr ⊢
      have hsg : IntKind.u32.signed = false := rfl
      have hmx : Hid (bits .xor .u32 IntKind.u32.max (x : Int) = ((crcT l : Nat) : Int)) := Lib.hid (by
        rw [show IntKind.u32.max = ((4294967295 : Nat) : Int) by decide, u32_xor_nat _ _ (by omega) hcl, hcr.out])
      go_wp2
      all_goals first | (exfalso; simp_all; done) | skip
      all_goals
        rw [hmx.out]
        go_ret
        exact ⟨rfl, rfl⟩

theorem eqAt_le {s : ByteArray} {k : Nat} (h : k < s.size) (hk : s[k] = 61) : 0 ≤ eqAt s ∧ eqAt s ≤ k := by
  have h2 : k < s.data.toList.length := by rw [size_len]; exact h
  have e : s.data.toList[k] = 61 := hk
  unfold eqAt
  rcases indexByte_spec s.data.toList 61 with ⟨_, hn⟩ | ⟨i, hi, hl, h3, h4⟩
  · exact absurd (by rw [← e]; exact List.getElem_mem h2) hn
  · rw [hi]
    refine ⟨by omega, ?_⟩
    rcases Nat.lt_or_ge k i with hlt | hge
    · exfalso
      apply h4
      have h5 : k < (s.data.toList.take i).length := by rw [List.length_take]; omega
      have e2 : (s.data.toList.take i)[k] = 61 := by rw [List.getElem_take]; exact e
      rw [← e2]
      exact List.getElem_mem h5
    · omega
theorem eqAt_is {s : ByteArray} {i : Nat} (h : eqAt s = i) : ∃ hl : i < s.size, s[i] = 61 := by
  unfold eqAt at h
  rcases indexByte_spec s.data.toList 61 with ⟨e, _⟩ | ⟨j, e, hl, h3, _⟩
  · omega
  · obtain rfl : i = j := by omega
    exact ⟨by rw [← size_len]; exact hl, h3⟩
theorem byte61 (u : UInt8) : ((u.toNat : Int) == 61) = decide (u = 61) := by
  rw [Bool.eq_iff_iff, beq_iff_eq, decide_eq_true_eq]
  constructor
  · intro h
    exact UInt8.toNat_inj.1 (by have : u.toNat = 61 := by omega
                                rw [this]; rfl)
  · rintro rfl; rfl

set_option maxRecDepth 100000 in
set_option maxHeartbeats 4000000 in
theorem r12Word_any (s : ByteArray) (w : World) (hs : s.size ≤ 1000) :
    Calls Tryz.prog 192 #[.string s] w fun r w' => r = .returned (.tuple #[.string (wordT s).1, .string (wordT s).2.1, .bool (wordT s).2.2]) ∧ Below w.heap.size w w' := by
  have hW : wordT s = if 1 ≤ eqAt s then (s.extract 0 (eqAt s).toNat, s.extract ((eqAt s).toNat + 1) s.size, true) else (ByteArray.empty, ByteArray.empty, false) := rfl
  obtain ⟨⟨x, y, z⟩, hw⟩ : ∃ t, wordT s = t := ⟨_, rfl⟩
  rw [hw] at hW ⊢
  replace hW := Lib.hid hW
  clear hw
  dsimp only
  go_enter Tryz.func192, Tryz.ntmps192
  go_wp2
  go_loop [5] (fun i => ∃ k : Nat, 1 ≤ k ∧ k ≤ s.size + 1 ∧ i = .int .i64 k ∧ (eqAt s ≤ 0 ∨ (k : Int) ≤ eqAt s)) (fun i => s.size + 1 - (intOf i).toNat)
  case atStart => exact ⟨1, Nat.le_refl _, by omega, rfl, by omega⟩
  case round =>
    obtain ⟨k, hk1, hk2, rfl, hp⟩ := hrel
    by_cases hlt : k < s.size
    · have hle := fun h => eqAt_le (s := s) hlt h
      have h0s : 0 < s.size := by omega
      have hle0 := fun (h : s[0] = 61) => eqAt_le (s := s) (k := 0) h0s h
      have his := fun h => eqAt_is (s := s) (i := k) h
      have hb1 := byte61 s[k]
      have hb0 := byte61 (s[0])
      by_cases h1 : s[k] = 61
      · rw [decide_eq_true h1] at hb1
        obtain ⟨l1, l2⟩ := hle h1
        by_cases h2 : s[0] = 61
        · rw [decide_eq_true h2] at hb0
          have hz := hle0 h2
          clear hle hle0 his
          replace h1 := Lib.hid h1
          replace h2 := Lib.hid h2
          go_wp2
          go_round
          case rel => exact ⟨k + 1, by omega, by omega, by go_num, .inl (by omega)⟩
          case measure => simp [intOf]; omega
        · rw [decide_eq_false h2] at hb0
          have hek : eqAt s = k := by
            rcases hp with hp | hp
            · exfalso
              obtain ⟨_, e0⟩ := eqAt_is (s := s) (i := 0) (by omega)
              exact h2 e0
            · omega
          have hz : Hid ((x, y, z) = (s.extract 0 k, s.extract (k + 1) s.size, true)) := Lib.hid (by rw [hW.out, hek, if_pos (by omega)]; rfl)
          obtain ⟨rfl, hz2⟩ := Prod.mk.inj hz.out
          obtain ⟨rfl, rfl⟩ := Prod.mk.inj hz2
          have hb0' : ((s[0].toNat : Int) != 61) = true := by simp [bne, hb0]
          clear hle hle0 his hp hek hz hz2
          replace h1 := Lib.hid h1
          replace h2 := Lib.hid h2
          have hkk : (k : Int) + 1 ≤ s.size := by omega
          go_upto_region 5 with (fail)
          refine wp_region_up (by kernel_rfl) (by kernel_rfl) ?_
          repeat (go_big_quiet_step (fail))
          refine wpQuiet_nil ?_
          intro w2 hw2
          have hb2 := Lib.hid (up_below hw2)
          clear hw2
          go_wp2
          exact bodyPost_ret (v := .tuple #[.string (s.extract 0 k), .string (s.extract (k + 1) s.size), .bool true]) (by simp [results, Tryz.results192, go_sem]) rfl ⟨rfl, hb2.out⟩
      · rw [decide_eq_false h1] at hb1
        have hnx : eqAt s ≤ 0 ∨ ((k + 1 : Nat) : Int) ≤ eqAt s := by
          rcases hp with hp | hp
          · exact .inl hp
          · right
            rcases Int.lt_or_le (k : Int) (eqAt s) with h | h
            · omega
            · obtain ⟨_, e⟩ := his (by omega)
              exact absurd e h1
        clear hle hle0 his hp
        replace h1 := Lib.hid h1
        go_wp2
        go_round
        case rel => exact ⟨k + 1, by omega, by omega, by go_num, hnx⟩
        case measure => simp [intOf]; omega
    · have hno : eqAt s ≤ 0 := by
        rcases eqAt_cases s with e | ⟨i, e, hi⟩
        · omega
        · omega
      have hz : Hid ((x, y, z) = (ByteArray.empty, ByteArray.empty, false)) := Lib.hid (by rw [hW.out, if_neg (by omega)])
      obtain ⟨rfl, hz2⟩ := Prod.mk.inj hz.out
      obtain ⟨rfl, rfl⟩ := Prod.mk.inj hz2
      clear hz hz2 hp hno
      go_wp2
      exact bodyPost_ret (v := .tuple #[.string ByteArray.empty, .string ByteArray.empty, .bool false]) (by simp [results, Tryz.results192, go_sem] <;> rfl) rfl ⟨rfl, Below.refl _ _⟩
end Go.Proofs.YtphlcbbdpmkipaaGreat
