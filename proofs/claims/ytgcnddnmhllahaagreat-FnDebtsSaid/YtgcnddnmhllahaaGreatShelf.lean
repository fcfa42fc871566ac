/-
  DERIVED: THE SHELF's CONTRACTS AT THIS DUMP, IN PLAIN WORDS (tools/lay-plain.mjs out of 'YtgcnddnmhllahaaGreatShelf.lean', which tools/lay-shelf.mjs wrote): THE SAME DECLARATIONS UNDER THE SAME NAMES: 'import', 'namespace', 'open', 'def', 'theorem' AND NOTHING ELSE: no command of the shelf's: FOR A HAND-IN. Each laying: the table of numbers ('.._ren') and one theorem, a field a fact of the dump's own or the kernel's comparison; each contract: ONE APPLICATION.
-/
import Derived.Shelf.Sort.Plain
import Derived.Shelf.Slices.In.SortNone
import Derived.Test.YtgcnddnmhllahaaGreatProg
namespace Go.Proofs
open Go.Shelf
def Tryz.lays189_ren : Go.Shelf.Ren := ⟨fun | 189 => 211 | 125 => 287 | 257 => 286 | 128 => 334 | 129 => 335 | 294 => 325 | 295 => 326 | 296 => 327 | 297 => 328 | 298 => 329 | 299 => 330 | 216 => 331 | 300 => 332 | 301 => 333 | 328 => 367 | 329 => 368 | 330 => 369 | 331 => 370 | 332 => 371 | 215 => 372 | 343 => 383 | n => n, fun | 28 => 25 | 3 => 3 | 46 => 222 | 0 => 0 | 51 => 248 | 53 => 225 | 4 => 4 | 183 => 240 | 182 => 239 | 131 => 245 | 5 => 5 | 9 => 9 | 218 => 263 | 222 => 267 | 228 => 279 | 229 => 138 | n => n, fun | n => n⟩
theorem Tryz.lays189 : Go.Proofs.Lays.n189 Tryz.prog Tryz.lays189_ren := {
  mixed := by kernel_rfl
  f125 := Tryz.func287.trans (congrArg some (by kernel_rfl))
  f128 := Tryz.func334.trans (congrArg some (by kernel_rfl))
  f129 := Tryz.func335.trans (congrArg some (by kernel_rfl))
  f189 := Tryz.func211.trans (congrArg some (by kernel_rfl))
  f215 := Tryz.func372.trans (congrArg some (by kernel_rfl))
  f216 := Tryz.func331.trans (congrArg some (by kernel_rfl))
  f257 := Tryz.func286.trans (congrArg some (by kernel_rfl))
  f294 := Tryz.func325.trans (congrArg some (by kernel_rfl))
  f295 := Tryz.func326.trans (congrArg some (by kernel_rfl))
  f296 := Tryz.func327.trans (congrArg some (by kernel_rfl))
  f297 := Tryz.func328.trans (congrArg some (by kernel_rfl))
  f298 := Tryz.func329.trans (congrArg some (by kernel_rfl))
  f299 := Tryz.func330.trans (congrArg some (by kernel_rfl))
  f300 := Tryz.func332.trans (congrArg some (by kernel_rfl))
  f301 := Tryz.func333.trans (congrArg some (by kernel_rfl))
  f328 := Tryz.func367.trans (congrArg some (by kernel_rfl))
  f329 := Tryz.func368.trans (congrArg some (by kernel_rfl))
  f330 := Tryz.func369.trans (congrArg some (by kernel_rfl))
  f331 := Tryz.func370.trans (congrArg some (by kernel_rfl))
  f332 := Tryz.func371.trans (congrArg some (by kernel_rfl))
  f343 := Tryz.func383.trans (congrArg some (by kernel_rfl))
  t0 := Tryz.underlying0
  a0 := Tryz.isAgg0
  z0 := Tryz.sizeOf0
  v0 := Tryz.zeroValue0
  t3 := Tryz.underlying3
  a3 := Tryz.isAgg3
  z3 := Tryz.sizeOf3
  v3 := Tryz.zeroValue3
  t4 := Tryz.underlying4
  a4 := Tryz.isAgg4
  z4 := Tryz.sizeOf4
  v4 := Tryz.zeroValue4
  t5 := Tryz.underlying5
  a5 := Tryz.isAgg5
  z5 := Tryz.sizeOf5
  v5 := Tryz.zeroValue5
  t9 := Tryz.underlying9
  a9 := Tryz.isAgg9
  z9 := Tryz.sizeOf9
  v9 := Tryz.zeroValue9
  t28 := Tryz.underlying25
  a28 := Tryz.isAgg25
  z28 := Tryz.sizeOf25
  v28 := Tryz.zeroValue25
  t46 := Tryz.underlying222
  a46 := Tryz.isAgg222
  z46 := Tryz.sizeOf222
  v46 := Tryz.zeroValue222
  t51 := Tryz.underlying248
  a51 := Tryz.isAgg248
  z51 := Tryz.sizeOf248
  v51 := Tryz.zeroValue248
  t53 := Tryz.underlying225
  a53 := Tryz.isAgg225
  z53 := Tryz.sizeOf225
  v53 := Tryz.zeroValue225
  t131 := Tryz.underlying245
  a131 := Tryz.isAgg245
  z131 := Tryz.sizeOf245
  v131 := Tryz.zeroValue245
  t182 := Tryz.underlying239
  a182 := Tryz.isAgg239
  z182 := Tryz.sizeOf239
  v182 := Tryz.zeroValue239
  t183 := Tryz.underlying240
  a183 := Tryz.isAgg240
  z183 := Tryz.sizeOf240
  v183 := Tryz.zeroValue240
  t218 := Tryz.underlying263
  a218 := Tryz.isAgg263
  z218 := Tryz.sizeOf263
  v218 := Tryz.zeroValue263
  t222 := Tryz.underlying267
  a222 := Tryz.isAgg267
  z222 := Tryz.sizeOf267
  v222 := Tryz.zeroValue267
  t228 := Tryz.underlying279
  a228 := Tryz.isAgg279
  z228 := Tryz.sizeOf279
  v228 := Tryz.zeroValue279
  t229 := Tryz.underlying138
  a229 := Tryz.isAgg138
  z229 := Tryz.sizeOf138
  v229 := Tryz.zeroValue138 }
end Go.Proofs
