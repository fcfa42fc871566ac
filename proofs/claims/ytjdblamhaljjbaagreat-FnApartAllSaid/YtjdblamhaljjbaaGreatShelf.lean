/-
  DERIVED: THE SHELF's CONTRACTS AT THIS DUMP, IN PLAIN WORDS (tools/lay-plain.mjs out of 'YtjdblamhaljjbaaGreatShelf.lean', which tools/lay-shelf.mjs wrote): THE SAME DECLARATIONS UNDER THE SAME NAMES: 'import', 'namespace', 'open', 'def', 'theorem' AND NOTHING ELSE: no command of the shelf's: FOR A HAND-IN. Each laying: the table of numbers ('.._ren') and one theorem, a field a fact of the dump's own or the kernel's comparison; each contract: ONE APPLICATION.
-/
import Derived.Shelf.Sort.Plain
import Derived.Shelf.Slices.In.SortNone
import Derived.Test.YtjdblamhaljjbaaGreatProg
namespace Go.Proofs
open Go.Shelf
def Tryz.lays189_ren : Go.Shelf.Ren := ⟨fun | 189 => 228 | 125 => 270 | 257 => 269 | 128 => 307 | 129 => 308 | 294 => 298 | 295 => 299 | 296 => 300 | 297 => 301 | 298 => 302 | 299 => 303 | 216 => 304 | 300 => 305 | 301 => 306 | 328 => 320 | 329 => 321 | 330 => 322 | 331 => 323 | 332 => 324 | 215 => 325 | 343 => 328 | n => n, fun | 28 => 26 | 3 => 3 | 46 => 218 | 0 => 0 | 51 => 257 | 53 => 150 | 4 => 4 | 183 => 250 | 182 => 249 | 131 => 185 | 5 => 5 | 9 => 9 | 218 => 264 | 222 => 268 | 228 => 271 | 229 => 116 | n => n, fun | n => n⟩
theorem Tryz.lays189 : Go.Proofs.Lays.n189 Tryz.prog Tryz.lays189_ren := {
  mixed := by kernel_rfl
  f125 := Tryz.func270.trans (congrArg some (by kernel_rfl))
  f128 := Tryz.func307.trans (congrArg some (by kernel_rfl))
  f129 := Tryz.func308.trans (congrArg some (by kernel_rfl))
  f189 := Tryz.func228.trans (congrArg some (by kernel_rfl))
  f215 := Tryz.func325.trans (congrArg some (by kernel_rfl))
  f216 := Tryz.func304.trans (congrArg some (by kernel_rfl))
  f257 := Tryz.func269.trans (congrArg some (by kernel_rfl))
  f294 := Tryz.func298.trans (congrArg some (by kernel_rfl))
  f295 := Tryz.func299.trans (congrArg some (by kernel_rfl))
  f296 := Tryz.func300.trans (congrArg some (by kernel_rfl))
  f297 := Tryz.func301.trans (congrArg some (by kernel_rfl))
  f298 := Tryz.func302.trans (congrArg some (by kernel_rfl))
  f299 := Tryz.func303.trans (congrArg some (by kernel_rfl))
  f300 := Tryz.func305.trans (congrArg some (by kernel_rfl))
  f301 := Tryz.func306.trans (congrArg some (by kernel_rfl))
  f328 := Tryz.func320.trans (congrArg some (by kernel_rfl))
  f329 := Tryz.func321.trans (congrArg some (by kernel_rfl))
  f330 := Tryz.func322.trans (congrArg some (by kernel_rfl))
  f331 := Tryz.func323.trans (congrArg some (by kernel_rfl))
  f332 := Tryz.func324.trans (congrArg some (by kernel_rfl))
  f343 := Tryz.func328.trans (congrArg some (by kernel_rfl))
  t0 := Tryz.underlying0
  a0 := Tryz.isAgg0
  z0 := Tryz.sizeOf0
  v0 := Tryz.zeroValue0
  t3 := Tryz.underlying3
  a3 := Tryz.isAgg3
  z3 := Tryz.sizeOf3
  v3 := Tryz.zeroValue3
  t4 := Tryz.underlying4
  a4 := Tryz.isAgg4
  z4 := Tryz.sizeOf4
  v4 := Tryz.zeroValue4
  t5 := Tryz.underlying5
  a5 := Tryz.isAgg5
  z5 := Tryz.sizeOf5
  v5 := Tryz.zeroValue5
  t9 := Tryz.underlying9
  a9 := Tryz.isAgg9
  z9 := Tryz.sizeOf9
  v9 := Tryz.zeroValue9
  t28 := Tryz.underlying26
  a28 := Tryz.isAgg26
  z28 := Tryz.sizeOf26
  v28 := Tryz.zeroValue26
  t46 := Tryz.underlying218
  a46 := Tryz.isAgg218
  z46 := Tryz.sizeOf218
  v46 := Tryz.zeroValue218
  t51 := Tryz.underlying257
  a51 := Tryz.isAgg257
  z51 := Tryz.sizeOf257
  v51 := Tryz.zeroValue257
  t53 := Tryz.underlying150
  a53 := Tryz.isAgg150
  z53 := Tryz.sizeOf150
  v53 := Tryz.zeroValue150
  t131 := Tryz.underlying185
  a131 := Tryz.isAgg185
  z131 := Tryz.sizeOf185
  v131 := Tryz.zeroValue185
  t182 := Tryz.underlying249
  a182 := Tryz.isAgg249
  z182 := Tryz.sizeOf249
  v182 := Tryz.zeroValue249
  t183 := Tryz.underlying250
  a183 := Tryz.isAgg250
  z183 := Tryz.sizeOf250
  v183 := Tryz.zeroValue250
  t218 := Tryz.underlying264
  a218 := Tryz.isAgg264
  z218 := Tryz.sizeOf264
  v218 := Tryz.zeroValue264
  t222 := Tryz.underlying268
  a222 := Tryz.isAgg268
  z222 := Tryz.sizeOf268
  v222 := Tryz.zeroValue268
  t228 := Tryz.underlying271
  a228 := Tryz.isAgg271
  z228 := Tryz.sizeOf271
  v228 := Tryz.zeroValue271
  t229 := Tryz.underlying116
  a229 := Tryz.isAgg116
  z229 := Tryz.sizeOf116
  v229 := Tryz.zeroValue116 }
end Go.Proofs
