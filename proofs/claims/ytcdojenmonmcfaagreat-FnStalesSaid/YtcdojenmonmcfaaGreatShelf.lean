/-
  DERIVED: THE SHELF's CONTRACTS AT THIS DUMP, IN PLAIN WORDS (tools/lay-plain.mjs out of 'YtcdojenmonmcfaaGreatShelf.lean', which tools/lay-shelf.mjs wrote): THE SAME DECLARATIONS UNDER THE SAME NAMES: 'import', 'namespace', 'open', 'def', 'theorem' AND NOTHING ELSE: no command of the shelf's: FOR A HAND-IN. Each laying: the table of numbers ('.._ren') and one theorem, a field a fact of the dump's own or the kernel's comparison; each contract: ONE APPLICATION.
-/
import Derived.Shelf.Sort.Plain
import Derived.Shelf.Slices.In.SortNone
import Derived.Test.YtcdojenmonmcfaaGreatProg
namespace Go.Proofs
open Go.Shelf
def Tryz.lays189_ren : Go.Shelf.Ren := ⟨fun | 189 => 168 | 125 => 238 | 257 => 237 | 128 => 278 | 129 => 279 | 294 => 269 | 295 => 270 | 296 => 271 | 297 => 272 | 298 => 273 | 299 => 274 | 216 => 275 | 300 => 276 | 301 => 277 | 328 => 299 | 329 => 300 | 330 => 301 | 331 => 302 | 332 => 303 | 215 => 304 | 343 => 313 | n => n, fun | 28 => 26 | 3 => 3 | 46 => 193 | 0 => 0 | 51 => 226 | 53 => 201 | 4 => 4 | 183 => 219 | 182 => 218 | 131 => 185 | 5 => 5 | 9 => 9 | 218 => 245 | 222 => 249 | 228 => 255 | 229 => 124 | n => n, fun | n => n⟩
theorem Tryz.lays189 : Go.Proofs.Lays.n189 Tryz.prog Tryz.lays189_ren := {
  mixed := by kernel_rfl
  f125 := Tryz.func238.trans (congrArg some (by kernel_rfl))
  f128 := Tryz.func278.trans (congrArg some (by kernel_rfl))
  f129 := Tryz.func279.trans (congrArg some (by kernel_rfl))
  f189 := Tryz.func168.trans (congrArg some (by kernel_rfl))
  f215 := Tryz.func304.trans (congrArg some (by kernel_rfl))
  f216 := Tryz.func275.trans (congrArg some (by kernel_rfl))
  f257 := Tryz.func237.trans (congrArg some (by kernel_rfl))
  f294 := Tryz.func269.trans (congrArg some (by kernel_rfl))
  f295 := Tryz.func270.trans (congrArg some (by kernel_rfl))
  f296 := Tryz.func271.trans (congrArg some (by kernel_rfl))
  f297 := Tryz.func272.trans (congrArg some (by kernel_rfl))
  f298 := Tryz.func273.trans (congrArg some (by kernel_rfl))
  f299 := Tryz.func274.trans (congrArg some (by kernel_rfl))
  f300 := Tryz.func276.trans (congrArg some (by kernel_rfl))
  f301 := Tryz.func277.trans (congrArg some (by kernel_rfl))
  f328 := Tryz.func299.trans (congrArg some (by kernel_rfl))
  f329 := Tryz.func300.trans (congrArg some (by kernel_rfl))
  f330 := Tryz.func301.trans (congrArg some (by kernel_rfl))
  f331 := Tryz.func302.trans (congrArg some (by kernel_rfl))
  f332 := Tryz.func303.trans (congrArg some (by kernel_rfl))
  f343 := Tryz.func313.trans (congrArg some (by kernel_rfl))
  t0 := Tryz.underlying0
  a0 := Tryz.isAgg0
  z0 := Tryz.sizeOf0
  v0 := Tryz.zeroValue0
  t3 := Tryz.underlying3
  a3 := Tryz.isAgg3
  z3 := Tryz.sizeOf3
  v3 := Tryz.zeroValue3
  t4 := Tryz.underlying4
  a4 := Tryz.isAgg4
  z4 := Tryz.sizeOf4
  v4 := Tryz.zeroValue4
  t5 := Tryz.underlying5
  a5 := Tryz.isAgg5
  z5 := Tryz.sizeOf5
  v5 := Tryz.zeroValue5
  t9 := Tryz.underlying9
  a9 := Tryz.isAgg9
  z9 := Tryz.sizeOf9
  v9 := Tryz.zeroValue9
  t28 := Tryz.underlying26
  a28 := Tryz.isAgg26
  z28 := Tryz.sizeOf26
  v28 := Tryz.zeroValue26
  t46 := Tryz.underlying193
  a46 := Tryz.isAgg193
  z46 := Tryz.sizeOf193
  v46 := Tryz.zeroValue193
  t51 := Tryz.underlying226
  a51 := Tryz.isAgg226
  z51 := Tryz.sizeOf226
  v51 := Tryz.zeroValue226
  t53 := Tryz.underlying201
  a53 := Tryz.isAgg201
  z53 := Tryz.sizeOf201
  v53 := Tryz.zeroValue201
  t131 := Tryz.underlying185
  a131 := Tryz.isAgg185
  z131 := Tryz.sizeOf185
  v131 := Tryz.zeroValue185
  t182 := Tryz.underlying218
  a182 := Tryz.isAgg218
  z182 := Tryz.sizeOf218
  v182 := Tryz.zeroValue218
  t183 := Tryz.underlying219
  a183 := Tryz.isAgg219
  z183 := Tryz.sizeOf219
  v183 := Tryz.zeroValue219
  t218 := Tryz.underlying245
  a218 := Tryz.isAgg245
  z218 := Tryz.sizeOf245
  v218 := Tryz.zeroValue245
  t222 := Tryz.underlying249
  a222 := Tryz.isAgg249
  z222 := Tryz.sizeOf249
  v222 := Tryz.zeroValue249
  t228 := Tryz.underlying255
  a228 := Tryz.isAgg255
  z228 := Tryz.sizeOf255
  v228 := Tryz.zeroValue255
  t229 := Tryz.underlying124
  a229 := Tryz.isAgg124
  z229 := Tryz.sizeOf124
  v229 := Tryz.zeroValue124 }
end Go.Proofs
