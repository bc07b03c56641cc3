/- The kit's contracts of the library's functions, at this program. -/
import Derived.Test.YtmhphopfghlmnaaProg
import Derived.Test.YtmhphopfghlmnaaOwn
import Derived.Shelf.Sort.Plain
import Derived.Shelf.Slices.In.SortNone
import Derived.KernelRfl
set_option linter.unusedSimpArgs false
set_option linter.unusedVariables false
set_option maxRecDepth 100000
namespace Bz.S
open Go Go.Shelf Go.Proofs Bz

def ren35 : Ren := ⟨fun n => match n with | 125 => 45 | 128 => 57 | 129 => 58 | 190 => 35 | 258 => 44 | 302 => 48 | 303 => 49 | 304 => 50 | 305 => 51 | 306 => 52 | 307 => 53 | 308 => 54 | 309 => 55 | 310 => 56 | 329 => 60 | 330 => 61 | 333 => 59 | 334 => 62 | 335 => 63 | 336 => 42 | 344 => 64 | n => n, fun n => match n with | 0 => 0 | 3 => 3 | 4 => 4 | 5 => 5 | 9 => 9 | 31 => 22 | 46 => 59 | 51 => 72 | 53 => 74 | 131 => 69 | 182 => 63 | 183 => 64 | 218 => 75 | 222 => 79 | 228 => 81 | 229 => 82 | n => n, fun n => n⟩
theorem lays35 : Lays.n190 Try.prog ren35 where
  mixed := by kernel_rfl
  f125 := (Try.func45).trans (by kernel_rfl)
  f128 := (Try.func57).trans (by kernel_rfl)
  f129 := (Try.func58).trans (by kernel_rfl)
  f190 := (Try.func35).trans (by kernel_rfl)
  f258 := (Try.func44).trans (by kernel_rfl)
  f302 := (Try.func48).trans (by kernel_rfl)
  f303 := (Try.func49).trans (by kernel_rfl)
  f304 := (Try.func50).trans (by kernel_rfl)
  f305 := (Try.func51).trans (by kernel_rfl)
  f306 := (Try.func52).trans (by kernel_rfl)
  f307 := (Try.func53).trans (by kernel_rfl)
  f308 := (Try.func54).trans (by kernel_rfl)
  f309 := (Try.func55).trans (by kernel_rfl)
  f310 := (Try.func56).trans (by kernel_rfl)
  f329 := (Try.func60).trans (by kernel_rfl)
  f330 := (Try.func61).trans (by kernel_rfl)
  f333 := (Try.func59).trans (by kernel_rfl)
  f334 := (Try.func62).trans (by kernel_rfl)
  f335 := (Try.func63).trans (by kernel_rfl)
  f336 := (Try.func42).trans (by kernel_rfl)
  f344 := (Try.func64).trans (by kernel_rfl)
  t0 := Try.underlying0
  a0 := Try.isAgg0
  z0 := Try.sizeOf0
  v0 := Try.zeroValue0
  t3 := Try.underlying3
  a3 := Try.isAgg3
  z3 := Try.sizeOf3
  v3 := Try.zeroValue3
  t4 := Try.underlying4
  a4 := Try.isAgg4
  z4 := Try.sizeOf4
  v4 := Try.zeroValue4
  t5 := Try.underlying5
  a5 := Try.isAgg5
  z5 := Try.sizeOf5
  v5 := Try.zeroValue5
  t9 := Try.underlying9
  a9 := Try.isAgg9
  z9 := Try.sizeOf9
  v9 := Try.zeroValue9
  t31 := Try.underlying22
  a31 := Try.isAgg22
  z31 := Try.sizeOf22
  v31 := Try.zeroValue22
  t46 := Try.underlying59
  a46 := Try.isAgg59
  z46 := Try.sizeOf59
  v46 := Try.zeroValue59
  t51 := Try.underlying72
  a51 := Try.isAgg72
  z51 := Try.sizeOf72
  v51 := Try.zeroValue72
  t53 := Try.underlying74
  a53 := Try.isAgg74
  z53 := Try.sizeOf74
  v53 := Try.zeroValue74
  t131 := Try.underlying69
  a131 := Try.isAgg69
  z131 := Try.sizeOf69
  v131 := Try.zeroValue69
  t182 := Try.underlying63
  a182 := Try.isAgg63
  z182 := Try.sizeOf63
  v182 := Try.zeroValue63
  t183 := Try.underlying64
  a183 := Try.isAgg64
  z183 := Try.sizeOf64
  v183 := Try.zeroValue64
  t218 := Try.underlying75
  a218 := Try.isAgg75
  z218 := Try.sizeOf75
  v218 := Try.zeroValue75
  t222 := Try.underlying79
  a222 := Try.isAgg79
  z222 := Try.sizeOf79
  v222 := Try.zeroValue79
  t228 := Try.underlying81
  a228 := Try.isAgg81
  z228 := Try.sizeOf81
  v228 := Try.zeroValue81
  t229 := Try.underlying82
  a229 := Try.isAgg82
  z229 := Try.sizeOf82
  v229 := Try.zeroValue82
theorem good_slices_Sort_string_string : Sorts Try.prog F_slices_Sort_string_string := ⟨⟨_, Try.func35, by kernel_rfl, by kernel_rfl⟩, Any.slices_Sort_string lays35, Any.slices_Sort_string_none lays35⟩

end Bz.S
