/- The kit's contracts of the library's functions, at this program. -/
import Derived.Test.YtphdgheppdbkgaaProg
import Derived.Test.YtphdgheppdbkgaaOwn
import Derived.Shelf.Sort.Plain
import Derived.Shelf.Slices.In.SortNone
import Derived.KernelRfl
set_option linter.unusedSimpArgs false
set_option linter.unusedVariables false
set_option maxRecDepth 100000
namespace Bz.S
open Go Go.Shelf Go.Proofs Bz

def ren27 : Ren := ⟨fun n => match n with | 125 => 36 | 128 => 46 | 129 => 47 | 190 => 27 | 258 => 35 | 302 => 37 | 303 => 38 | 304 => 39 | 305 => 40 | 306 => 41 | 307 => 42 | 308 => 43 | 309 => 44 | 310 => 45 | 329 => 49 | 330 => 50 | 333 => 48 | 334 => 51 | 335 => 52 | 336 => 53 | 344 => 54 | n => n, fun n => match n with | 0 => 0 | 3 => 3 | 4 => 4 | 5 => 5 | 9 => 9 | 31 => 22 | 46 => 45 | 51 => 56 | 53 => 58 | 131 => 53 | 182 => 47 | 183 => 48 | 218 => 59 | 222 => 63 | 228 => 65 | 229 => 66 | n => n, fun n => n⟩
theorem lays27 : Lays.n190 Try.prog ren27 where
  mixed := by kernel_rfl
  f125 := (Try.func36).trans (by kernel_rfl)
  f128 := (Try.func46).trans (by kernel_rfl)
  f129 := (Try.func47).trans (by kernel_rfl)
  f190 := (Try.func27).trans (by kernel_rfl)
  f258 := (Try.func35).trans (by kernel_rfl)
  f302 := (Try.func37).trans (by kernel_rfl)
  f303 := (Try.func38).trans (by kernel_rfl)
  f304 := (Try.func39).trans (by kernel_rfl)
  f305 := (Try.func40).trans (by kernel_rfl)
  f306 := (Try.func41).trans (by kernel_rfl)
  f307 := (Try.func42).trans (by kernel_rfl)
  f308 := (Try.func43).trans (by kernel_rfl)
  f309 := (Try.func44).trans (by kernel_rfl)
  f310 := (Try.func45).trans (by kernel_rfl)
  f329 := (Try.func49).trans (by kernel_rfl)
  f330 := (Try.func50).trans (by kernel_rfl)
  f333 := (Try.func48).trans (by kernel_rfl)
  f334 := (Try.func51).trans (by kernel_rfl)
  f335 := (Try.func52).trans (by kernel_rfl)
  f336 := (Try.func53).trans (by kernel_rfl)
  f344 := (Try.func54).trans (by kernel_rfl)
  t0 := Try.underlying0
  a0 := Try.isAgg0
  z0 := Try.sizeOf0
  v0 := Try.zeroValue0
  t3 := Try.underlying3
  a3 := Try.isAgg3
  z3 := Try.sizeOf3
  v3 := Try.zeroValue3
  t4 := Try.underlying4
  a4 := Try.isAgg4
  z4 := Try.sizeOf4
  v4 := Try.zeroValue4
  t5 := Try.underlying5
  a5 := Try.isAgg5
  z5 := Try.sizeOf5
  v5 := Try.zeroValue5
  t9 := Try.underlying9
  a9 := Try.isAgg9
  z9 := Try.sizeOf9
  v9 := Try.zeroValue9
  t31 := Try.underlying22
  a31 := Try.isAgg22
  z31 := Try.sizeOf22
  v31 := Try.zeroValue22
  t46 := Try.underlying45
  a46 := Try.isAgg45
  z46 := Try.sizeOf45
  v46 := Try.zeroValue45
  t51 := Try.underlying56
  a51 := Try.isAgg56
  z51 := Try.sizeOf56
  v51 := Try.zeroValue56
  t53 := Try.underlying58
  a53 := Try.isAgg58
  z53 := Try.sizeOf58
  v53 := Try.zeroValue58
  t131 := Try.underlying53
  a131 := Try.isAgg53
  z131 := Try.sizeOf53
  v131 := Try.zeroValue53
  t182 := Try.underlying47
  a182 := Try.isAgg47
  z182 := Try.sizeOf47
  v182 := Try.zeroValue47
  t183 := Try.underlying48
  a183 := Try.isAgg48
  z183 := Try.sizeOf48
  v183 := Try.zeroValue48
  t218 := Try.underlying59
  a218 := Try.isAgg59
  z218 := Try.sizeOf59
  v218 := Try.zeroValue59
  t222 := Try.underlying63
  a222 := Try.isAgg63
  z222 := Try.sizeOf63
  v222 := Try.zeroValue63
  t228 := Try.underlying65
  a228 := Try.isAgg65
  z228 := Try.sizeOf65
  v228 := Try.zeroValue65
  t229 := Try.underlying66
  a229 := Try.isAgg66
  z229 := Try.sizeOf66
  v229 := Try.zeroValue66
theorem good_slices_Sort_string_string : Sorts Try.prog F_slices_Sort_string_string := ⟨⟨_, Try.func27, by kernel_rfl, by kernel_rfl⟩, Any.slices_Sort_string lays27, Any.slices_Sort_string_none lays27⟩

end Bz.S
