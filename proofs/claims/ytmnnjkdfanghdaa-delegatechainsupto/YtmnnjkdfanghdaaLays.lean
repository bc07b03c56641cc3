/- The kit's contracts of the library's functions, at this program. -/
import Derived.Test.YtmnnjkdfanghdaaProg
import Derived.Test.YtmnnjkdfanghdaaOwn
import Derived.Shelf.Sort.Plain
import Derived.Shelf.Slices.In.SortNone
import Derived.KernelRfl
set_option linter.unusedSimpArgs false
set_option linter.unusedVariables false
set_option maxRecDepth 100000
namespace Bz.S
open Go Go.Shelf Go.Proofs Bz

def ren21 : Ren := ⟨fun n => match n with | 125 => 27 | 128 => 38 | 129 => 39 | 190 => 21 | 258 => 26 | 302 => 29 | 303 => 30 | 304 => 31 | 305 => 32 | 306 => 33 | 307 => 34 | 308 => 35 | 309 => 36 | 310 => 37 | 329 => 41 | 330 => 42 | 333 => 40 | 334 => 43 | 335 => 44 | 336 => 45 | 344 => 46 | n => n, fun n => match n with | 0 => 0 | 3 => 3 | 4 => 4 | 5 => 5 | 9 => 9 | 31 => 25 | 46 => 53 | 51 => 64 | 53 => 66 | 131 => 50 | 182 => 56 | 183 => 57 | 218 => 67 | 222 => 71 | 228 => 74 | 229 => 75 | n => n, fun n => n⟩
theorem lays21 : Lays.n190 Try.prog ren21 where
  mixed := by kernel_rfl
  f125 := (Try.func27).trans (by kernel_rfl)
  f128 := (Try.func38).trans (by kernel_rfl)
  f129 := (Try.func39).trans (by kernel_rfl)
  f190 := (Try.func21).trans (by kernel_rfl)
  f258 := (Try.func26).trans (by kernel_rfl)
  f302 := (Try.func29).trans (by kernel_rfl)
  f303 := (Try.func30).trans (by kernel_rfl)
  f304 := (Try.func31).trans (by kernel_rfl)
  f305 := (Try.func32).trans (by kernel_rfl)
  f306 := (Try.func33).trans (by kernel_rfl)
  f307 := (Try.func34).trans (by kernel_rfl)
  f308 := (Try.func35).trans (by kernel_rfl)
  f309 := (Try.func36).trans (by kernel_rfl)
  f310 := (Try.func37).trans (by kernel_rfl)
  f329 := (Try.func41).trans (by kernel_rfl)
  f330 := (Try.func42).trans (by kernel_rfl)
  f333 := (Try.func40).trans (by kernel_rfl)
  f334 := (Try.func43).trans (by kernel_rfl)
  f335 := (Try.func44).trans (by kernel_rfl)
  f336 := (Try.func45).trans (by kernel_rfl)
  f344 := (Try.func46).trans (by kernel_rfl)
  t0 := Try.underlying0
  a0 := Try.isAgg0
  z0 := Try.sizeOf0
  v0 := Try.zeroValue0
  t3 := Try.underlying3
  a3 := Try.isAgg3
  z3 := Try.sizeOf3
  v3 := Try.zeroValue3
  t4 := Try.underlying4
  a4 := Try.isAgg4
  z4 := Try.sizeOf4
  v4 := Try.zeroValue4
  t5 := Try.underlying5
  a5 := Try.isAgg5
  z5 := Try.sizeOf5
  v5 := Try.zeroValue5
  t9 := Try.underlying9
  a9 := Try.isAgg9
  z9 := Try.sizeOf9
  v9 := Try.zeroValue9
  t31 := Try.underlying25
  a31 := Try.isAgg25
  z31 := Try.sizeOf25
  v31 := Try.zeroValue25
  t46 := Try.underlying53
  a46 := Try.isAgg53
  z46 := Try.sizeOf53
  v46 := Try.zeroValue53
  t51 := Try.underlying64
  a51 := Try.isAgg64
  z51 := Try.sizeOf64
  v51 := Try.zeroValue64
  t53 := Try.underlying66
  a53 := Try.isAgg66
  z53 := Try.sizeOf66
  v53 := Try.zeroValue66
  t131 := Try.underlying50
  a131 := Try.isAgg50
  z131 := Try.sizeOf50
  v131 := Try.zeroValue50
  t182 := Try.underlying56
  a182 := Try.isAgg56
  z182 := Try.sizeOf56
  v182 := Try.zeroValue56
  t183 := Try.underlying57
  a183 := Try.isAgg57
  z183 := Try.sizeOf57
  v183 := Try.zeroValue57
  t218 := Try.underlying67
  a218 := Try.isAgg67
  z218 := Try.sizeOf67
  v218 := Try.zeroValue67
  t222 := Try.underlying71
  a222 := Try.isAgg71
  z222 := Try.sizeOf71
  v222 := Try.zeroValue71
  t228 := Try.underlying74
  a228 := Try.isAgg74
  z228 := Try.sizeOf74
  v228 := Try.zeroValue74
  t229 := Try.underlying75
  a229 := Try.isAgg75
  z229 := Try.sizeOf75
  v229 := Try.zeroValue75
theorem good_slices_Sort_string_string : Sorts Try.prog F_slices_Sort_string_string := ⟨⟨_, Try.func21, by kernel_rfl, by kernel_rfl⟩, Any.slices_Sort_string lays21, Any.slices_Sort_string_none lays21⟩

end Bz.S
