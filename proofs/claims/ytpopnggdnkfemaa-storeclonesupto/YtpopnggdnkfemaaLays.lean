/- The kit's contracts of the library's functions, at this program. -/
import Derived.Test.YtpopnggdnkfemaaProg
import Derived.Test.YtpopnggdnkfemaaOwn
import Derived.Shelf.Sort.Plain
import Derived.Shelf.Slices.In.SortNone
import Derived.Shelf.SlMaps.Clone
import Derived.KernelRfl
set_option linter.unusedSimpArgs false
set_option linter.unusedVariables false
set_option maxRecDepth 100000
namespace Bz.S
open Go Go.Shelf Go.Proofs Bz

def ren27 : Ren := ⟨fun n => match n with | 5 => 27 | 7 => 38 | n => n, fun n => match n with | 3 => 3 | 4 => 4 | 20 => 20 | 23 => 49 | 25 => 9 | n => n, fun n => n⟩
theorem lays27 : SlLaysW.n5 Try.prog ren27 where
  mixed := by kernel_rfl
  f5 := ⟨Try.f27.name, by kernel_rfl, (Try.func27).trans (by kernel_rfl)⟩
  f7 := (Try.func38).trans (by kernel_rfl)
  t4 := Try.underlying4
  a4 := Try.isAgg4
  z4 := Try.sizeOf4
  v4 := Try.zeroValue4
  t20 := Try.underlying20
  a20 := Try.isAgg20
  z20 := Try.sizeOf20
  v20 := Try.zeroValue20
  t23 := Try.underlying49
  a23 := Try.isAgg49
  z23 := Try.sizeOf49
  v23 := Try.zeroValue49
theorem good_maps_Clone_map_string_int_string_int : Clones Try.prog F_maps_Clone_map_string_int_string_int := ⟨⟨_, Try.func27, by kernel_rfl, by kernel_rfl⟩, AnyW.maps_Clone lays27, AnyW.maps_Clone_nil lays27⟩

def ren28 : Ren := ⟨fun n => match n with | 5 => 28 | 7 => 38 | n => n, fun n => match n with | 3 => 26 | 4 => 4 | 20 => 20 | 23 => 50 | 25 => 63 | n => n, fun n => n⟩
theorem lays28 : SlLaysW.n5 Try.prog ren28 where
  mixed := by kernel_rfl
  f5 := ⟨Try.f28.name, by kernel_rfl, (Try.func28).trans (by kernel_rfl)⟩
  f7 := (Try.func38).trans (by kernel_rfl)
  t4 := Try.underlying4
  a4 := Try.isAgg4
  z4 := Try.sizeOf4
  v4 := Try.zeroValue4
  t20 := Try.underlying20
  a20 := Try.isAgg20
  z20 := Try.sizeOf20
  v20 := Try.zeroValue20
  t23 := Try.underlying50
  a23 := Try.isAgg50
  z23 := Try.sizeOf50
  v23 := Try.zeroValue50
theorem good_maps_Clone_map_store_key_api_Value_store_key_api_Value : Clones Try.prog F_maps_Clone_map_store_key_api_Value_store_key_api_Value := ⟨⟨_, Try.func28, by kernel_rfl, by kernel_rfl⟩, AnyW.maps_Clone lays28, AnyW.maps_Clone_nil lays28⟩

def ren29 : Ren := ⟨fun n => match n with | 125 => 40 | 128 => 53 | 129 => 54 | 190 => 29 | 258 => 39 | 302 => 44 | 303 => 45 | 304 => 46 | 305 => 47 | 306 => 48 | 307 => 49 | 308 => 50 | 309 => 51 | 310 => 52 | 329 => 57 | 330 => 58 | 333 => 56 | 334 => 59 | 335 => 60 | 336 => 61 | 344 => 62 | n => n, fun n => match n with | 0 => 0 | 3 => 3 | 4 => 4 | 5 => 5 | 9 => 9 | 31 => 22 | 46 => 82 | 51 => 96 | 53 => 98 | 131 => 59 | 182 => 88 | 183 => 89 | 218 => 100 | 222 => 104 | 228 => 106 | 229 => 107 | n => n, fun n => n⟩
theorem lays29 : Lays.n190 Try.prog ren29 where
  mixed := by kernel_rfl
  f125 := (Try.func40).trans (by kernel_rfl)
  f128 := (Try.func53).trans (by kernel_rfl)
  f129 := (Try.func54).trans (by kernel_rfl)
  f190 := (Try.func29).trans (by kernel_rfl)
  f258 := (Try.func39).trans (by kernel_rfl)
  f302 := (Try.func44).trans (by kernel_rfl)
  f303 := (Try.func45).trans (by kernel_rfl)
  f304 := (Try.func46).trans (by kernel_rfl)
  f305 := (Try.func47).trans (by kernel_rfl)
  f306 := (Try.func48).trans (by kernel_rfl)
  f307 := (Try.func49).trans (by kernel_rfl)
  f308 := (Try.func50).trans (by kernel_rfl)
  f309 := (Try.func51).trans (by kernel_rfl)
  f310 := (Try.func52).trans (by kernel_rfl)
  f329 := (Try.func57).trans (by kernel_rfl)
  f330 := (Try.func58).trans (by kernel_rfl)
  f333 := (Try.func56).trans (by kernel_rfl)
  f334 := (Try.func59).trans (by kernel_rfl)
  f335 := (Try.func60).trans (by kernel_rfl)
  f336 := (Try.func61).trans (by kernel_rfl)
  f344 := (Try.func62).trans (by kernel_rfl)
  t0 := Try.underlying0
  a0 := Try.isAgg0
  z0 := Try.sizeOf0
  v0 := Try.zeroValue0
  t3 := Try.underlying3
  a3 := Try.isAgg3
  z3 := Try.sizeOf3
  v3 := Try.zeroValue3
  t4 := Try.underlying4
  a4 := Try.isAgg4
  z4 := Try.sizeOf4
  v4 := Try.zeroValue4
  t5 := Try.underlying5
  a5 := Try.isAgg5
  z5 := Try.sizeOf5
  v5 := Try.zeroValue5
  t9 := Try.underlying9
  a9 := Try.isAgg9
  z9 := Try.sizeOf9
  v9 := Try.zeroValue9
  t31 := Try.underlying22
  a31 := Try.isAgg22
  z31 := Try.sizeOf22
  v31 := Try.zeroValue22
  t46 := Try.underlying82
  a46 := Try.isAgg82
  z46 := Try.sizeOf82
  v46 := Try.zeroValue82
  t51 := Try.underlying96
  a51 := Try.isAgg96
  z51 := Try.sizeOf96
  v51 := Try.zeroValue96
  t53 := Try.underlying98
  a53 := Try.isAgg98
  z53 := Try.sizeOf98
  v53 := Try.zeroValue98
  t131 := Try.underlying59
  a131 := Try.isAgg59
  z131 := Try.sizeOf59
  v131 := Try.zeroValue59
  t182 := Try.underlying88
  a182 := Try.isAgg88
  z182 := Try.sizeOf88
  v182 := Try.zeroValue88
  t183 := Try.underlying89
  a183 := Try.isAgg89
  z183 := Try.sizeOf89
  v183 := Try.zeroValue89
  t218 := Try.underlying100
  a218 := Try.isAgg100
  z218 := Try.sizeOf100
  v218 := Try.zeroValue100
  t222 := Try.underlying104
  a222 := Try.isAgg104
  z222 := Try.sizeOf104
  v222 := Try.zeroValue104
  t228 := Try.underlying106
  a228 := Try.isAgg106
  z228 := Try.sizeOf106
  v228 := Try.zeroValue106
  t229 := Try.underlying107
  a229 := Try.isAgg107
  z229 := Try.sizeOf107
  v229 := Try.zeroValue107
theorem good_slices_Sort_string_string : Sorts Try.prog F_slices_Sort_string_string := ⟨⟨_, Try.func29, by kernel_rfl, by kernel_rfl⟩, Any.slices_Sort_string lays29, Any.slices_Sort_string_none lays29⟩

end Bz.S
