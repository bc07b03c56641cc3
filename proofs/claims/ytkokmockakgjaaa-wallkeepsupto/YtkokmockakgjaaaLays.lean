/- The kit's contracts of the library's functions, at this program. -/
import Derived.Test.YtkokmockakgjaaaProg
import Derived.Test.YtkokmockakgjaaaOwn
import Derived.Shelf.Sort.Plain
import Derived.Shelf.Slices.In.SortNone
import Derived.Shelf.SlMaps.Clone
import Derived.KernelRfl
set_option linter.unusedSimpArgs false
set_option linter.unusedVariables false
set_option maxRecDepth 100000
namespace Bz.S
open Go Go.Shelf Go.Proofs Bz

def ren21 : Ren := ⟨fun n => match n with | 125 => 33 | 128 => 46 | 129 => 47 | 190 => 21 | 258 => 32 | 302 => 37 | 303 => 38 | 304 => 39 | 305 => 40 | 306 => 41 | 307 => 42 | 308 => 43 | 309 => 44 | 310 => 45 | 329 => 50 | 330 => 51 | 333 => 49 | 334 => 52 | 335 => 53 | 336 => 54 | 344 => 55 | n => n, fun n => match n with | 0 => 0 | 3 => 3 | 4 => 4 | 5 => 5 | 9 => 9 | 31 => 37 | 46 => 70 | 51 => 83 | 53 => 85 | 131 => 80 | 182 => 75 | 183 => 76 | 218 => 87 | 222 => 91 | 228 => 93 | 229 => 94 | n => n, fun n => n⟩
theorem lays21 : Lays.n190 Try.prog ren21 where
  mixed := by kernel_rfl
  f125 := (Try.func33).trans (by kernel_rfl)
  f128 := (Try.func46).trans (by kernel_rfl)
  f129 := (Try.func47).trans (by kernel_rfl)
  f190 := (Try.func21).trans (by kernel_rfl)
  f258 := (Try.func32).trans (by kernel_rfl)
  f302 := (Try.func37).trans (by kernel_rfl)
  f303 := (Try.func38).trans (by kernel_rfl)
  f304 := (Try.func39).trans (by kernel_rfl)
  f305 := (Try.func40).trans (by kernel_rfl)
  f306 := (Try.func41).trans (by kernel_rfl)
  f307 := (Try.func42).trans (by kernel_rfl)
  f308 := (Try.func43).trans (by kernel_rfl)
  f309 := (Try.func44).trans (by kernel_rfl)
  f310 := (Try.func45).trans (by kernel_rfl)
  f329 := (Try.func50).trans (by kernel_rfl)
  f330 := (Try.func51).trans (by kernel_rfl)
  f333 := (Try.func49).trans (by kernel_rfl)
  f334 := (Try.func52).trans (by kernel_rfl)
  f335 := (Try.func53).trans (by kernel_rfl)
  f336 := (Try.func54).trans (by kernel_rfl)
  f344 := (Try.func55).trans (by kernel_rfl)
  t0 := Try.underlying0
  a0 := Try.isAgg0
  z0 := Try.sizeOf0
  v0 := Try.zeroValue0
  t3 := Try.underlying3
  a3 := Try.isAgg3
  z3 := Try.sizeOf3
  v3 := Try.zeroValue3
  t4 := Try.underlying4
  a4 := Try.isAgg4
  z4 := Try.sizeOf4
  v4 := Try.zeroValue4
  t5 := Try.underlying5
  a5 := Try.isAgg5
  z5 := Try.sizeOf5
  v5 := Try.zeroValue5
  t9 := Try.underlying9
  a9 := Try.isAgg9
  z9 := Try.sizeOf9
  v9 := Try.zeroValue9
  t31 := Try.underlying37
  a31 := Try.isAgg37
  z31 := Try.sizeOf37
  v31 := Try.zeroValue37
  t46 := Try.underlying70
  a46 := Try.isAgg70
  z46 := Try.sizeOf70
  v46 := Try.zeroValue70
  t51 := Try.underlying83
  a51 := Try.isAgg83
  z51 := Try.sizeOf83
  v51 := Try.zeroValue83
  t53 := Try.underlying85
  a53 := Try.isAgg85
  z53 := Try.sizeOf85
  v53 := Try.zeroValue85
  t131 := Try.underlying80
  a131 := Try.isAgg80
  z131 := Try.sizeOf80
  v131 := Try.zeroValue80
  t182 := Try.underlying75
  a182 := Try.isAgg75
  z182 := Try.sizeOf75
  v182 := Try.zeroValue75
  t183 := Try.underlying76
  a183 := Try.isAgg76
  z183 := Try.sizeOf76
  v183 := Try.zeroValue76
  t218 := Try.underlying87
  a218 := Try.isAgg87
  z218 := Try.sizeOf87
  v218 := Try.zeroValue87
  t222 := Try.underlying91
  a222 := Try.isAgg91
  z222 := Try.sizeOf91
  v222 := Try.zeroValue91
  t228 := Try.underlying93
  a228 := Try.isAgg93
  z228 := Try.sizeOf93
  v228 := Try.zeroValue93
  t229 := Try.underlying94
  a229 := Try.isAgg94
  z229 := Try.sizeOf94
  v229 := Try.zeroValue94
theorem good_slices_Sort_string_string : Sorts Try.prog F_slices_Sort_string_string := ⟨⟨_, Try.func21, by kernel_rfl, by kernel_rfl⟩, Any.slices_Sort_string lays21, Any.slices_Sort_string_none lays21⟩

def ren27 : Ren := ⟨fun n => match n with | 5 => 27 | 7 => 35 | n => n, fun n => match n with | 3 => 52 | 4 => 4 | 20 => 20 | 23 => 43 | 25 => 9 | n => n, fun n => n⟩
theorem lays27 : SlLaysW.n5 Try.prog ren27 where
  mixed := by kernel_rfl
  f5 := ⟨Try.f27.name, by kernel_rfl, (Try.func27).trans (by kernel_rfl)⟩
  f7 := (Try.func35).trans (by kernel_rfl)
  t4 := Try.underlying4
  a4 := Try.isAgg4
  z4 := Try.sizeOf4
  v4 := Try.zeroValue4
  t20 := Try.underlying20
  a20 := Try.isAgg20
  z20 := Try.sizeOf20
  v20 := Try.zeroValue20
  t23 := Try.underlying43
  a23 := Try.isAgg43
  z23 := Try.sizeOf43
  v23 := Try.zeroValue43
theorem good_maps_Clone_map_string_wall_class_string_wall_class : Clones Try.prog F_maps_Clone_map_string_wall_class_string_wall_class := ⟨⟨_, Try.func27, by kernel_rfl, by kernel_rfl⟩, AnyW.maps_Clone lays27, AnyW.maps_Clone_nil lays27⟩

def ren28 : Ren := ⟨fun n => match n with | 5 => 28 | 7 => 35 | n => n, fun n => match n with | 3 => 3 | 4 => 4 | 20 => 20 | 23 => 44 | 25 => 55 | n => n, fun n => n⟩
theorem lays28 : SlLaysW.n5 Try.prog ren28 where
  mixed := by kernel_rfl
  f5 := ⟨Try.f28.name, by kernel_rfl, (Try.func28).trans (by kernel_rfl)⟩
  f7 := (Try.func35).trans (by kernel_rfl)
  t4 := Try.underlying4
  a4 := Try.isAgg4
  z4 := Try.sizeOf4
  v4 := Try.zeroValue4
  t20 := Try.underlying20
  a20 := Try.isAgg20
  z20 := Try.sizeOf20
  v20 := Try.zeroValue20
  t23 := Try.underlying44
  a23 := Try.isAgg44
  z23 := Try.sizeOf44
  v23 := Try.zeroValue44
theorem good_maps_Clone_map_wall_sight_int_wall_sight_int : Clones Try.prog F_maps_Clone_map_wall_sight_int_wall_sight_int := ⟨⟨_, Try.func28, by kernel_rfl, by kernel_rfl⟩, AnyW.maps_Clone lays28, AnyW.maps_Clone_nil lays28⟩

end Bz.S
