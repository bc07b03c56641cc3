/- The kit's contracts of the library's functions, at this program. -/
import Derived.Test.YtjnbdnabdinpeaaProg
import Derived.Test.YtjnbdnabdinpeaaOwn
import Derived.Shelf.Sort.Plain
import Derived.Shelf.Slices.In.SortNone
import Derived.Shelf.SlSortCmp.NoneTotal
import Derived.KernelRfl
set_option linter.unusedSimpArgs false
set_option linter.unusedVariables false
set_option maxRecDepth 100000
namespace Bz.S
open Go Go.Shelf Go.Proofs Bz

def ren24 : Ren := ⟨fun n => match n with | 125 => 45 | 128 => 67 | 129 => 68 | 190 => 24 | 258 => 44 | 302 => 58 | 303 => 59 | 304 => 60 | 305 => 61 | 306 => 62 | 307 => 63 | 308 => 64 | 309 => 65 | 310 => 66 | 329 => 78 | 330 => 79 | 333 => 77 | 334 => 80 | 335 => 81 | 336 => 57 | 344 => 85 | n => n, fun n => match n with | 0 => 0 | 3 => 3 | 4 => 4 | 5 => 5 | 9 => 9 | 31 => 25 | 46 => 57 | 51 => 74 | 53 => 76 | 131 => 61 | 182 => 66 | 183 => 67 | 218 => 82 | 222 => 86 | 228 => 90 | 229 => 91 | n => n, fun n => n⟩
theorem lays24 : Lays.n190 Try.prog ren24 where
  mixed := by kernel_rfl
  f125 := (Try.func45).trans (by kernel_rfl)
  f128 := (Try.func67).trans (by kernel_rfl)
  f129 := (Try.func68).trans (by kernel_rfl)
  f190 := (Try.func24).trans (by kernel_rfl)
  f258 := (Try.func44).trans (by kernel_rfl)
  f302 := (Try.func58).trans (by kernel_rfl)
  f303 := (Try.func59).trans (by kernel_rfl)
  f304 := (Try.func60).trans (by kernel_rfl)
  f305 := (Try.func61).trans (by kernel_rfl)
  f306 := (Try.func62).trans (by kernel_rfl)
  f307 := (Try.func63).trans (by kernel_rfl)
  f308 := (Try.func64).trans (by kernel_rfl)
  f309 := (Try.func65).trans (by kernel_rfl)
  f310 := (Try.func66).trans (by kernel_rfl)
  f329 := (Try.func78).trans (by kernel_rfl)
  f330 := (Try.func79).trans (by kernel_rfl)
  f333 := (Try.func77).trans (by kernel_rfl)
  f334 := (Try.func80).trans (by kernel_rfl)
  f335 := (Try.func81).trans (by kernel_rfl)
  f336 := (Try.func57).trans (by kernel_rfl)
  f344 := (Try.func85).trans (by kernel_rfl)
  t0 := Try.underlying0
  a0 := Try.isAgg0
  z0 := Try.sizeOf0
  v0 := Try.zeroValue0
  t3 := Try.underlying3
  a3 := Try.isAgg3
  z3 := Try.sizeOf3
  v3 := Try.zeroValue3
  t4 := Try.underlying4
  a4 := Try.isAgg4
  z4 := Try.sizeOf4
  v4 := Try.zeroValue4
  t5 := Try.underlying5
  a5 := Try.isAgg5
  z5 := Try.sizeOf5
  v5 := Try.zeroValue5
  t9 := Try.underlying9
  a9 := Try.isAgg9
  z9 := Try.sizeOf9
  v9 := Try.zeroValue9
  t31 := Try.underlying25
  a31 := Try.isAgg25
  z31 := Try.sizeOf25
  v31 := Try.zeroValue25
  t46 := Try.underlying57
  a46 := Try.isAgg57
  z46 := Try.sizeOf57
  v46 := Try.zeroValue57
  t51 := Try.underlying74
  a51 := Try.isAgg74
  z51 := Try.sizeOf74
  v51 := Try.zeroValue74
  t53 := Try.underlying76
  a53 := Try.isAgg76
  z53 := Try.sizeOf76
  v53 := Try.zeroValue76
  t131 := Try.underlying61
  a131 := Try.isAgg61
  z131 := Try.sizeOf61
  v131 := Try.zeroValue61
  t182 := Try.underlying66
  a182 := Try.isAgg66
  z182 := Try.sizeOf66
  v182 := Try.zeroValue66
  t183 := Try.underlying67
  a183 := Try.isAgg67
  z183 := Try.sizeOf67
  v183 := Try.zeroValue67
  t218 := Try.underlying82
  a218 := Try.isAgg82
  z218 := Try.sizeOf82
  v218 := Try.zeroValue82
  t222 := Try.underlying86
  a222 := Try.isAgg86
  z222 := Try.sizeOf86
  v222 := Try.zeroValue86
  t228 := Try.underlying90
  a228 := Try.isAgg90
  z228 := Try.sizeOf90
  v228 := Try.zeroValue90
  t229 := Try.underlying91
  a229 := Try.isAgg91
  z229 := Try.sizeOf91
  v229 := Try.zeroValue91
theorem good_slices_Sort_string_string : Sorts Try.prog F_slices_Sort_string_string := ⟨⟨_, Try.func24, by kernel_rfl, by kernel_rfl⟩, Any.slices_Sort_string lays24, Any.slices_Sort_string_none lays24⟩

def ren38 : Ren := ⟨fun n => match n with | 6 => 38 | 14 => 56 | 15 => 45 | 20 => 69 | 21 => 70 | 22 => 71 | 23 => 72 | 24 => 73 | 25 => 74 | 26 => 75 | 27 => 76 | 28 => 67 | 29 => 68 | 46 => 82 | 47 => 78 | 48 => 79 | 49 => 83 | 50 => 84 | 57 => 86 | n => n, fun n => match n with | 0 => 0 | 3 => 3 | 4 => 4 | 5 => 5 | 9 => 9 | 22 => 22 | 24 => 34 | 25 => 53 | 39 => 57 | 45 => 66 | 46 => 67 | 50 => 61 | 53 => 74 | 55 => 76 | 66 => 82 | 70 => 86 | 76 => 90 | 77 => 91 | n => n, fun n => n⟩
theorem lays38 : SlLaysF0.n6 Try.prog ren38 where
  mixed := by kernel_rfl
  f6 := ⟨Try.f38.name, by kernel_rfl, (Try.func38).trans (by kernel_rfl)⟩
  f14 := ⟨Try.f56.name, by kernel_rfl, (Try.func56).trans (by kernel_rfl)⟩
  f15 := (Try.func45).trans (by kernel_rfl)
  f20 := ⟨Try.f69.name, by kernel_rfl, (Try.func69).trans (by kernel_rfl)⟩
  f21 := ⟨Try.f70.name, by kernel_rfl, (Try.func70).trans (by kernel_rfl)⟩
  f22 := ⟨Try.f71.name, by kernel_rfl, (Try.func71).trans (by kernel_rfl)⟩
  f23 := ⟨Try.f72.name, by kernel_rfl, (Try.func72).trans (by kernel_rfl)⟩
  f24 := ⟨Try.f73.name, by kernel_rfl, (Try.func73).trans (by kernel_rfl)⟩
  f25 := ⟨Try.f74.name, by kernel_rfl, (Try.func74).trans (by kernel_rfl)⟩
  f26 := ⟨Try.f75.name, by kernel_rfl, (Try.func75).trans (by kernel_rfl)⟩
  f27 := ⟨Try.f76.name, by kernel_rfl, (Try.func76).trans (by kernel_rfl)⟩
  f28 := (Try.func67).trans (by kernel_rfl)
  f29 := (Try.func68).trans (by kernel_rfl)
  f46 := ⟨Try.f82.name, by kernel_rfl, (Try.func82).trans (by kernel_rfl)⟩
  f47 := (Try.func78).trans (by kernel_rfl)
  f48 := (Try.func79).trans (by kernel_rfl)
  f49 := ⟨Try.f83.name, by kernel_rfl, (Try.func83).trans (by kernel_rfl)⟩
  f50 := ⟨Try.f84.name, by kernel_rfl, (Try.func84).trans (by kernel_rfl)⟩
  f57 := ⟨Try.f86.name, by kernel_rfl, (Try.func86).trans (by kernel_rfl)⟩
  t0 := Try.underlying0
  a0 := Try.isAgg0
  z0 := Try.sizeOf0
  v0 := Try.zeroValue0
  t3 := Try.underlying3
  a3 := Try.isAgg3
  z3 := Try.sizeOf3
  v3 := Try.zeroValue3
  t4 := Try.underlying4
  a4 := Try.isAgg4
  z4 := Try.sizeOf4
  v4 := Try.zeroValue4
  t5 := Try.underlying5
  a5 := Try.isAgg5
  z5 := Try.sizeOf5
  v5 := Try.zeroValue5
  t9 := Try.underlying9
  a9 := Try.isAgg9
  z9 := Try.sizeOf9
  v9 := Try.zeroValue9
  t22 := Try.underlying22
  a22 := Try.isAgg22
  z22 := Try.sizeOf22
  v22 := Try.zeroValue22
  t25 := Try.underlying53
  a25 := Try.isAgg53
  z25 := Try.sizeOf53
  v25 := Try.zeroValue53
  t39 := Try.underlying57
  a39 := Try.isAgg57
  z39 := Try.sizeOf57
  v39 := Try.zeroValue57
  t45 := Try.underlying66
  a45 := Try.isAgg66
  z45 := Try.sizeOf66
  v45 := Try.zeroValue66
  t46 := Try.underlying67
  a46 := Try.isAgg67
  z46 := Try.sizeOf67
  v46 := Try.zeroValue67
  t50 := Try.underlying61
  a50 := Try.isAgg61
  z50 := Try.sizeOf61
  v50 := Try.zeroValue61
  t53 := Try.underlying74
  a53 := Try.isAgg74
  z53 := Try.sizeOf74
  v53 := Try.zeroValue74
  t55 := Try.underlying76
  a55 := Try.isAgg76
  z55 := Try.sizeOf76
  v55 := Try.zeroValue76
  t66 := Try.underlying82
  a66 := Try.isAgg82
  z66 := Try.sizeOf82
  v66 := Try.zeroValue82
  t70 := Try.underlying86
  a70 := Try.isAgg86
  z70 := Try.sizeOf86
  v70 := Try.zeroValue86
  t76 := Try.underlying90
  a76 := Try.isAgg90
  z76 := Try.sizeOf90
  v76 := Try.zeroValue90
  t77 := Try.underlying91
  a77 := Try.isAgg91
  z77 := Try.sizeOf91
  v77 := Try.zeroValue91
theorem good_slices_SortFunc_roles_Pair_roles_Pair : SortsF Try.prog F_slices_SortFunc_roles_Pair_roles_Pair 2 := ⟨⟨_, Try.func38, by kernel_rfl, by kernel_rfl⟩, fun enc hk h1 cf hO g cb blk off cap d w eg hc hH hb hs hT => AnyQ.slices_SortFunc_total lays38 2 Try.isAgg34 Try.sizeOf34 enc hk h1 cf hO g cb blk off cap d w eg hc hH hb hs hT, AnyF.slices_SortFunc_none lays38⟩

end Bz.S
