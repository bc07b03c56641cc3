/- The kit's contracts of the library's functions, at this program. -/
import Derived.Test.YtddljfbalbnkcaaProg
import Derived.Test.YtddljfbalbnkcaaOwn
import Derived.Shelf.SlSortCmp.NoneTotal
import Derived.KernelRfl
set_option linter.unusedSimpArgs false
set_option linter.unusedVariables false
set_option maxRecDepth 100000
namespace Bz.S
open Go Go.Shelf Go.Proofs Bz

def ren15 : Ren := ⟨fun n => match n with | 6 => 15 | 14 => 22 | 15 => 23 | 20 => 28 | 21 => 29 | 22 => 30 | 23 => 31 | 24 => 32 | 25 => 33 | 26 => 34 | 27 => 35 | 28 => 36 | 29 => 37 | 46 => 40 | 47 => 41 | 48 => 42 | 49 => 43 | 50 => 44 | 57 => 45 | n => n, fun n => match n with | 0 => 0 | 3 => 3 | 4 => 4 | 5 => 5 | 9 => 9 | 22 => 22 | 24 => 34 | 25 => 47 | 39 => 54 | 45 => 61 | 46 => 62 | 50 => 66 | 53 => 69 | 55 => 71 | 66 => 75 | 70 => 79 | 76 => 81 | 77 => 82 | n => n, fun n => n⟩
theorem lays15 : SlLaysF0.n6 Try.prog ren15 where
  mixed := by kernel_rfl
  f6 := ⟨Try.f15.name, by kernel_rfl, (Try.func15).trans (by kernel_rfl)⟩
  f14 := ⟨Try.f22.name, by kernel_rfl, (Try.func22).trans (by kernel_rfl)⟩
  f15 := (Try.func23).trans (by kernel_rfl)
  f20 := ⟨Try.f28.name, by kernel_rfl, (Try.func28).trans (by kernel_rfl)⟩
  f21 := ⟨Try.f29.name, by kernel_rfl, (Try.func29).trans (by kernel_rfl)⟩
  f22 := ⟨Try.f30.name, by kernel_rfl, (Try.func30).trans (by kernel_rfl)⟩
  f23 := ⟨Try.f31.name, by kernel_rfl, (Try.func31).trans (by kernel_rfl)⟩
  f24 := ⟨Try.f32.name, by kernel_rfl, (Try.func32).trans (by kernel_rfl)⟩
  f25 := ⟨Try.f33.name, by kernel_rfl, (Try.func33).trans (by kernel_rfl)⟩
  f26 := ⟨Try.f34.name, by kernel_rfl, (Try.func34).trans (by kernel_rfl)⟩
  f27 := ⟨Try.f35.name, by kernel_rfl, (Try.func35).trans (by kernel_rfl)⟩
  f28 := (Try.func36).trans (by kernel_rfl)
  f29 := (Try.func37).trans (by kernel_rfl)
  f46 := ⟨Try.f40.name, by kernel_rfl, (Try.func40).trans (by kernel_rfl)⟩
  f47 := (Try.func41).trans (by kernel_rfl)
  f48 := (Try.func42).trans (by kernel_rfl)
  f49 := ⟨Try.f43.name, by kernel_rfl, (Try.func43).trans (by kernel_rfl)⟩
  f50 := ⟨Try.f44.name, by kernel_rfl, (Try.func44).trans (by kernel_rfl)⟩
  f57 := ⟨Try.f45.name, by kernel_rfl, (Try.func45).trans (by kernel_rfl)⟩
  t0 := Try.underlying0
  a0 := Try.isAgg0
  z0 := Try.sizeOf0
  v0 := Try.zeroValue0
  t3 := Try.underlying3
  a3 := Try.isAgg3
  z3 := Try.sizeOf3
  v3 := Try.zeroValue3
  t4 := Try.underlying4
  a4 := Try.isAgg4
  z4 := Try.sizeOf4
  v4 := Try.zeroValue4
  t5 := Try.underlying5
  a5 := Try.isAgg5
  z5 := Try.sizeOf5
  v5 := Try.zeroValue5
  t9 := Try.underlying9
  a9 := Try.isAgg9
  z9 := Try.sizeOf9
  v9 := Try.zeroValue9
  t22 := Try.underlying22
  a22 := Try.isAgg22
  z22 := Try.sizeOf22
  v22 := Try.zeroValue22
  t25 := Try.underlying47
  a25 := Try.isAgg47
  z25 := Try.sizeOf47
  v25 := Try.zeroValue47
  t39 := Try.underlying54
  a39 := Try.isAgg54
  z39 := Try.sizeOf54
  v39 := Try.zeroValue54
  t45 := Try.underlying61
  a45 := Try.isAgg61
  z45 := Try.sizeOf61
  v45 := Try.zeroValue61
  t46 := Try.underlying62
  a46 := Try.isAgg62
  z46 := Try.sizeOf62
  v46 := Try.zeroValue62
  t50 := Try.underlying66
  a50 := Try.isAgg66
  z50 := Try.sizeOf66
  v50 := Try.zeroValue66
  t53 := Try.underlying69
  a53 := Try.isAgg69
  z53 := Try.sizeOf69
  v53 := Try.zeroValue69
  t55 := Try.underlying71
  a55 := Try.isAgg71
  z55 := Try.sizeOf71
  v55 := Try.zeroValue71
  t66 := Try.underlying75
  a66 := Try.isAgg75
  z66 := Try.sizeOf75
  v66 := Try.zeroValue75
  t70 := Try.underlying79
  a70 := Try.isAgg79
  z70 := Try.sizeOf79
  v70 := Try.zeroValue79
  t76 := Try.underlying81
  a76 := Try.isAgg81
  z76 := Try.sizeOf81
  v76 := Try.zeroValue81
  t77 := Try.underlying82
  a77 := Try.isAgg82
  z77 := Try.sizeOf82
  v77 := Try.zeroValue82
theorem good_slices_SortFunc_reads_Read_reads_Read : SortsF Try.prog F_slices_SortFunc_reads_Read_reads_Read 2 := ⟨⟨_, Try.func15, by kernel_rfl, by kernel_rfl⟩, fun enc hk h1 cf hO g cb blk off cap d w eg hc hH hb hs hT => AnyQ.slices_SortFunc_total lays15 2 Try.isAgg34 Try.sizeOf34 enc hk h1 cf hO g cb blk off cap d w eg hc hH hb hs hT, AnyF.slices_SortFunc_none lays15⟩

end Bz.S
