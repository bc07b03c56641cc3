/- The code is the program's. -/
import Derived.Test.YtkokmockakgjaaaCode0
import Derived.Test.YtkokmockakgjaaaProg
import Derived.KernelRfl
set_option linter.unusedSimpArgs false
set_option linter.unusedVariables false
set_option maxRecDepth 100000
set_option maxHeartbeats 4000000
namespace Bz.S
open Go Bz
theorem shows_law33_WallRuns : Shows Go.Proofs.Try.prog F_law33_WallRuns code_law33_WallRuns := ⟨_, _, Go.Proofs.Try.func3, rfl, by kernel_rfl, by kernel_rfl, by kernel_rfl, by kernel_rfl, by kernel_rfl⟩
theorem shows_law33_WallNever : Shows Go.Proofs.Try.prog F_law33_WallNever code_law33_WallNever := ⟨_, _, Go.Proofs.Try.func4, rfl, by kernel_rfl, by kernel_rfl, by kernel_rfl, by kernel_rfl, by kernel_rfl⟩
theorem shows_law33_WallKeeps : Shows Go.Proofs.Try.prog F_law33_WallKeeps code_law33_WallKeeps := ⟨_, _, Go.Proofs.Try.func5, rfl, by kernel_rfl, by kernel_rfl, by kernel_rfl, by kernel_rfl, by kernel_rfl⟩
theorem shows_law33_WallClones : Shows Go.Proofs.Try.prog F_law33_WallClones code_law33_WallClones := ⟨_, _, Go.Proofs.Try.func6, rfl, by kernel_rfl, by kernel_rfl, by kernel_rfl, by kernel_rfl, by kernel_rfl⟩
theorem shows_law33_alive : Shows Go.Proofs.Try.prog F_law33_alive code_law33_alive := ⟨_, _, Go.Proofs.Try.func7, rfl, by kernel_rfl, by kernel_rfl, by kernel_rfl, by kernel_rfl, by kernel_rfl⟩
theorem shows_wall_New : Shows Go.Proofs.Try.prog F_wall_New code_wall_New := ⟨_, _, Go.Proofs.Try.func9, rfl, by kernel_rfl, by kernel_rfl, by kernel_rfl, by kernel_rfl, by kernel_rfl⟩
theorem shows_law33_few : Shows Go.Proofs.Try.prog F_law33_few code_law33_few := ⟨_, _, Go.Proofs.Try.func10, rfl, by kernel_rfl, by kernel_rfl, by kernel_rfl, by kernel_rfl, by kernel_rfl⟩
theorem shows_law33_run : Shows Go.Proofs.Try.prog F_law33_run code_law33_run := ⟨_, _, Go.Proofs.Try.func8, rfl, by kernel_rfl, by kernel_rfl, by kernel_rfl, by kernel_rfl, by kernel_rfl⟩
theorem shows_wall_Wall_Forget : Shows Go.Proofs.Try.prog F_wall_Wall_Forget code_wall_Wall_Forget := ⟨_, _, Go.Proofs.Try.func11, rfl, by kernel_rfl, by kernel_rfl, by kernel_rfl, by kernel_rfl, by kernel_rfl⟩
theorem shows_law33_clash : Shows Go.Proofs.Try.prog F_law33_clash code_law33_clash := ⟨_, _, Go.Proofs.Try.func13, rfl, by kernel_rfl, by kernel_rfl, by kernel_rfl, by kernel_rfl, by kernel_rfl⟩
theorem shows_wall_Wall_Leak : Shows Go.Proofs.Try.prog F_wall_Wall_Leak code_wall_Wall_Leak := ⟨_, _, Go.Proofs.Try.func15, rfl, by kernel_rfl, by kernel_rfl, by kernel_rfl, by kernel_rfl, by kernel_rfl⟩
theorem shows_wall_Wall_May : Shows Go.Proofs.Try.prog F_wall_Wall_May code_wall_Wall_May := ⟨_, _, Go.Proofs.Try.func16, rfl, by kernel_rfl, by kernel_rfl, by kernel_rfl, by kernel_rfl, by kernel_rfl⟩
theorem shows_law33_foes : Shows Go.Proofs.Try.prog F_law33_foes code_law33_foes := ⟨_, _, Go.Proofs.Try.func17, rfl, by kernel_rfl, by kernel_rfl, by kernel_rfl, by kernel_rfl, by kernel_rfl⟩
theorem shows_wall_Wall_Clone : Shows Go.Proofs.Try.prog F_wall_Wall_Clone code_wall_Wall_Clone := ⟨_, _, Go.Proofs.Try.func18, rfl, by kernel_rfl, by kernel_rfl, by kernel_rfl, by kernel_rfl, by kernel_rfl⟩
theorem shows_law33_step : Shows Go.Proofs.Try.prog F_law33_step code_law33_step := ⟨_, _, Go.Proofs.Try.func19, rfl, by kernel_rfl, by kernel_rfl, by kernel_rfl, by kernel_rfl, by kernel_rfl⟩
theorem shows_wall_Wall_is : Shows Go.Proofs.Try.prog F_wall_Wall_is code_wall_Wall_is := ⟨_, _, Go.Proofs.Try.func20, rfl, by kernel_rfl, by kernel_rfl, by kernel_rfl, by kernel_rfl, by kernel_rfl⟩
theorem shows_slices_Sort_string_string : Shows Go.Proofs.Try.prog F_slices_Sort_string_string code_slices_Sort_string_string := ⟨_, _, Go.Proofs.Try.func21, rfl, by kernel_rfl, by kernel_rfl, by kernel_rfl, by kernel_rfl, by kernel_rfl⟩
theorem shows_wall_Wall_Leak_1 : Shows Go.Proofs.Try.prog F_wall_Wall_Leak_1 code_wall_Wall_Leak_1 := ⟨_, _, Go.Proofs.Try.func23, rfl, by kernel_rfl, by kernel_rfl, by kernel_rfl, by kernel_rfl, by kernel_rfl⟩
theorem shows_slices_ContainsFunc_string_string : Shows Go.Proofs.Try.prog F_slices_ContainsFunc_string_string code_slices_ContainsFunc_string_string := ⟨_, _, Go.Proofs.Try.func22, rfl, by kernel_rfl, by kernel_rfl, by kernel_rfl, by kernel_rfl, by kernel_rfl⟩
theorem shows_wall_Wall_May_1 : Shows Go.Proofs.Try.prog F_wall_Wall_May_1 code_wall_Wall_May_1 := ⟨_, _, Go.Proofs.Try.func25, rfl, by kernel_rfl, by kernel_rfl, by kernel_rfl, by kernel_rfl, by kernel_rfl⟩
theorem shows_law33_class : Shows Go.Proofs.Try.prog F_law33_class code_law33_class := ⟨_, _, Go.Proofs.Try.func26, rfl, by kernel_rfl, by kernel_rfl, by kernel_rfl, by kernel_rfl, by kernel_rfl⟩
theorem shows_maps_Clone_map_string_wall_class_string_wall_class : Shows Go.Proofs.Try.prog F_maps_Clone_map_string_wall_class_string_wall_class code_maps_Clone_map_string_wall_class_string_wall_class := ⟨_, _, Go.Proofs.Try.func27, rfl, by kernel_rfl, by kernel_rfl, by kernel_rfl, by kernel_rfl, by kernel_rfl⟩
theorem shows_maps_Clone_map_wall_sight_int_wall_sight_int : Shows Go.Proofs.Try.prog F_maps_Clone_map_wall_sight_int_wall_sight_int code_maps_Clone_map_wall_sight_int_wall_sight_int := ⟨_, _, Go.Proofs.Try.func28, rfl, by kernel_rfl, by kernel_rfl, by kernel_rfl, by kernel_rfl, by kernel_rfl⟩
theorem shows_law33_may : Shows Go.Proofs.Try.prog F_law33_may code_law33_may := ⟨_, _, Go.Proofs.Try.func29, rfl, by kernel_rfl, by kernel_rfl, by kernel_rfl, by kernel_rfl, by kernel_rfl⟩
theorem shows_law33_of : Shows Go.Proofs.Try.prog F_law33_of code_law33_of := ⟨_, _, Go.Proofs.Try.func30, rfl, by kernel_rfl, by kernel_rfl, by kernel_rfl, by kernel_rfl, by kernel_rfl⟩
theorem shows_plain_Texts : Shows Go.Proofs.Try.prog F_plain_Texts code_plain_Texts := ⟨_, _, Go.Proofs.Try.func31, rfl, by kernel_rfl, by kernel_rfl, by kernel_rfl, by kernel_rfl, by kernel_rfl⟩
theorem shows_math_bits_Len : Shows Go.Proofs.Try.prog F_math_bits_Len code_math_bits_Len := ⟨_, _, Go.Proofs.Try.func33, rfl, by kernel_rfl, by kernel_rfl, by kernel_rfl, by kernel_rfl, by kernel_rfl⟩
theorem shows_slices_pdqsortOrdered_string : Shows Go.Proofs.Try.prog F_slices_pdqsortOrdered_string code_slices_pdqsortOrdered_string := ⟨_, _, Go.Proofs.Try.func32, rfl, by kernel_rfl, by kernel_rfl, by kernel_rfl, by kernel_rfl, by kernel_rfl⟩
theorem shows_wall_Wall_foes : Shows Go.Proofs.Try.prog F_wall_Wall_foes code_wall_Wall_foes := ⟨_, _, Go.Proofs.Try.func24, rfl, by kernel_rfl, by kernel_rfl, by kernel_rfl, by kernel_rfl, by kernel_rfl⟩
theorem shows_slices_IndexFunc_string_string : Shows Go.Proofs.Try.prog F_slices_IndexFunc_string_string code_slices_IndexFunc_string_string := ⟨_, _, Go.Proofs.Try.func34, rfl, by kernel_rfl, by kernel_rfl, by kernel_rfl, by kernel_rfl, by kernel_rfl⟩
theorem shows_plain_Rising : Shows Go.Proofs.Try.prog F_plain_Rising code_plain_Rising := ⟨_, _, Go.Proofs.Try.func36, rfl, by kernel_rfl, by kernel_rfl, by kernel_rfl, by kernel_rfl, by kernel_rfl⟩
theorem shows_math_bits_Len32 : Shows Go.Proofs.Try.prog F_math_bits_Len32 code_math_bits_Len32 := ⟨_, _, Go.Proofs.Try.func46, rfl, by kernel_rfl, by kernel_rfl, by kernel_rfl, by kernel_rfl, by kernel_rfl⟩
theorem shows_math_bits_Len64 : Shows Go.Proofs.Try.prog F_math_bits_Len64 code_math_bits_Len64 := ⟨_, _, Go.Proofs.Try.func47, rfl, by kernel_rfl, by kernel_rfl, by kernel_rfl, by kernel_rfl, by kernel_rfl⟩
theorem shows_slices_insertionSortOrdered_string : Shows Go.Proofs.Try.prog F_slices_insertionSortOrdered_string code_slices_insertionSortOrdered_string := ⟨_, _, Go.Proofs.Try.func37, rfl, by kernel_rfl, by kernel_rfl, by kernel_rfl, by kernel_rfl, by kernel_rfl⟩
theorem shows_slices_heapSortOrdered_string : Shows Go.Proofs.Try.prog F_slices_heapSortOrdered_string code_slices_heapSortOrdered_string := ⟨_, _, Go.Proofs.Try.func38, rfl, by kernel_rfl, by kernel_rfl, by kernel_rfl, by kernel_rfl, by kernel_rfl⟩
theorem shows_slices_breakPatternsOrdered_string : Shows Go.Proofs.Try.prog F_slices_breakPatternsOrdered_string code_slices_breakPatternsOrdered_string := ⟨_, _, Go.Proofs.Try.func39, rfl, by kernel_rfl, by kernel_rfl, by kernel_rfl, by kernel_rfl, by kernel_rfl⟩
theorem shows_slices_choosePivotOrdered_string : Shows Go.Proofs.Try.prog F_slices_choosePivotOrdered_string code_slices_choosePivotOrdered_string := ⟨_, _, Go.Proofs.Try.func40, rfl, by kernel_rfl, by kernel_rfl, by kernel_rfl, by kernel_rfl, by kernel_rfl⟩
theorem shows_slices_reverseRangeOrdered_string : Shows Go.Proofs.Try.prog F_slices_reverseRangeOrdered_string code_slices_reverseRangeOrdered_string := ⟨_, _, Go.Proofs.Try.func41, rfl, by kernel_rfl, by kernel_rfl, by kernel_rfl, by kernel_rfl, by kernel_rfl⟩
theorem shows_slices_partialInsertionSortOrdered_string : Shows Go.Proofs.Try.prog F_slices_partialInsertionSortOrdered_string code_slices_partialInsertionSortOrdered_string := ⟨_, _, Go.Proofs.Try.func42, rfl, by kernel_rfl, by kernel_rfl, by kernel_rfl, by kernel_rfl, by kernel_rfl⟩
theorem shows_cmp_Less_string : Shows Go.Proofs.Try.prog F_cmp_Less_string code_cmp_Less_string := ⟨_, _, Go.Proofs.Try.func43, rfl, by kernel_rfl, by kernel_rfl, by kernel_rfl, by kernel_rfl, by kernel_rfl⟩
theorem shows_slices_partitionEqualOrdered_string : Shows Go.Proofs.Try.prog F_slices_partitionEqualOrdered_string code_slices_partitionEqualOrdered_string := ⟨_, _, Go.Proofs.Try.func44, rfl, by kernel_rfl, by kernel_rfl, by kernel_rfl, by kernel_rfl, by kernel_rfl⟩
theorem shows_slices_partitionOrdered_string : Shows Go.Proofs.Try.prog F_slices_partitionOrdered_string code_slices_partitionOrdered_string := ⟨_, _, Go.Proofs.Try.func45, rfl, by kernel_rfl, by kernel_rfl, by kernel_rfl, by kernel_rfl, by kernel_rfl⟩
theorem shows_plain_In : Shows Go.Proofs.Try.prog F_plain_In code_plain_In := ⟨_, _, Go.Proofs.Try.func48, rfl, by kernel_rfl, by kernel_rfl, by kernel_rfl, by kernel_rfl, by kernel_rfl⟩
theorem shows_slices_siftDownOrdered_string : Shows Go.Proofs.Try.prog F_slices_siftDownOrdered_string code_slices_siftDownOrdered_string := ⟨_, _, Go.Proofs.Try.func49, rfl, by kernel_rfl, by kernel_rfl, by kernel_rfl, by kernel_rfl, by kernel_rfl⟩
theorem shows_slices_nextPowerOfTwo : Shows Go.Proofs.Try.prog F_slices_nextPowerOfTwo code_slices_nextPowerOfTwo := ⟨_, _, Go.Proofs.Try.func50, rfl, by kernel_rfl, by kernel_rfl, by kernel_rfl, by kernel_rfl, by kernel_rfl⟩
theorem shows_slices_xorshift_Next : Shows Go.Proofs.Try.prog F_slices_xorshift_Next code_slices_xorshift_Next := ⟨_, _, Go.Proofs.Try.func51, rfl, by kernel_rfl, by kernel_rfl, by kernel_rfl, by kernel_rfl, by kernel_rfl⟩
theorem shows_slices_medianAdjacentOrdered_string : Shows Go.Proofs.Try.prog F_slices_medianAdjacentOrdered_string code_slices_medianAdjacentOrdered_string := ⟨_, _, Go.Proofs.Try.func52, rfl, by kernel_rfl, by kernel_rfl, by kernel_rfl, by kernel_rfl, by kernel_rfl⟩
theorem shows_slices_medianOrdered_string : Shows Go.Proofs.Try.prog F_slices_medianOrdered_string code_slices_medianOrdered_string := ⟨_, _, Go.Proofs.Try.func53, rfl, by kernel_rfl, by kernel_rfl, by kernel_rfl, by kernel_rfl, by kernel_rfl⟩
theorem shows_cmp_isNaN_string : Shows Go.Proofs.Try.prog F_cmp_isNaN_string code_cmp_isNaN_string := ⟨_, _, Go.Proofs.Try.func54, rfl, by kernel_rfl, by kernel_rfl, by kernel_rfl, by kernel_rfl, by kernel_rfl⟩
theorem shows_slices_order2Ordered_string : Shows Go.Proofs.Try.prog F_slices_order2Ordered_string code_slices_order2Ordered_string := ⟨_, _, Go.Proofs.Try.func55, rfl, by kernel_rfl, by kernel_rfl, by kernel_rfl, by kernel_rfl, by kernel_rfl⟩
theorem rshows_wall_Wall_See : RShows Go.Proofs.Try.prog F_wall_Wall_See rcode_wall_Wall_See := ⟨_, _, Go.Proofs.Try.func12, rfl, by kernel_rfl, by kernel_rfl, by kernel_rfl, by kernel_rfl, by kernel_rfl⟩
theorem rshows_wall_Wall_Seen : RShows Go.Proofs.Try.prog F_wall_Wall_Seen rcode_wall_Wall_Seen := ⟨_, _, Go.Proofs.Try.func14, rfl, by kernel_rfl, by kernel_rfl, by kernel_rfl, by kernel_rfl, by kernel_rfl⟩
theorem codeL_ok : TableOK Go.Proofs.Try.prog codeL := ⟨shows_law33_WallRuns,
  ⟨shows_law33_WallNever,
  ⟨shows_law33_WallKeeps,
  ⟨shows_law33_WallClones,
  ⟨shows_law33_alive,
  ⟨shows_wall_New,
  ⟨shows_law33_few,
  ⟨shows_law33_run,
  ⟨shows_wall_Wall_Forget,
  ⟨shows_law33_clash,
  ⟨shows_wall_Wall_Leak,
  ⟨shows_wall_Wall_May,
  ⟨shows_law33_foes,
  ⟨shows_wall_Wall_Clone,
  ⟨shows_law33_step,
  ⟨shows_wall_Wall_is,
  ⟨shows_slices_Sort_string_string,
  ⟨shows_wall_Wall_Leak_1,
  ⟨shows_slices_ContainsFunc_string_string,
  ⟨shows_wall_Wall_May_1,
  ⟨shows_law33_class,
  ⟨shows_maps_Clone_map_string_wall_class_string_wall_class,
  ⟨shows_maps_Clone_map_wall_sight_int_wall_sight_int,
  ⟨shows_law33_may,
  ⟨shows_law33_of,
  ⟨shows_plain_Texts,
  ⟨shows_math_bits_Len,
  ⟨shows_slices_pdqsortOrdered_string,
  ⟨shows_wall_Wall_foes,
  ⟨shows_slices_IndexFunc_string_string,
  ⟨shows_plain_Rising,
  ⟨shows_math_bits_Len32,
  ⟨shows_math_bits_Len64,
  ⟨shows_slices_insertionSortOrdered_string,
  ⟨shows_slices_heapSortOrdered_string,
  ⟨shows_slices_breakPatternsOrdered_string,
  ⟨shows_slices_choosePivotOrdered_string,
  ⟨shows_slices_reverseRangeOrdered_string,
  ⟨shows_slices_partialInsertionSortOrdered_string,
  ⟨shows_cmp_Less_string,
  ⟨shows_slices_partitionEqualOrdered_string,
  ⟨shows_slices_partitionOrdered_string,
  ⟨shows_plain_In,
  ⟨shows_slices_siftDownOrdered_string,
  ⟨shows_slices_nextPowerOfTwo,
  ⟨shows_slices_xorshift_Next,
  ⟨shows_slices_medianAdjacentOrdered_string,
  ⟨shows_slices_medianOrdered_string,
  ⟨shows_cmp_isNaN_string,
  ⟨shows_slices_order2Ordered_string,
  trivial⟩⟩⟩⟩⟩⟩⟩⟩⟩⟩⟩⟩⟩⟩⟩⟩⟩⟩⟩⟩⟩⟩⟩⟩⟩⟩⟩⟩⟩⟩⟩⟩⟩⟩⟩⟩⟩⟩⟩⟩⟩⟩⟩⟩⟩⟩⟩⟩⟩⟩
theorem code_ok (f : Nat) (fn : AFunc) (h : code f = some fn) : Shows Go.Proofs.Try.prog f fn := tableAt_ok codeL_ok h
end Bz.S
