/- The code is the program's. -/
import Derived.Test.YtddljfbalbnkcaaCode0
import Derived.Test.YtddljfbalbnkcaaProg
import Derived.KernelRfl
set_option linter.unusedSimpArgs false
set_option linter.unusedVariables false
set_option maxRecDepth 100000
set_option maxHeartbeats 4000000
namespace Bz.S
open Go Bz
theorem shows_law12_ReadsJoins : Shows Go.Proofs.Try.prog F_law12_ReadsJoins code_law12_ReadsJoins := ⟨_, _, Go.Proofs.Try.func3, rfl, by kernel_rfl, by kernel_rfl, by kernel_rfl, by kernel_rfl, by kernel_rfl⟩
theorem shows_law12_ReadsTells : Shows Go.Proofs.Try.prog F_law12_ReadsTells code_law12_ReadsTells := ⟨_, _, Go.Proofs.Try.func4, rfl, by kernel_rfl, by kernel_rfl, by kernel_rfl, by kernel_rfl, by kernel_rfl⟩
theorem shows_law12_ReadsRight : Shows Go.Proofs.Try.prog F_law12_ReadsRight code_law12_ReadsRight := ⟨_, _, Go.Proofs.Try.func5, rfl, by kernel_rfl, by kernel_rfl, by kernel_rfl, by kernel_rfl, by kernel_rfl⟩
theorem shows_law12_alive : Shows Go.Proofs.Try.prog F_law12_alive code_law12_alive := ⟨_, _, Go.Proofs.Try.func6, rfl, by kernel_rfl, by kernel_rfl, by kernel_rfl, by kernel_rfl, by kernel_rfl⟩
theorem shows_reads_Union : Shows Go.Proofs.Try.prog F_reads_Union code_reads_Union := ⟨_, _, Go.Proofs.Try.func8, rfl, by kernel_rfl, by kernel_rfl, by kernel_rfl, by kernel_rfl, by kernel_rfl⟩
theorem shows_law12_like : Shows Go.Proofs.Try.prog F_law12_like code_law12_like := ⟨_, _, Go.Proofs.Try.func7, rfl, by kernel_rfl, by kernel_rfl, by kernel_rfl, by kernel_rfl, by kernel_rfl⟩
theorem shows_reads_Of : Shows Go.Proofs.Try.prog F_reads_Of code_reads_Of := ⟨_, _, Go.Proofs.Try.func9, rfl, by kernel_rfl, by kernel_rfl, by kernel_rfl, by kernel_rfl, by kernel_rfl⟩
theorem shows_law12_all : Shows Go.Proofs.Try.prog F_law12_all code_law12_all := ⟨_, _, Go.Proofs.Try.func10, rfl, by kernel_rfl, by kernel_rfl, by kernel_rfl, by kernel_rfl, by kernel_rfl⟩
theorem shows_reads_Writes : Shows Go.Proofs.Try.prog F_reads_Writes code_reads_Writes := ⟨_, _, Go.Proofs.Try.func11, rfl, by kernel_rfl, by kernel_rfl, by kernel_rfl, by kernel_rfl, by kernel_rfl⟩
theorem shows_reads_Right : Shows Go.Proofs.Try.prog F_reads_Right code_reads_Right := ⟨_, _, Go.Proofs.Try.func12, rfl, by kernel_rfl, by kernel_rfl, by kernel_rfl, by kernel_rfl, by kernel_rfl⟩
theorem shows_slices_Concat_reads_Read_reads_Read : Shows Go.Proofs.Try.prog F_slices_Concat_reads_Read_reads_Read code_slices_Concat_reads_Read_reads_Read := ⟨_, _, Go.Proofs.Try.func14, rfl, by kernel_rfl, by kernel_rfl, by kernel_rfl, by kernel_rfl, by kernel_rfl⟩
theorem shows_slices_SortFunc_reads_Read_reads_Read : Shows Go.Proofs.Try.prog F_slices_SortFunc_reads_Read_reads_Read code_slices_SortFunc_reads_Read_reads_Read := ⟨_, _, Go.Proofs.Try.func15, rfl, by kernel_rfl, by kernel_rfl, by kernel_rfl, by kernel_rfl, by kernel_rfl⟩
theorem shows_reads_compare : Shows Go.Proofs.Try.prog F_reads_compare code_reads_compare := ⟨_, _, Go.Proofs.Try.func16, rfl, by kernel_rfl, by kernel_rfl, by kernel_rfl, by kernel_rfl, by kernel_rfl⟩
theorem shows_slices_Compact_reads_Read_reads_Read : Shows Go.Proofs.Try.prog F_slices_Compact_reads_Read_reads_Read code_slices_Compact_reads_Read_reads_Read := ⟨_, _, Go.Proofs.Try.func17, rfl, by kernel_rfl, by kernel_rfl, by kernel_rfl, by kernel_rfl, by kernel_rfl⟩
theorem shows_law12_has : Shows Go.Proofs.Try.prog F_law12_has code_law12_has := ⟨_, _, Go.Proofs.Try.func13, rfl, by kernel_rfl, by kernel_rfl, by kernel_rfl, by kernel_rfl, by kernel_rfl⟩
theorem shows_reads_all : Shows Go.Proofs.Try.prog F_reads_all code_reads_all := ⟨_, _, Go.Proofs.Try.func18, rfl, by kernel_rfl, by kernel_rfl, by kernel_rfl, by kernel_rfl, by kernel_rfl⟩
theorem shows_ref07_All : Shows Go.Proofs.Try.prog F_ref07_All code_ref07_All := ⟨_, _, Go.Proofs.Try.func19, rfl, by kernel_rfl, by kernel_rfl, by kernel_rfl, by kernel_rfl, by kernel_rfl⟩
theorem shows_slices_Concat_api_Update_api_Update : Shows Go.Proofs.Try.prog F_slices_Concat_api_Update_api_Update code_slices_Concat_api_Update_api_Update := ⟨_, _, Go.Proofs.Try.func20, rfl, by kernel_rfl, by kernel_rfl, by kernel_rfl, by kernel_rfl, by kernel_rfl⟩
theorem shows_slices_Grow_reads_Read_reads_Read : Shows Go.Proofs.Try.prog F_slices_Grow_reads_Read_reads_Read code_slices_Grow_reads_Read_reads_Read := ⟨_, _, Go.Proofs.Try.func21, rfl, by kernel_rfl, by kernel_rfl, by kernel_rfl, by kernel_rfl, by kernel_rfl⟩
theorem shows_math_bits_Len : Shows Go.Proofs.Try.prog F_math_bits_Len code_math_bits_Len := ⟨_, _, Go.Proofs.Try.func23, rfl, by kernel_rfl, by kernel_rfl, by kernel_rfl, by kernel_rfl, by kernel_rfl⟩
theorem shows_slices_pdqsortCmpFunc_reads_Read : Shows Go.Proofs.Try.prog F_slices_pdqsortCmpFunc_reads_Read code_slices_pdqsortCmpFunc_reads_Read := ⟨_, _, Go.Proofs.Try.func22, rfl, by kernel_rfl, by kernel_rfl, by kernel_rfl, by kernel_rfl, by kernel_rfl⟩
theorem shows_cmp_Compare_int : Shows Go.Proofs.Try.prog F_cmp_Compare_int code_cmp_Compare_int := ⟨_, _, Go.Proofs.Try.func25, rfl, by kernel_rfl, by kernel_rfl, by kernel_rfl, by kernel_rfl, by kernel_rfl⟩
theorem shows_cmp_Compare_string : Shows Go.Proofs.Try.prog F_cmp_Compare_string code_cmp_Compare_string := ⟨_, _, Go.Proofs.Try.func26, rfl, by kernel_rfl, by kernel_rfl, by kernel_rfl, by kernel_rfl, by kernel_rfl⟩
theorem shows_cmp_Or_int : Shows Go.Proofs.Try.prog F_cmp_Or_int code_cmp_Or_int := ⟨_, _, Go.Proofs.Try.func24, rfl, by kernel_rfl, by kernel_rfl, by kernel_rfl, by kernel_rfl, by kernel_rfl⟩
theorem shows_slices_Grow_api_Update_api_Update : Shows Go.Proofs.Try.prog F_slices_Grow_api_Update_api_Update code_slices_Grow_api_Update_api_Update := ⟨_, _, Go.Proofs.Try.func27, rfl, by kernel_rfl, by kernel_rfl, by kernel_rfl, by kernel_rfl, by kernel_rfl⟩
theorem shows_math_bits_Len32 : Shows Go.Proofs.Try.prog F_math_bits_Len32 code_math_bits_Len32 := ⟨_, _, Go.Proofs.Try.func36, rfl, by kernel_rfl, by kernel_rfl, by kernel_rfl, by kernel_rfl, by kernel_rfl⟩
theorem shows_math_bits_Len64 : Shows Go.Proofs.Try.prog F_math_bits_Len64 code_math_bits_Len64 := ⟨_, _, Go.Proofs.Try.func37, rfl, by kernel_rfl, by kernel_rfl, by kernel_rfl, by kernel_rfl, by kernel_rfl⟩
theorem shows_slices_insertionSortCmpFunc_reads_Read : Shows Go.Proofs.Try.prog F_slices_insertionSortCmpFunc_reads_Read code_slices_insertionSortCmpFunc_reads_Read := ⟨_, _, Go.Proofs.Try.func28, rfl, by kernel_rfl, by kernel_rfl, by kernel_rfl, by kernel_rfl, by kernel_rfl⟩
theorem shows_slices_heapSortCmpFunc_reads_Read : Shows Go.Proofs.Try.prog F_slices_heapSortCmpFunc_reads_Read code_slices_heapSortCmpFunc_reads_Read := ⟨_, _, Go.Proofs.Try.func29, rfl, by kernel_rfl, by kernel_rfl, by kernel_rfl, by kernel_rfl, by kernel_rfl⟩
theorem shows_slices_breakPatternsCmpFunc_reads_Read : Shows Go.Proofs.Try.prog F_slices_breakPatternsCmpFunc_reads_Read code_slices_breakPatternsCmpFunc_reads_Read := ⟨_, _, Go.Proofs.Try.func30, rfl, by kernel_rfl, by kernel_rfl, by kernel_rfl, by kernel_rfl, by kernel_rfl⟩
theorem shows_slices_choosePivotCmpFunc_reads_Read : Shows Go.Proofs.Try.prog F_slices_choosePivotCmpFunc_reads_Read code_slices_choosePivotCmpFunc_reads_Read := ⟨_, _, Go.Proofs.Try.func31, rfl, by kernel_rfl, by kernel_rfl, by kernel_rfl, by kernel_rfl, by kernel_rfl⟩
theorem shows_slices_reverseRangeCmpFunc_reads_Read : Shows Go.Proofs.Try.prog F_slices_reverseRangeCmpFunc_reads_Read code_slices_reverseRangeCmpFunc_reads_Read := ⟨_, _, Go.Proofs.Try.func32, rfl, by kernel_rfl, by kernel_rfl, by kernel_rfl, by kernel_rfl, by kernel_rfl⟩
theorem shows_slices_partialInsertionSortCmpFunc_reads_Read : Shows Go.Proofs.Try.prog F_slices_partialInsertionSortCmpFunc_reads_Read code_slices_partialInsertionSortCmpFunc_reads_Read := ⟨_, _, Go.Proofs.Try.func33, rfl, by kernel_rfl, by kernel_rfl, by kernel_rfl, by kernel_rfl, by kernel_rfl⟩
theorem shows_slices_partitionEqualCmpFunc_reads_Read : Shows Go.Proofs.Try.prog F_slices_partitionEqualCmpFunc_reads_Read code_slices_partitionEqualCmpFunc_reads_Read := ⟨_, _, Go.Proofs.Try.func34, rfl, by kernel_rfl, by kernel_rfl, by kernel_rfl, by kernel_rfl, by kernel_rfl⟩
theorem shows_slices_partitionCmpFunc_reads_Read : Shows Go.Proofs.Try.prog F_slices_partitionCmpFunc_reads_Read code_slices_partitionCmpFunc_reads_Read := ⟨_, _, Go.Proofs.Try.func35, rfl, by kernel_rfl, by kernel_rfl, by kernel_rfl, by kernel_rfl, by kernel_rfl⟩
theorem shows_cmp_isNaN_int : Shows Go.Proofs.Try.prog F_cmp_isNaN_int code_cmp_isNaN_int := ⟨_, _, Go.Proofs.Try.func38, rfl, by kernel_rfl, by kernel_rfl, by kernel_rfl, by kernel_rfl, by kernel_rfl⟩
theorem shows_cmp_isNaN_string : Shows Go.Proofs.Try.prog F_cmp_isNaN_string code_cmp_isNaN_string := ⟨_, _, Go.Proofs.Try.func39, rfl, by kernel_rfl, by kernel_rfl, by kernel_rfl, by kernel_rfl, by kernel_rfl⟩
theorem shows_slices_siftDownCmpFunc_reads_Read : Shows Go.Proofs.Try.prog F_slices_siftDownCmpFunc_reads_Read code_slices_siftDownCmpFunc_reads_Read := ⟨_, _, Go.Proofs.Try.func40, rfl, by kernel_rfl, by kernel_rfl, by kernel_rfl, by kernel_rfl, by kernel_rfl⟩
theorem shows_slices_nextPowerOfTwo : Shows Go.Proofs.Try.prog F_slices_nextPowerOfTwo code_slices_nextPowerOfTwo := ⟨_, _, Go.Proofs.Try.func41, rfl, by kernel_rfl, by kernel_rfl, by kernel_rfl, by kernel_rfl, by kernel_rfl⟩
theorem shows_slices_xorshift_Next : Shows Go.Proofs.Try.prog F_slices_xorshift_Next code_slices_xorshift_Next := ⟨_, _, Go.Proofs.Try.func42, rfl, by kernel_rfl, by kernel_rfl, by kernel_rfl, by kernel_rfl, by kernel_rfl⟩
theorem shows_slices_medianAdjacentCmpFunc_reads_Read : Shows Go.Proofs.Try.prog F_slices_medianAdjacentCmpFunc_reads_Read code_slices_medianAdjacentCmpFunc_reads_Read := ⟨_, _, Go.Proofs.Try.func43, rfl, by kernel_rfl, by kernel_rfl, by kernel_rfl, by kernel_rfl, by kernel_rfl⟩
theorem shows_slices_medianCmpFunc_reads_Read : Shows Go.Proofs.Try.prog F_slices_medianCmpFunc_reads_Read code_slices_medianCmpFunc_reads_Read := ⟨_, _, Go.Proofs.Try.func44, rfl, by kernel_rfl, by kernel_rfl, by kernel_rfl, by kernel_rfl, by kernel_rfl⟩
theorem shows_slices_order2CmpFunc_reads_Read : Shows Go.Proofs.Try.prog F_slices_order2CmpFunc_reads_Read code_slices_order2CmpFunc_reads_Read := ⟨_, _, Go.Proofs.Try.func45, rfl, by kernel_rfl, by kernel_rfl, by kernel_rfl, by kernel_rfl, by kernel_rfl⟩
theorem codeL_ok : TableOK Go.Proofs.Try.prog codeL := ⟨shows_law12_ReadsJoins,
  ⟨shows_law12_ReadsTells,
  ⟨shows_law12_ReadsRight,
  ⟨shows_law12_alive,
  ⟨shows_reads_Union,
  ⟨shows_law12_like,
  ⟨shows_reads_Of,
  ⟨shows_law12_all,
  ⟨shows_reads_Writes,
  ⟨shows_reads_Right,
  ⟨shows_slices_Concat_reads_Read_reads_Read,
  ⟨shows_slices_SortFunc_reads_Read_reads_Read,
  ⟨shows_reads_compare,
  ⟨shows_slices_Compact_reads_Read_reads_Read,
  ⟨shows_law12_has,
  ⟨shows_reads_all,
  ⟨shows_ref07_All,
  ⟨shows_slices_Concat_api_Update_api_Update,
  ⟨shows_slices_Grow_reads_Read_reads_Read,
  ⟨shows_math_bits_Len,
  ⟨shows_slices_pdqsortCmpFunc_reads_Read,
  ⟨shows_cmp_Compare_int,
  ⟨shows_cmp_Compare_string,
  ⟨shows_cmp_Or_int,
  ⟨shows_slices_Grow_api_Update_api_Update,
  ⟨shows_math_bits_Len32,
  ⟨shows_math_bits_Len64,
  ⟨shows_slices_insertionSortCmpFunc_reads_Read,
  ⟨shows_slices_heapSortCmpFunc_reads_Read,
  ⟨shows_slices_breakPatternsCmpFunc_reads_Read,
  ⟨shows_slices_choosePivotCmpFunc_reads_Read,
  ⟨shows_slices_reverseRangeCmpFunc_reads_Read,
  ⟨shows_slices_partialInsertionSortCmpFunc_reads_Read,
  ⟨shows_slices_partitionEqualCmpFunc_reads_Read,
  ⟨shows_slices_partitionCmpFunc_reads_Read,
  ⟨shows_cmp_isNaN_int,
  ⟨shows_cmp_isNaN_string,
  ⟨shows_slices_siftDownCmpFunc_reads_Read,
  ⟨shows_slices_nextPowerOfTwo,
  ⟨shows_slices_xorshift_Next,
  ⟨shows_slices_medianAdjacentCmpFunc_reads_Read,
  ⟨shows_slices_medianCmpFunc_reads_Read,
  ⟨shows_slices_order2CmpFunc_reads_Read,
  trivial⟩⟩⟩⟩⟩⟩⟩⟩⟩⟩⟩⟩⟩⟩⟩⟩⟩⟩⟩⟩⟩⟩⟩⟩⟩⟩⟩⟩⟩⟩⟩⟩⟩⟩⟩⟩⟩⟩⟩⟩⟩⟩⟩
theorem code_ok (f : Nat) (fn : AFunc) (h : code f = some fn) : Shows Go.Proofs.Try.prog f fn := tableAt_ok codeL_ok h
end Bz.S
