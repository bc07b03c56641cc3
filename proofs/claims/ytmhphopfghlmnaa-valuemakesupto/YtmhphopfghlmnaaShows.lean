/- The code is the program's. -/
import Derived.Test.YtmhphopfghlmnaaCode0
import Derived.Test.YtmhphopfghlmnaaProg
import Derived.KernelRfl
set_option linter.unusedSimpArgs false
set_option linter.unusedVariables false
set_option maxRecDepth 100000
set_option maxHeartbeats 4000000
namespace Bz.S
open Go Bz
theorem shows_law02_ValueOrders : Shows Go.Proofs.Try.prog F_law02_ValueOrders code_law02_ValueOrders := ⟨_, _, Go.Proofs.Try.func3, rfl, by kernel_rfl, by kernel_rfl, by kernel_rfl, by kernel_rfl, by kernel_rfl⟩
theorem shows_law02_ValueCompares : Shows Go.Proofs.Try.prog F_law02_ValueCompares code_law02_ValueCompares := ⟨_, _, Go.Proofs.Try.func4, rfl, by kernel_rfl, by kernel_rfl, by kernel_rfl, by kernel_rfl, by kernel_rfl⟩
theorem shows_law02_ValueSets : Shows Go.Proofs.Try.prog F_law02_ValueSets code_law02_ValueSets := ⟨_, _, Go.Proofs.Try.func5, rfl, by kernel_rfl, by kernel_rfl, by kernel_rfl, by kernel_rfl, by kernel_rfl⟩
theorem shows_law02_ValueMakes : Shows Go.Proofs.Try.prog F_law02_ValueMakes code_law02_ValueMakes := ⟨_, _, Go.Proofs.Try.func6, rfl, by kernel_rfl, by kernel_rfl, by kernel_rfl, by kernel_rfl, by kernel_rfl⟩
theorem shows_law02_alive : Shows Go.Proofs.Try.prog F_law02_alive code_law02_alive := ⟨_, _, Go.Proofs.Try.func7, rfl, by kernel_rfl, by kernel_rfl, by kernel_rfl, by kernel_rfl, by kernel_rfl⟩
theorem shows_value_Cmp : Shows Go.Proofs.Try.prog F_value_Cmp code_value_Cmp := ⟨_, _, Go.Proofs.Try.func8, rfl, by kernel_rfl, by kernel_rfl, by kernel_rfl, by kernel_rfl, by kernel_rfl⟩
theorem shows_value_Same : Shows Go.Proofs.Try.prog F_value_Same code_value_Same := ⟨_, _, Go.Proofs.Try.func9, rfl, by kernel_rfl, by kernel_rfl, by kernel_rfl, by kernel_rfl, by kernel_rfl⟩
theorem shows_ref02_Cmp : Shows Go.Proofs.Try.prog F_ref02_Cmp code_ref02_Cmp := ⟨_, _, Go.Proofs.Try.func10, rfl, by kernel_rfl, by kernel_rfl, by kernel_rfl, by kernel_rfl, by kernel_rfl⟩
theorem shows_plain_Value : Shows Go.Proofs.Try.prog F_plain_Value code_plain_Value := ⟨_, _, Go.Proofs.Try.func11, rfl, by kernel_rfl, by kernel_rfl, by kernel_rfl, by kernel_rfl, by kernel_rfl⟩
theorem shows_value_Has : Shows Go.Proofs.Try.prog F_value_Has code_value_Has := ⟨_, _, Go.Proofs.Try.func12, rfl, by kernel_rfl, by kernel_rfl, by kernel_rfl, by kernel_rfl, by kernel_rfl⟩
theorem shows_ref02_Has : Shows Go.Proofs.Try.prog F_ref02_Has code_ref02_Has := ⟨_, _, Go.Proofs.Try.func13, rfl, by kernel_rfl, by kernel_rfl, by kernel_rfl, by kernel_rfl, by kernel_rfl⟩
theorem shows_value_Size : Shows Go.Proofs.Try.prog F_value_Size code_value_Size := ⟨_, _, Go.Proofs.Try.func14, rfl, by kernel_rfl, by kernel_rfl, by kernel_rfl, by kernel_rfl, by kernel_rfl⟩
theorem shows_ref02_Size : Shows Go.Proofs.Try.prog F_ref02_Size code_ref02_Size := ⟨_, _, Go.Proofs.Try.func15, rfl, by kernel_rfl, by kernel_rfl, by kernel_rfl, by kernel_rfl, by kernel_rfl⟩
theorem shows_value_Set : Shows Go.Proofs.Try.prog F_value_Set code_value_Set := ⟨_, _, Go.Proofs.Try.func16, rfl, by kernel_rfl, by kernel_rfl, by kernel_rfl, by kernel_rfl, by kernel_rfl⟩
theorem shows_plain_In : Shows Go.Proofs.Try.prog F_plain_In code_plain_In := ⟨_, _, Go.Proofs.Try.func17, rfl, by kernel_rfl, by kernel_rfl, by kernel_rfl, by kernel_rfl, by kernel_rfl⟩
theorem shows_value_Int : Shows Go.Proofs.Try.prog F_value_Int code_value_Int := ⟨_, _, Go.Proofs.Try.func18, rfl, by kernel_rfl, by kernel_rfl, by kernel_rfl, by kernel_rfl, by kernel_rfl⟩
theorem shows_value_Bool : Shows Go.Proofs.Try.prog F_value_Bool code_value_Bool := ⟨_, _, Go.Proofs.Try.func19, rfl, by kernel_rfl, by kernel_rfl, by kernel_rfl, by kernel_rfl, by kernel_rfl⟩
theorem shows_value_Text : Shows Go.Proofs.Try.prog F_value_Text code_value_Text := ⟨_, _, Go.Proofs.Try.func20, rfl, by kernel_rfl, by kernel_rfl, by kernel_rfl, by kernel_rfl, by kernel_rfl⟩
theorem shows_value_Zero : Shows Go.Proofs.Try.prog F_value_Zero code_value_Zero := ⟨_, _, Go.Proofs.Try.func21, rfl, by kernel_rfl, by kernel_rfl, by kernel_rfl, by kernel_rfl, by kernel_rfl⟩
theorem shows_ref02_Int : Shows Go.Proofs.Try.prog F_ref02_Int code_ref02_Int := ⟨_, _, Go.Proofs.Try.func22, rfl, by kernel_rfl, by kernel_rfl, by kernel_rfl, by kernel_rfl, by kernel_rfl⟩
theorem shows_ref02_Bool : Shows Go.Proofs.Try.prog F_ref02_Bool code_ref02_Bool := ⟨_, _, Go.Proofs.Try.func23, rfl, by kernel_rfl, by kernel_rfl, by kernel_rfl, by kernel_rfl, by kernel_rfl⟩
theorem shows_plain_Rising : Shows Go.Proofs.Try.prog F_plain_Rising code_plain_Rising := ⟨_, _, Go.Proofs.Try.func24, rfl, by kernel_rfl, by kernel_rfl, by kernel_rfl, by kernel_rfl, by kernel_rfl⟩
theorem shows_value_Check : Shows Go.Proofs.Try.prog F_value_Check code_value_Check := ⟨_, _, Go.Proofs.Try.func25, rfl, by kernel_rfl, by kernel_rfl, by kernel_rfl, by kernel_rfl, by kernel_rfl⟩
theorem shows_plain_Texts : Shows Go.Proofs.Try.prog F_plain_Texts code_plain_Texts := ⟨_, _, Go.Proofs.Try.func26, rfl, by kernel_rfl, by kernel_rfl, by kernel_rfl, by kernel_rfl, by kernel_rfl⟩
theorem shows_cmp_Compare_int : Shows Go.Proofs.Try.prog F_cmp_Compare_int code_cmp_Compare_int := ⟨_, _, Go.Proofs.Try.func28, rfl, by kernel_rfl, by kernel_rfl, by kernel_rfl, by kernel_rfl, by kernel_rfl⟩
theorem shows_cmp_Compare_int64 : Shows Go.Proofs.Try.prog F_cmp_Compare_int64 code_cmp_Compare_int64 := ⟨_, _, Go.Proofs.Try.func29, rfl, by kernel_rfl, by kernel_rfl, by kernel_rfl, by kernel_rfl, by kernel_rfl⟩
theorem shows_cmp_Compare_string : Shows Go.Proofs.Try.prog F_cmp_Compare_string code_cmp_Compare_string := ⟨_, _, Go.Proofs.Try.func30, rfl, by kernel_rfl, by kernel_rfl, by kernel_rfl, by kernel_rfl, by kernel_rfl⟩
theorem shows_slices_Compare_string_string : Shows Go.Proofs.Try.prog F_slices_Compare_string_string code_slices_Compare_string_string := ⟨_, _, Go.Proofs.Try.func31, rfl, by kernel_rfl, by kernel_rfl, by kernel_rfl, by kernel_rfl, by kernel_rfl⟩
theorem shows_cmp_Or_int : Shows Go.Proofs.Try.prog F_cmp_Or_int code_cmp_Or_int := ⟨_, _, Go.Proofs.Try.func27, rfl, by kernel_rfl, by kernel_rfl, by kernel_rfl, by kernel_rfl, by kernel_rfl⟩
theorem shows_ref02_side : Shows Go.Proofs.Try.prog F_ref02_side code_ref02_side := ⟨_, _, Go.Proofs.Try.func32, rfl, by kernel_rfl, by kernel_rfl, by kernel_rfl, by kernel_rfl, by kernel_rfl⟩
theorem shows_slices_Contains_string_string : Shows Go.Proofs.Try.prog F_slices_Contains_string_string code_slices_Contains_string_string := ⟨_, _, Go.Proofs.Try.func33, rfl, by kernel_rfl, by kernel_rfl, by kernel_rfl, by kernel_rfl, by kernel_rfl⟩
theorem shows_slices_Clone_string_string : Shows Go.Proofs.Try.prog F_slices_Clone_string_string code_slices_Clone_string_string := ⟨_, _, Go.Proofs.Try.func34, rfl, by kernel_rfl, by kernel_rfl, by kernel_rfl, by kernel_rfl, by kernel_rfl⟩
theorem shows_slices_Sort_string_string : Shows Go.Proofs.Try.prog F_slices_Sort_string_string code_slices_Sort_string_string := ⟨_, _, Go.Proofs.Try.func35, rfl, by kernel_rfl, by kernel_rfl, by kernel_rfl, by kernel_rfl, by kernel_rfl⟩
theorem shows_slices_Compact_string_string : Shows Go.Proofs.Try.prog F_slices_Compact_string_string code_slices_Compact_string_string := ⟨_, _, Go.Proofs.Try.func36, rfl, by kernel_rfl, by kernel_rfl, by kernel_rfl, by kernel_rfl, by kernel_rfl⟩
theorem shows_value_long : Shows Go.Proofs.Try.prog F_value_long code_value_long := ⟨_, _, Go.Proofs.Try.func37, rfl, by kernel_rfl, by kernel_rfl, by kernel_rfl, by kernel_rfl, by kernel_rfl⟩
theorem shows_slices_ContainsFunc_string_string : Shows Go.Proofs.Try.prog F_slices_ContainsFunc_string_string code_slices_ContainsFunc_string_string := ⟨_, _, Go.Proofs.Try.func38, rfl, by kernel_rfl, by kernel_rfl, by kernel_rfl, by kernel_rfl, by kernel_rfl⟩
theorem shows_value_odd : Shows Go.Proofs.Try.prog F_value_odd code_value_odd := ⟨_, _, Go.Proofs.Try.func39, rfl, by kernel_rfl, by kernel_rfl, by kernel_rfl, by kernel_rfl, by kernel_rfl⟩
theorem shows_cmp_isNaN_int : Shows Go.Proofs.Try.prog F_cmp_isNaN_int code_cmp_isNaN_int := ⟨_, _, Go.Proofs.Try.func40, rfl, by kernel_rfl, by kernel_rfl, by kernel_rfl, by kernel_rfl, by kernel_rfl⟩
theorem shows_cmp_isNaN_int64 : Shows Go.Proofs.Try.prog F_cmp_isNaN_int64 code_cmp_isNaN_int64 := ⟨_, _, Go.Proofs.Try.func41, rfl, by kernel_rfl, by kernel_rfl, by kernel_rfl, by kernel_rfl, by kernel_rfl⟩
theorem shows_cmp_isNaN_string : Shows Go.Proofs.Try.prog F_cmp_isNaN_string code_cmp_isNaN_string := ⟨_, _, Go.Proofs.Try.func42, rfl, by kernel_rfl, by kernel_rfl, by kernel_rfl, by kernel_rfl, by kernel_rfl⟩
theorem shows_slices_Index_string_string : Shows Go.Proofs.Try.prog F_slices_Index_string_string code_slices_Index_string_string := ⟨_, _, Go.Proofs.Try.func43, rfl, by kernel_rfl, by kernel_rfl, by kernel_rfl, by kernel_rfl, by kernel_rfl⟩
theorem shows_math_bits_Len : Shows Go.Proofs.Try.prog F_math_bits_Len code_math_bits_Len := ⟨_, _, Go.Proofs.Try.func45, rfl, by kernel_rfl, by kernel_rfl, by kernel_rfl, by kernel_rfl, by kernel_rfl⟩
theorem shows_slices_pdqsortOrdered_string : Shows Go.Proofs.Try.prog F_slices_pdqsortOrdered_string code_slices_pdqsortOrdered_string := ⟨_, _, Go.Proofs.Try.func44, rfl, by kernel_rfl, by kernel_rfl, by kernel_rfl, by kernel_rfl, by kernel_rfl⟩
theorem shows_slices_IndexFunc_string_string : Shows Go.Proofs.Try.prog F_slices_IndexFunc_string_string code_slices_IndexFunc_string_string := ⟨_, _, Go.Proofs.Try.func46, rfl, by kernel_rfl, by kernel_rfl, by kernel_rfl, by kernel_rfl, by kernel_rfl⟩
theorem shows_value_rises : Shows Go.Proofs.Try.prog F_value_rises code_value_rises := ⟨_, _, Go.Proofs.Try.func47, rfl, by kernel_rfl, by kernel_rfl, by kernel_rfl, by kernel_rfl, by kernel_rfl⟩
theorem shows_math_bits_Len32 : Shows Go.Proofs.Try.prog F_math_bits_Len32 code_math_bits_Len32 := ⟨_, _, Go.Proofs.Try.func57, rfl, by kernel_rfl, by kernel_rfl, by kernel_rfl, by kernel_rfl, by kernel_rfl⟩
theorem shows_math_bits_Len64 : Shows Go.Proofs.Try.prog F_math_bits_Len64 code_math_bits_Len64 := ⟨_, _, Go.Proofs.Try.func58, rfl, by kernel_rfl, by kernel_rfl, by kernel_rfl, by kernel_rfl, by kernel_rfl⟩
theorem shows_slices_insertionSortOrdered_string : Shows Go.Proofs.Try.prog F_slices_insertionSortOrdered_string code_slices_insertionSortOrdered_string := ⟨_, _, Go.Proofs.Try.func48, rfl, by kernel_rfl, by kernel_rfl, by kernel_rfl, by kernel_rfl, by kernel_rfl⟩
theorem shows_slices_heapSortOrdered_string : Shows Go.Proofs.Try.prog F_slices_heapSortOrdered_string code_slices_heapSortOrdered_string := ⟨_, _, Go.Proofs.Try.func49, rfl, by kernel_rfl, by kernel_rfl, by kernel_rfl, by kernel_rfl, by kernel_rfl⟩
theorem shows_slices_breakPatternsOrdered_string : Shows Go.Proofs.Try.prog F_slices_breakPatternsOrdered_string code_slices_breakPatternsOrdered_string := ⟨_, _, Go.Proofs.Try.func50, rfl, by kernel_rfl, by kernel_rfl, by kernel_rfl, by kernel_rfl, by kernel_rfl⟩
theorem shows_slices_choosePivotOrdered_string : Shows Go.Proofs.Try.prog F_slices_choosePivotOrdered_string code_slices_choosePivotOrdered_string := ⟨_, _, Go.Proofs.Try.func51, rfl, by kernel_rfl, by kernel_rfl, by kernel_rfl, by kernel_rfl, by kernel_rfl⟩
theorem shows_slices_reverseRangeOrdered_string : Shows Go.Proofs.Try.prog F_slices_reverseRangeOrdered_string code_slices_reverseRangeOrdered_string := ⟨_, _, Go.Proofs.Try.func52, rfl, by kernel_rfl, by kernel_rfl, by kernel_rfl, by kernel_rfl, by kernel_rfl⟩
theorem shows_slices_partialInsertionSortOrdered_string : Shows Go.Proofs.Try.prog F_slices_partialInsertionSortOrdered_string code_slices_partialInsertionSortOrdered_string := ⟨_, _, Go.Proofs.Try.func53, rfl, by kernel_rfl, by kernel_rfl, by kernel_rfl, by kernel_rfl, by kernel_rfl⟩
theorem shows_cmp_Less_string : Shows Go.Proofs.Try.prog F_cmp_Less_string code_cmp_Less_string := ⟨_, _, Go.Proofs.Try.func54, rfl, by kernel_rfl, by kernel_rfl, by kernel_rfl, by kernel_rfl, by kernel_rfl⟩
theorem shows_slices_partitionEqualOrdered_string : Shows Go.Proofs.Try.prog F_slices_partitionEqualOrdered_string code_slices_partitionEqualOrdered_string := ⟨_, _, Go.Proofs.Try.func55, rfl, by kernel_rfl, by kernel_rfl, by kernel_rfl, by kernel_rfl, by kernel_rfl⟩
theorem shows_slices_partitionOrdered_string : Shows Go.Proofs.Try.prog F_slices_partitionOrdered_string code_slices_partitionOrdered_string := ⟨_, _, Go.Proofs.Try.func56, rfl, by kernel_rfl, by kernel_rfl, by kernel_rfl, by kernel_rfl, by kernel_rfl⟩
theorem shows_slices_siftDownOrdered_string : Shows Go.Proofs.Try.prog F_slices_siftDownOrdered_string code_slices_siftDownOrdered_string := ⟨_, _, Go.Proofs.Try.func59, rfl, by kernel_rfl, by kernel_rfl, by kernel_rfl, by kernel_rfl, by kernel_rfl⟩
theorem shows_slices_nextPowerOfTwo : Shows Go.Proofs.Try.prog F_slices_nextPowerOfTwo code_slices_nextPowerOfTwo := ⟨_, _, Go.Proofs.Try.func60, rfl, by kernel_rfl, by kernel_rfl, by kernel_rfl, by kernel_rfl, by kernel_rfl⟩
theorem shows_slices_xorshift_Next : Shows Go.Proofs.Try.prog F_slices_xorshift_Next code_slices_xorshift_Next := ⟨_, _, Go.Proofs.Try.func61, rfl, by kernel_rfl, by kernel_rfl, by kernel_rfl, by kernel_rfl, by kernel_rfl⟩
theorem shows_slices_medianAdjacentOrdered_string : Shows Go.Proofs.Try.prog F_slices_medianAdjacentOrdered_string code_slices_medianAdjacentOrdered_string := ⟨_, _, Go.Proofs.Try.func62, rfl, by kernel_rfl, by kernel_rfl, by kernel_rfl, by kernel_rfl, by kernel_rfl⟩
theorem shows_slices_medianOrdered_string : Shows Go.Proofs.Try.prog F_slices_medianOrdered_string code_slices_medianOrdered_string := ⟨_, _, Go.Proofs.Try.func63, rfl, by kernel_rfl, by kernel_rfl, by kernel_rfl, by kernel_rfl, by kernel_rfl⟩
theorem shows_slices_order2Ordered_string : Shows Go.Proofs.Try.prog F_slices_order2Ordered_string code_slices_order2Ordered_string := ⟨_, _, Go.Proofs.Try.func64, rfl, by kernel_rfl, by kernel_rfl, by kernel_rfl, by kernel_rfl, by kernel_rfl⟩
theorem codeL_ok : TableOK Go.Proofs.Try.prog codeL := ⟨shows_law02_ValueOrders,
  ⟨shows_law02_ValueCompares,
  ⟨shows_law02_ValueSets,
  ⟨shows_law02_ValueMakes,
  ⟨shows_law02_alive,
  ⟨shows_value_Cmp,
  ⟨shows_value_Same,
  ⟨shows_ref02_Cmp,
  ⟨shows_plain_Value,
  ⟨shows_value_Has,
  ⟨shows_ref02_Has,
  ⟨shows_value_Size,
  ⟨shows_ref02_Size,
  ⟨shows_value_Set,
  ⟨shows_plain_In,
  ⟨shows_value_Int,
  ⟨shows_value_Bool,
  ⟨shows_value_Text,
  ⟨shows_value_Zero,
  ⟨shows_ref02_Int,
  ⟨shows_ref02_Bool,
  ⟨shows_plain_Rising,
  ⟨shows_value_Check,
  ⟨shows_plain_Texts,
  ⟨shows_cmp_Compare_int,
  ⟨shows_cmp_Compare_int64,
  ⟨shows_cmp_Compare_string,
  ⟨shows_slices_Compare_string_string,
  ⟨shows_cmp_Or_int,
  ⟨shows_ref02_side,
  ⟨shows_slices_Contains_string_string,
  ⟨shows_slices_Clone_string_string,
  ⟨shows_slices_Sort_string_string,
  ⟨shows_slices_Compact_string_string,
  ⟨shows_value_long,
  ⟨shows_slices_ContainsFunc_string_string,
  ⟨shows_value_odd,
  ⟨shows_cmp_isNaN_int,
  ⟨shows_cmp_isNaN_int64,
  ⟨shows_cmp_isNaN_string,
  ⟨shows_slices_Index_string_string,
  ⟨shows_math_bits_Len,
  ⟨shows_slices_pdqsortOrdered_string,
  ⟨shows_slices_IndexFunc_string_string,
  ⟨shows_value_rises,
  ⟨shows_math_bits_Len32,
  ⟨shows_math_bits_Len64,
  ⟨shows_slices_insertionSortOrdered_string,
  ⟨shows_slices_heapSortOrdered_string,
  ⟨shows_slices_breakPatternsOrdered_string,
  ⟨shows_slices_choosePivotOrdered_string,
  ⟨shows_slices_reverseRangeOrdered_string,
  ⟨shows_slices_partialInsertionSortOrdered_string,
  ⟨shows_cmp_Less_string,
  ⟨shows_slices_partitionEqualOrdered_string,
  ⟨shows_slices_partitionOrdered_string,
  ⟨shows_slices_siftDownOrdered_string,
  ⟨shows_slices_nextPowerOfTwo,
  ⟨shows_slices_xorshift_Next,
  ⟨shows_slices_medianAdjacentOrdered_string,
  ⟨shows_slices_medianOrdered_string,
  ⟨shows_slices_order2Ordered_string,
  trivial⟩⟩⟩⟩⟩⟩⟩⟩⟩⟩⟩⟩⟩⟩⟩⟩⟩⟩⟩⟩⟩⟩⟩⟩⟩⟩⟩⟩⟩⟩⟩⟩⟩⟩⟩⟩⟩⟩⟩⟩⟩⟩⟩⟩⟩⟩⟩⟩⟩⟩⟩⟩⟩⟩⟩⟩⟩⟩⟩⟩⟩⟩
theorem code_ok (f : Nat) (fn : AFunc) (h : code f = some fn) : Shows Go.Proofs.Try.prog f fn := tableAt_ok codeL_ok h
end Bz.S
