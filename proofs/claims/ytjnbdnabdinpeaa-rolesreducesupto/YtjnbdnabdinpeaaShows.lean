/- The code is the program's. -/
import Derived.Test.YtjnbdnabdinpeaaCode1
import Derived.Test.YtjnbdnabdinpeaaProg
import Derived.KernelRfl
set_option linter.unusedSimpArgs false
set_option linter.unusedVariables false
set_option maxRecDepth 100000
set_option maxHeartbeats 4000000
namespace Bz.S
open Go Bz
theorem shows_law31_RolesReaches : Shows Go.Proofs.Try.prog F_law31_RolesReaches code_law31_RolesReaches := ⟨_, _, Go.Proofs.Try.func3, rfl, by kernel_rfl, by kernel_rfl, by kernel_rfl, by kernel_rfl, by kernel_rfl⟩
theorem shows_law31_RolesChecks : Shows Go.Proofs.Try.prog F_law31_RolesChecks code_law31_RolesChecks := ⟨_, _, Go.Proofs.Try.func4, rfl, by kernel_rfl, by kernel_rfl, by kernel_rfl, by kernel_rfl, by kernel_rfl⟩
theorem shows_law31_RolesLevels : Shows Go.Proofs.Try.prog F_law31_RolesLevels code_law31_RolesLevels := ⟨_, _, Go.Proofs.Try.func5, rfl, by kernel_rfl, by kernel_rfl, by kernel_rfl, by kernel_rfl, by kernel_rfl⟩
theorem shows_law31_RolesReduces : Shows Go.Proofs.Try.prog F_law31_RolesReduces code_law31_RolesReduces := ⟨_, _, Go.Proofs.Try.func6, rfl, by kernel_rfl, by kernel_rfl, by kernel_rfl, by kernel_rfl, by kernel_rfl⟩
theorem shows_law31_alive : Shows Go.Proofs.Try.prog F_law31_alive code_law31_alive := ⟨_, _, Go.Proofs.Try.func7, rfl, by kernel_rfl, by kernel_rfl, by kernel_rfl, by kernel_rfl, by kernel_rfl⟩
theorem shows_law31_few : Shows Go.Proofs.Try.prog F_law31_few code_law31_few := ⟨_, _, Go.Proofs.Try.func8, rfl, by kernel_rfl, by kernel_rfl, by kernel_rfl, by kernel_rfl, by kernel_rfl⟩
theorem shows_law31_reach : Shows Go.Proofs.Try.prog F_law31_reach code_law31_reach := ⟨_, _, Go.Proofs.Try.func9, rfl, by kernel_rfl, by kernel_rfl, by kernel_rfl, by kernel_rfl, by kernel_rfl⟩
theorem shows_roles_Reach : Shows Go.Proofs.Try.prog F_roles_Reach code_roles_Reach := ⟨_, _, Go.Proofs.Try.func11, rfl, by kernel_rfl, by kernel_rfl, by kernel_rfl, by kernel_rfl, by kernel_rfl⟩
theorem shows_plain_Rising : Shows Go.Proofs.Try.prog F_plain_Rising code_plain_Rising := ⟨_, _, Go.Proofs.Try.func12, rfl, by kernel_rfl, by kernel_rfl, by kernel_rfl, by kernel_rfl, by kernel_rfl⟩
theorem shows_plain_Texts : Shows Go.Proofs.Try.prog F_plain_Texts code_plain_Texts := ⟨_, _, Go.Proofs.Try.func10, rfl, by kernel_rfl, by kernel_rfl, by kernel_rfl, by kernel_rfl, by kernel_rfl⟩
theorem shows_roles_Has : Shows Go.Proofs.Try.prog F_roles_Has code_roles_Has := ⟨_, _, Go.Proofs.Try.func13, rfl, by kernel_rfl, by kernel_rfl, by kernel_rfl, by kernel_rfl, by kernel_rfl⟩
theorem shows_plain_In : Shows Go.Proofs.Try.prog F_plain_In code_plain_In := ⟨_, _, Go.Proofs.Try.func14, rfl, by kernel_rfl, by kernel_rfl, by kernel_rfl, by kernel_rfl, by kernel_rfl⟩
theorem shows_roles_Check : Shows Go.Proofs.Try.prog F_roles_Check code_roles_Check := ⟨_, _, Go.Proofs.Try.func15, rfl, by kernel_rfl, by kernel_rfl, by kernel_rfl, by kernel_rfl, by kernel_rfl⟩
theorem shows_law31_check : Shows Go.Proofs.Try.prog F_law31_check code_law31_check := ⟨_, _, Go.Proofs.Try.func16, rfl, by kernel_rfl, by kernel_rfl, by kernel_rfl, by kernel_rfl, by kernel_rfl⟩
theorem shows_roles_Tops : Shows Go.Proofs.Try.prog F_roles_Tops code_roles_Tops := ⟨_, _, Go.Proofs.Try.func17, rfl, by kernel_rfl, by kernel_rfl, by kernel_rfl, by kernel_rfl, by kernel_rfl⟩
theorem shows_law31_ring : Shows Go.Proofs.Try.prog F_law31_ring code_law31_ring := ⟨_, _, Go.Proofs.Try.func18, rfl, by kernel_rfl, by kernel_rfl, by kernel_rfl, by kernel_rfl, by kernel_rfl⟩
theorem shows_roles_Level : Shows Go.Proofs.Try.prog F_roles_Level code_roles_Level := ⟨_, _, Go.Proofs.Try.func19, rfl, by kernel_rfl, by kernel_rfl, by kernel_rfl, by kernel_rfl, by kernel_rfl⟩
theorem shows_roles_Reduce : Shows Go.Proofs.Try.prog F_roles_Reduce code_roles_Reduce := ⟨_, _, Go.Proofs.Try.func20, rfl, by kernel_rfl, by kernel_rfl, by kernel_rfl, by kernel_rfl, by kernel_rfl⟩
theorem shows_law31_without : Shows Go.Proofs.Try.prog F_law31_without code_law31_without := ⟨_, _, Go.Proofs.Try.func21, rfl, by kernel_rfl, by kernel_rfl, by kernel_rfl, by kernel_rfl, by kernel_rfl⟩
theorem shows_roles_ups : Shows Go.Proofs.Try.prog F_roles_ups code_roles_ups := ⟨_, _, Go.Proofs.Try.func22, rfl, by kernel_rfl, by kernel_rfl, by kernel_rfl, by kernel_rfl, by kernel_rfl⟩
theorem shows_slices_Contains_string_string : Shows Go.Proofs.Try.prog F_slices_Contains_string_string code_slices_Contains_string_string := ⟨_, _, Go.Proofs.Try.func23, rfl, by kernel_rfl, by kernel_rfl, by kernel_rfl, by kernel_rfl, by kernel_rfl⟩
theorem shows_slices_Sort_string_string : Shows Go.Proofs.Try.prog F_slices_Sort_string_string code_slices_Sort_string_string := ⟨_, _, Go.Proofs.Try.func24, rfl, by kernel_rfl, by kernel_rfl, by kernel_rfl, by kernel_rfl, by kernel_rfl⟩
theorem shows_slices_ContainsFunc_roles_Pair_roles_Pair : Shows Go.Proofs.Try.prog F_slices_ContainsFunc_roles_Pair_roles_Pair code_slices_ContainsFunc_roles_Pair_roles_Pair := ⟨_, _, Go.Proofs.Try.func25, rfl, by kernel_rfl, by kernel_rfl, by kernel_rfl, by kernel_rfl, by kernel_rfl⟩
theorem shows_roles_Check_1 : Shows Go.Proofs.Try.prog F_roles_Check_1 code_roles_Check_1 := ⟨_, _, Go.Proofs.Try.func26, rfl, by kernel_rfl, by kernel_rfl, by kernel_rfl, by kernel_rfl, by kernel_rfl⟩
theorem shows_roles_ring : Shows Go.Proofs.Try.prog F_roles_ring code_roles_ring := ⟨_, _, Go.Proofs.Try.func28, rfl, by kernel_rfl, by kernel_rfl, by kernel_rfl, by kernel_rfl, by kernel_rfl⟩
theorem shows_ref06_Name : Shows Go.Proofs.Try.prog F_ref06_Name code_ref06_Name := ⟨_, _, Go.Proofs.Try.func29, rfl, by kernel_rfl, by kernel_rfl, by kernel_rfl, by kernel_rfl, by kernel_rfl⟩
theorem shows_roles_names : Shows Go.Proofs.Try.prog F_roles_names code_roles_names := ⟨_, _, Go.Proofs.Try.func31, rfl, by kernel_rfl, by kernel_rfl, by kernel_rfl, by kernel_rfl, by kernel_rfl⟩
theorem shows_roles_Tops_1 : Shows Go.Proofs.Try.prog F_roles_Tops_1 code_roles_Tops_1 := ⟨_, _, Go.Proofs.Try.func32, rfl, by kernel_rfl, by kernel_rfl, by kernel_rfl, by kernel_rfl, by kernel_rfl⟩
theorem shows_slices_DeleteFunc_string_string : Shows Go.Proofs.Try.prog F_slices_DeleteFunc_string_string code_slices_DeleteFunc_string_string := ⟨_, _, Go.Proofs.Try.func30, rfl, by kernel_rfl, by kernel_rfl, by kernel_rfl, by kernel_rfl, by kernel_rfl⟩
theorem shows_roles_level : Shows Go.Proofs.Try.prog F_roles_level code_roles_level := ⟨_, _, Go.Proofs.Try.func33, rfl, by kernel_rfl, by kernel_rfl, by kernel_rfl, by kernel_rfl, by kernel_rfl⟩
theorem shows_slices_Clone_roles_Pair_roles_Pair : Shows Go.Proofs.Try.prog F_slices_Clone_roles_Pair_roles_Pair code_slices_Clone_roles_Pair_roles_Pair := ⟨_, _, Go.Proofs.Try.func34, rfl, by kernel_rfl, by kernel_rfl, by kernel_rfl, by kernel_rfl, by kernel_rfl⟩
theorem shows_roles_Reduce_1 : Shows Go.Proofs.Try.prog F_roles_Reduce_1 code_roles_Reduce_1 := ⟨_, _, Go.Proofs.Try.func36, rfl, by kernel_rfl, by kernel_rfl, by kernel_rfl, by kernel_rfl, by kernel_rfl⟩
theorem shows_slices_DeleteFunc_roles_Pair_roles_Pair : Shows Go.Proofs.Try.prog F_slices_DeleteFunc_roles_Pair_roles_Pair code_slices_DeleteFunc_roles_Pair_roles_Pair := ⟨_, _, Go.Proofs.Try.func35, rfl, by kernel_rfl, by kernel_rfl, by kernel_rfl, by kernel_rfl, by kernel_rfl⟩
theorem shows_slices_SortFunc_roles_Pair_roles_Pair : Shows Go.Proofs.Try.prog F_slices_SortFunc_roles_Pair_roles_Pair code_slices_SortFunc_roles_Pair_roles_Pair := ⟨_, _, Go.Proofs.Try.func38, rfl, by kernel_rfl, by kernel_rfl, by kernel_rfl, by kernel_rfl, by kernel_rfl⟩
theorem shows_roles_Reduce_2 : Shows Go.Proofs.Try.prog F_roles_Reduce_2 code_roles_Reduce_2 := ⟨_, _, Go.Proofs.Try.func39, rfl, by kernel_rfl, by kernel_rfl, by kernel_rfl, by kernel_rfl, by kernel_rfl⟩
theorem shows_slices_Compact_roles_Pair_roles_Pair : Shows Go.Proofs.Try.prog F_slices_Compact_roles_Pair_roles_Pair code_slices_Compact_roles_Pair_roles_Pair := ⟨_, _, Go.Proofs.Try.func42, rfl, by kernel_rfl, by kernel_rfl, by kernel_rfl, by kernel_rfl, by kernel_rfl⟩
theorem shows_slices_Index_string_string : Shows Go.Proofs.Try.prog F_slices_Index_string_string code_slices_Index_string_string := ⟨_, _, Go.Proofs.Try.func43, rfl, by kernel_rfl, by kernel_rfl, by kernel_rfl, by kernel_rfl, by kernel_rfl⟩
theorem shows_math_bits_Len : Shows Go.Proofs.Try.prog F_math_bits_Len code_math_bits_Len := ⟨_, _, Go.Proofs.Try.func45, rfl, by kernel_rfl, by kernel_rfl, by kernel_rfl, by kernel_rfl, by kernel_rfl⟩
theorem shows_slices_pdqsortOrdered_string : Shows Go.Proofs.Try.prog F_slices_pdqsortOrdered_string code_slices_pdqsortOrdered_string := ⟨_, _, Go.Proofs.Try.func44, rfl, by kernel_rfl, by kernel_rfl, by kernel_rfl, by kernel_rfl, by kernel_rfl⟩
theorem shows_slices_IndexFunc_roles_Pair_roles_Pair : Shows Go.Proofs.Try.prog F_slices_IndexFunc_roles_Pair_roles_Pair code_slices_IndexFunc_roles_Pair_roles_Pair := ⟨_, _, Go.Proofs.Try.func46, rfl, by kernel_rfl, by kernel_rfl, by kernel_rfl, by kernel_rfl, by kernel_rfl⟩
theorem shows_lex_Name : Shows Go.Proofs.Try.prog F_lex_Name code_lex_Name := ⟨_, _, Go.Proofs.Try.func27, rfl, by kernel_rfl, by kernel_rfl, by kernel_rfl, by kernel_rfl, by kernel_rfl⟩
theorem shows_roles_ring_1 : Shows Go.Proofs.Try.prog F_roles_ring_1 code_roles_ring_1 := ⟨_, _, Go.Proofs.Try.func49, rfl, by kernel_rfl, by kernel_rfl, by kernel_rfl, by kernel_rfl, by kernel_rfl⟩
theorem shows_ref06_head : Shows Go.Proofs.Try.prog F_ref06_head code_ref06_head := ⟨_, _, Go.Proofs.Try.func50, rfl, by kernel_rfl, by kernel_rfl, by kernel_rfl, by kernel_rfl, by kernel_rfl⟩
theorem shows_ref06_tail : Shows Go.Proofs.Try.prog F_ref06_tail code_ref06_tail := ⟨_, _, Go.Proofs.Try.func51, rfl, by kernel_rfl, by kernel_rfl, by kernel_rfl, by kernel_rfl, by kernel_rfl⟩
theorem shows_slices_Compact_string_string : Shows Go.Proofs.Try.prog F_slices_Compact_string_string code_slices_Compact_string_string := ⟨_, _, Go.Proofs.Try.func53, rfl, by kernel_rfl, by kernel_rfl, by kernel_rfl, by kernel_rfl, by kernel_rfl⟩
theorem shows_slices_IndexFunc_string_string : Shows Go.Proofs.Try.prog F_slices_IndexFunc_string_string code_slices_IndexFunc_string_string := ⟨_, _, Go.Proofs.Try.func52, rfl, by kernel_rfl, by kernel_rfl, by kernel_rfl, by kernel_rfl, by kernel_rfl⟩
theorem shows_roles_long : Shows Go.Proofs.Try.prog F_roles_long code_roles_long := ⟨_, _, Go.Proofs.Try.func37, rfl, by kernel_rfl, by kernel_rfl, by kernel_rfl, by kernel_rfl, by kernel_rfl⟩
theorem shows_slices_pdqsortCmpFunc_roles_Pair : Shows Go.Proofs.Try.prog F_slices_pdqsortCmpFunc_roles_Pair code_slices_pdqsortCmpFunc_roles_Pair := ⟨_, _, Go.Proofs.Try.func56, rfl, by kernel_rfl, by kernel_rfl, by kernel_rfl, by kernel_rfl, by kernel_rfl⟩
theorem shows_cmp_Compare_string : Shows Go.Proofs.Try.prog F_cmp_Compare_string code_cmp_Compare_string := ⟨_, _, Go.Proofs.Try.func41, rfl, by kernel_rfl, by kernel_rfl, by kernel_rfl, by kernel_rfl, by kernel_rfl⟩
theorem shows_cmp_Or_int : Shows Go.Proofs.Try.prog F_cmp_Or_int code_cmp_Or_int := ⟨_, _, Go.Proofs.Try.func40, rfl, by kernel_rfl, by kernel_rfl, by kernel_rfl, by kernel_rfl, by kernel_rfl⟩
theorem shows_math_bits_Len32 : Shows Go.Proofs.Try.prog F_math_bits_Len32 code_math_bits_Len32 := ⟨_, _, Go.Proofs.Try.func67, rfl, by kernel_rfl, by kernel_rfl, by kernel_rfl, by kernel_rfl, by kernel_rfl⟩
theorem shows_math_bits_Len64 : Shows Go.Proofs.Try.prog F_math_bits_Len64 code_math_bits_Len64 := ⟨_, _, Go.Proofs.Try.func68, rfl, by kernel_rfl, by kernel_rfl, by kernel_rfl, by kernel_rfl, by kernel_rfl⟩
theorem shows_slices_insertionSortOrdered_string : Shows Go.Proofs.Try.prog F_slices_insertionSortOrdered_string code_slices_insertionSortOrdered_string := ⟨_, _, Go.Proofs.Try.func58, rfl, by kernel_rfl, by kernel_rfl, by kernel_rfl, by kernel_rfl, by kernel_rfl⟩
theorem shows_slices_heapSortOrdered_string : Shows Go.Proofs.Try.prog F_slices_heapSortOrdered_string code_slices_heapSortOrdered_string := ⟨_, _, Go.Proofs.Try.func59, rfl, by kernel_rfl, by kernel_rfl, by kernel_rfl, by kernel_rfl, by kernel_rfl⟩
theorem shows_slices_breakPatternsOrdered_string : Shows Go.Proofs.Try.prog F_slices_breakPatternsOrdered_string code_slices_breakPatternsOrdered_string := ⟨_, _, Go.Proofs.Try.func60, rfl, by kernel_rfl, by kernel_rfl, by kernel_rfl, by kernel_rfl, by kernel_rfl⟩
theorem shows_slices_choosePivotOrdered_string : Shows Go.Proofs.Try.prog F_slices_choosePivotOrdered_string code_slices_choosePivotOrdered_string := ⟨_, _, Go.Proofs.Try.func61, rfl, by kernel_rfl, by kernel_rfl, by kernel_rfl, by kernel_rfl, by kernel_rfl⟩
theorem shows_slices_reverseRangeOrdered_string : Shows Go.Proofs.Try.prog F_slices_reverseRangeOrdered_string code_slices_reverseRangeOrdered_string := ⟨_, _, Go.Proofs.Try.func62, rfl, by kernel_rfl, by kernel_rfl, by kernel_rfl, by kernel_rfl, by kernel_rfl⟩
theorem shows_slices_partialInsertionSortOrdered_string : Shows Go.Proofs.Try.prog F_slices_partialInsertionSortOrdered_string code_slices_partialInsertionSortOrdered_string := ⟨_, _, Go.Proofs.Try.func63, rfl, by kernel_rfl, by kernel_rfl, by kernel_rfl, by kernel_rfl, by kernel_rfl⟩
theorem shows_cmp_Less_string : Shows Go.Proofs.Try.prog F_cmp_Less_string code_cmp_Less_string := ⟨_, _, Go.Proofs.Try.func64, rfl, by kernel_rfl, by kernel_rfl, by kernel_rfl, by kernel_rfl, by kernel_rfl⟩
theorem shows_slices_partitionEqualOrdered_string : Shows Go.Proofs.Try.prog F_slices_partitionEqualOrdered_string code_slices_partitionEqualOrdered_string := ⟨_, _, Go.Proofs.Try.func65, rfl, by kernel_rfl, by kernel_rfl, by kernel_rfl, by kernel_rfl, by kernel_rfl⟩
theorem shows_slices_partitionOrdered_string : Shows Go.Proofs.Try.prog F_slices_partitionOrdered_string code_slices_partitionOrdered_string := ⟨_, _, Go.Proofs.Try.func66, rfl, by kernel_rfl, by kernel_rfl, by kernel_rfl, by kernel_rfl, by kernel_rfl⟩
theorem shows_lex_letter : Shows Go.Proofs.Try.prog F_lex_letter code_lex_letter := ⟨_, _, Go.Proofs.Try.func47, rfl, by kernel_rfl, by kernel_rfl, by kernel_rfl, by kernel_rfl, by kernel_rfl⟩
theorem shows_lex_digit : Shows Go.Proofs.Try.prog F_lex_digit code_lex_digit := ⟨_, _, Go.Proofs.Try.func48, rfl, by kernel_rfl, by kernel_rfl, by kernel_rfl, by kernel_rfl, by kernel_rfl⟩
theorem shows_roles_long_1 : Shows Go.Proofs.Try.prog F_roles_long_1 code_roles_long_1 := ⟨_, _, Go.Proofs.Try.func55, rfl, by kernel_rfl, by kernel_rfl, by kernel_rfl, by kernel_rfl, by kernel_rfl⟩
theorem shows_slices_ContainsFunc_string_string : Shows Go.Proofs.Try.prog F_slices_ContainsFunc_string_string code_slices_ContainsFunc_string_string := ⟨_, _, Go.Proofs.Try.func54, rfl, by kernel_rfl, by kernel_rfl, by kernel_rfl, by kernel_rfl, by kernel_rfl⟩
theorem shows_slices_insertionSortCmpFunc_roles_Pair : Shows Go.Proofs.Try.prog F_slices_insertionSortCmpFunc_roles_Pair code_slices_insertionSortCmpFunc_roles_Pair := ⟨_, _, Go.Proofs.Try.func69, rfl, by kernel_rfl, by kernel_rfl, by kernel_rfl, by kernel_rfl, by kernel_rfl⟩
theorem shows_slices_heapSortCmpFunc_roles_Pair : Shows Go.Proofs.Try.prog F_slices_heapSortCmpFunc_roles_Pair code_slices_heapSortCmpFunc_roles_Pair := ⟨_, _, Go.Proofs.Try.func70, rfl, by kernel_rfl, by kernel_rfl, by kernel_rfl, by kernel_rfl, by kernel_rfl⟩
theorem shows_slices_breakPatternsCmpFunc_roles_Pair : Shows Go.Proofs.Try.prog F_slices_breakPatternsCmpFunc_roles_Pair code_slices_breakPatternsCmpFunc_roles_Pair := ⟨_, _, Go.Proofs.Try.func71, rfl, by kernel_rfl, by kernel_rfl, by kernel_rfl, by kernel_rfl, by kernel_rfl⟩
theorem shows_slices_choosePivotCmpFunc_roles_Pair : Shows Go.Proofs.Try.prog F_slices_choosePivotCmpFunc_roles_Pair code_slices_choosePivotCmpFunc_roles_Pair := ⟨_, _, Go.Proofs.Try.func72, rfl, by kernel_rfl, by kernel_rfl, by kernel_rfl, by kernel_rfl, by kernel_rfl⟩
theorem shows_slices_reverseRangeCmpFunc_roles_Pair : Shows Go.Proofs.Try.prog F_slices_reverseRangeCmpFunc_roles_Pair code_slices_reverseRangeCmpFunc_roles_Pair := ⟨_, _, Go.Proofs.Try.func73, rfl, by kernel_rfl, by kernel_rfl, by kernel_rfl, by kernel_rfl, by kernel_rfl⟩
theorem shows_slices_partialInsertionSortCmpFunc_roles_Pair : Shows Go.Proofs.Try.prog F_slices_partialInsertionSortCmpFunc_roles_Pair code_slices_partialInsertionSortCmpFunc_roles_Pair := ⟨_, _, Go.Proofs.Try.func74, rfl, by kernel_rfl, by kernel_rfl, by kernel_rfl, by kernel_rfl, by kernel_rfl⟩
theorem shows_slices_partitionEqualCmpFunc_roles_Pair : Shows Go.Proofs.Try.prog F_slices_partitionEqualCmpFunc_roles_Pair code_slices_partitionEqualCmpFunc_roles_Pair := ⟨_, _, Go.Proofs.Try.func75, rfl, by kernel_rfl, by kernel_rfl, by kernel_rfl, by kernel_rfl, by kernel_rfl⟩
theorem shows_slices_partitionCmpFunc_roles_Pair : Shows Go.Proofs.Try.prog F_slices_partitionCmpFunc_roles_Pair code_slices_partitionCmpFunc_roles_Pair := ⟨_, _, Go.Proofs.Try.func76, rfl, by kernel_rfl, by kernel_rfl, by kernel_rfl, by kernel_rfl, by kernel_rfl⟩
theorem shows_cmp_isNaN_string : Shows Go.Proofs.Try.prog F_cmp_isNaN_string code_cmp_isNaN_string := ⟨_, _, Go.Proofs.Try.func57, rfl, by kernel_rfl, by kernel_rfl, by kernel_rfl, by kernel_rfl, by kernel_rfl⟩
theorem shows_slices_siftDownOrdered_string : Shows Go.Proofs.Try.prog F_slices_siftDownOrdered_string code_slices_siftDownOrdered_string := ⟨_, _, Go.Proofs.Try.func77, rfl, by kernel_rfl, by kernel_rfl, by kernel_rfl, by kernel_rfl, by kernel_rfl⟩
theorem shows_slices_nextPowerOfTwo : Shows Go.Proofs.Try.prog F_slices_nextPowerOfTwo code_slices_nextPowerOfTwo := ⟨_, _, Go.Proofs.Try.func78, rfl, by kernel_rfl, by kernel_rfl, by kernel_rfl, by kernel_rfl, by kernel_rfl⟩
theorem shows_slices_xorshift_Next : Shows Go.Proofs.Try.prog F_slices_xorshift_Next code_slices_xorshift_Next := ⟨_, _, Go.Proofs.Try.func79, rfl, by kernel_rfl, by kernel_rfl, by kernel_rfl, by kernel_rfl, by kernel_rfl⟩
theorem shows_slices_medianAdjacentOrdered_string : Shows Go.Proofs.Try.prog F_slices_medianAdjacentOrdered_string code_slices_medianAdjacentOrdered_string := ⟨_, _, Go.Proofs.Try.func80, rfl, by kernel_rfl, by kernel_rfl, by kernel_rfl, by kernel_rfl, by kernel_rfl⟩
theorem shows_slices_medianOrdered_string : Shows Go.Proofs.Try.prog F_slices_medianOrdered_string code_slices_medianOrdered_string := ⟨_, _, Go.Proofs.Try.func81, rfl, by kernel_rfl, by kernel_rfl, by kernel_rfl, by kernel_rfl, by kernel_rfl⟩
theorem shows_slices_siftDownCmpFunc_roles_Pair : Shows Go.Proofs.Try.prog F_slices_siftDownCmpFunc_roles_Pair code_slices_siftDownCmpFunc_roles_Pair := ⟨_, _, Go.Proofs.Try.func82, rfl, by kernel_rfl, by kernel_rfl, by kernel_rfl, by kernel_rfl, by kernel_rfl⟩
theorem shows_slices_medianAdjacentCmpFunc_roles_Pair : Shows Go.Proofs.Try.prog F_slices_medianAdjacentCmpFunc_roles_Pair code_slices_medianAdjacentCmpFunc_roles_Pair := ⟨_, _, Go.Proofs.Try.func83, rfl, by kernel_rfl, by kernel_rfl, by kernel_rfl, by kernel_rfl, by kernel_rfl⟩
theorem shows_slices_medianCmpFunc_roles_Pair : Shows Go.Proofs.Try.prog F_slices_medianCmpFunc_roles_Pair code_slices_medianCmpFunc_roles_Pair := ⟨_, _, Go.Proofs.Try.func84, rfl, by kernel_rfl, by kernel_rfl, by kernel_rfl, by kernel_rfl, by kernel_rfl⟩
theorem shows_slices_order2Ordered_string : Shows Go.Proofs.Try.prog F_slices_order2Ordered_string code_slices_order2Ordered_string := ⟨_, _, Go.Proofs.Try.func85, rfl, by kernel_rfl, by kernel_rfl, by kernel_rfl, by kernel_rfl, by kernel_rfl⟩
theorem shows_slices_order2CmpFunc_roles_Pair : Shows Go.Proofs.Try.prog F_slices_order2CmpFunc_roles_Pair code_slices_order2CmpFunc_roles_Pair := ⟨_, _, Go.Proofs.Try.func86, rfl, by kernel_rfl, by kernel_rfl, by kernel_rfl, by kernel_rfl, by kernel_rfl⟩
theorem codeL_ok : TableOK Go.Proofs.Try.prog codeL := ⟨shows_law31_RolesReaches,
  ⟨shows_law31_RolesChecks,
  ⟨shows_law31_RolesLevels,
  ⟨shows_law31_RolesReduces,
  ⟨shows_law31_alive,
  ⟨shows_law31_few,
  ⟨shows_law31_reach,
  ⟨shows_roles_Reach,
  ⟨shows_plain_Rising,
  ⟨shows_plain_Texts,
  ⟨shows_roles_Has,
  ⟨shows_plain_In,
  ⟨shows_roles_Check,
  ⟨shows_law31_check,
  ⟨shows_roles_Tops,
  ⟨shows_law31_ring,
  ⟨shows_roles_Level,
  ⟨shows_roles_Reduce,
  ⟨shows_law31_without,
  ⟨shows_roles_ups,
  ⟨shows_slices_Contains_string_string,
  ⟨shows_slices_Sort_string_string,
  ⟨shows_slices_ContainsFunc_roles_Pair_roles_Pair,
  ⟨shows_roles_Check_1,
  ⟨shows_roles_ring,
  ⟨shows_ref06_Name,
  ⟨shows_roles_names,
  ⟨shows_roles_Tops_1,
  ⟨shows_slices_DeleteFunc_string_string,
  ⟨shows_roles_level,
  ⟨shows_slices_Clone_roles_Pair_roles_Pair,
  ⟨shows_roles_Reduce_1,
  ⟨shows_slices_DeleteFunc_roles_Pair_roles_Pair,
  ⟨shows_slices_SortFunc_roles_Pair_roles_Pair,
  ⟨shows_roles_Reduce_2,
  ⟨shows_slices_Compact_roles_Pair_roles_Pair,
  ⟨shows_slices_Index_string_string,
  ⟨shows_math_bits_Len,
  ⟨shows_slices_pdqsortOrdered_string,
  ⟨shows_slices_IndexFunc_roles_Pair_roles_Pair,
  ⟨shows_lex_Name,
  ⟨shows_roles_ring_1,
  ⟨shows_ref06_head,
  ⟨shows_ref06_tail,
  ⟨shows_slices_Compact_string_string,
  ⟨shows_slices_IndexFunc_string_string,
  ⟨shows_roles_long,
  ⟨shows_slices_pdqsortCmpFunc_roles_Pair,
  ⟨shows_cmp_Compare_string,
  ⟨shows_cmp_Or_int,
  ⟨shows_math_bits_Len32,
  ⟨shows_math_bits_Len64,
  ⟨shows_slices_insertionSortOrdered_string,
  ⟨shows_slices_heapSortOrdered_string,
  ⟨shows_slices_breakPatternsOrdered_string,
  ⟨shows_slices_choosePivotOrdered_string,
  ⟨shows_slices_reverseRangeOrdered_string,
  ⟨shows_slices_partialInsertionSortOrdered_string,
  ⟨shows_cmp_Less_string,
  ⟨shows_slices_partitionEqualOrdered_string,
  ⟨shows_slices_partitionOrdered_string,
  ⟨shows_lex_letter,
  ⟨shows_lex_digit,
  ⟨shows_roles_long_1,
  ⟨shows_slices_ContainsFunc_string_string,
  ⟨shows_slices_insertionSortCmpFunc_roles_Pair,
  ⟨shows_slices_heapSortCmpFunc_roles_Pair,
  ⟨shows_slices_breakPatternsCmpFunc_roles_Pair,
  ⟨shows_slices_choosePivotCmpFunc_roles_Pair,
  ⟨shows_slices_reverseRangeCmpFunc_roles_Pair,
  ⟨shows_slices_partialInsertionSortCmpFunc_roles_Pair,
  ⟨shows_slices_partitionEqualCmpFunc_roles_Pair,
  ⟨shows_slices_partitionCmpFunc_roles_Pair,
  ⟨shows_cmp_isNaN_string,
  ⟨shows_slices_siftDownOrdered_string,
  ⟨shows_slices_nextPowerOfTwo,
  ⟨shows_slices_xorshift_Next,
  ⟨shows_slices_medianAdjacentOrdered_string,
  ⟨shows_slices_medianOrdered_string,
  ⟨shows_slices_siftDownCmpFunc_roles_Pair,
  ⟨shows_slices_medianAdjacentCmpFunc_roles_Pair,
  ⟨shows_slices_medianCmpFunc_roles_Pair,
  ⟨shows_slices_order2Ordered_string,
  ⟨shows_slices_order2CmpFunc_roles_Pair,
  trivial⟩⟩⟩⟩⟩⟩⟩⟩⟩⟩⟩⟩⟩⟩⟩⟩⟩⟩⟩⟩⟩⟩⟩⟩⟩⟩⟩⟩⟩⟩⟩⟩⟩⟩⟩⟩⟩⟩⟩⟩⟩⟩⟩⟩⟩⟩⟩⟩⟩⟩⟩⟩⟩⟩⟩⟩⟩⟩⟩⟩⟩⟩⟩⟩⟩⟩⟩⟩⟩⟩⟩⟩⟩⟩⟩⟩⟩⟩⟩⟩⟩⟩⟩⟩
theorem code_ok (f : Nat) (fn : AFunc) (h : code f = some fn) : Shows Go.Proofs.Try.prog f fn := tableAt_ok codeL_ok h
end Bz.S
