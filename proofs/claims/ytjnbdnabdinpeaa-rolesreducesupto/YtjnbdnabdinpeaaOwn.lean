/- Which functions are handed slices of the caller's own, and which hand out their own. -/
import Derived.Test.YtjnbdnabdinpeaaBz3
import Derived.Test.YtjnbdnabdinpeaaCode1
set_option linter.unusedSimpArgs false
set_option linter.unusedVariables false
namespace Bz.S
open Go Bz
def own : Nat → Bool := fun f => [F_slices_Sort_string_string, F_slices_Compact_string_string, F_slices_DeleteFunc_string_string, F_slices_IndexFunc_string_string, F_slices_SortFunc_roles_Pair_roles_Pair, F_slices_DeleteFunc_roles_Pair_roles_Pair, F_slices_IndexFunc_roles_Pair_roles_Pair, F_slices_Compact_roles_Pair_roles_Pair].contains f
def retOwn : Nat → Bool := fun f => [F_slices_Compact_string_string, F_roles_names, F_slices_Clone_roles_Pair_roles_Pair, F_slices_DeleteFunc_roles_Pair_roles_Pair, F_slices_Compact_roles_Pair_roles_Pair, F_slices_DeleteFunc_string_string].contains f
def F_internal_bytealg_IndexByteString : Nat := 999999999
def ext : Callee := extOr (extSort F_slices_Sort_string_string) (extOr (extSortF F_slices_SortFunc_roles_Pair_roles_Pair F_roles_Reduce_2 2 decTT encTT cfTT) (extNone))
def extL : List Nat := [F_slices_Sort_string_string, F_slices_SortFunc_roles_Pair_roles_Pair]
theorem ext_none {f : Nat} {args : List AV} {H : Heap} (hf : extL.contains f = false) : ext f args H = none := by
  simp only [extL, List.contains_cons, List.contains_nil, Bool.or_eq_false_iff, beq_eq_false_iff_ne, ne_eq] at hf
  obtain ⟨h0, h1, _⟩ := hf
  exact extOr_none (extSort_none h0) (extOr_none (extSortF_none h1) (rfl))
theorem ext_slices_Sort_string_string {args : List AV} {H : Heap} {r : AV × Heap} (h : (extSort F_slices_Sort_string_string) F_slices_Sort_string_string args H = some r) : ext F_slices_Sort_string_string args H = some r := extOr_l h
theorem ext_slices_SortFunc_roles_Pair_roles_Pair {args : List AV} {H : Heap} {r : AV × Heap} (h : (extSortF F_slices_SortFunc_roles_Pair_roles_Pair F_roles_Reduce_2 2 decTT encTT cfTT) F_slices_SortFunc_roles_Pair_roles_Pair args H = some r) : ext F_slices_SortFunc_roles_Pair_roles_Pair args H = some r := extOr_r (extSort_none (by decide)) (extOr_l h)
@[simp] theorem own_law31_RolesReaches : own F_law31_RolesReaches = false := rfl
@[simp] theorem retOwn_law31_RolesReaches : retOwn F_law31_RolesReaches = false := rfl
@[simp] theorem own_law31_RolesChecks : own F_law31_RolesChecks = false := rfl
@[simp] theorem retOwn_law31_RolesChecks : retOwn F_law31_RolesChecks = false := rfl
@[simp] theorem own_law31_RolesLevels : own F_law31_RolesLevels = false := rfl
@[simp] theorem retOwn_law31_RolesLevels : retOwn F_law31_RolesLevels = false := rfl
@[simp] theorem own_law31_RolesReduces : own F_law31_RolesReduces = false := rfl
@[simp] theorem retOwn_law31_RolesReduces : retOwn F_law31_RolesReduces = false := rfl
@[simp] theorem own_law31_alive : own F_law31_alive = false := rfl
@[simp] theorem retOwn_law31_alive : retOwn F_law31_alive = false := rfl
@[simp] theorem own_law31_few : own F_law31_few = false := rfl
@[simp] theorem retOwn_law31_few : retOwn F_law31_few = false := rfl
@[simp] theorem own_law31_reach : own F_law31_reach = false := rfl
@[simp] theorem retOwn_law31_reach : retOwn F_law31_reach = false := rfl
@[simp] theorem own_roles_Reach : own F_roles_Reach = false := rfl
@[simp] theorem retOwn_roles_Reach : retOwn F_roles_Reach = false := rfl
@[simp] theorem own_plain_Rising : own F_plain_Rising = false := rfl
@[simp] theorem retOwn_plain_Rising : retOwn F_plain_Rising = false := rfl
@[simp] theorem own_plain_Texts : own F_plain_Texts = false := rfl
@[simp] theorem retOwn_plain_Texts : retOwn F_plain_Texts = false := rfl
@[simp] theorem own_roles_Has : own F_roles_Has = false := rfl
@[simp] theorem retOwn_roles_Has : retOwn F_roles_Has = false := rfl
@[simp] theorem own_plain_In : own F_plain_In = false := rfl
@[simp] theorem retOwn_plain_In : retOwn F_plain_In = false := rfl
@[simp] theorem own_roles_Check : own F_roles_Check = false := rfl
@[simp] theorem retOwn_roles_Check : retOwn F_roles_Check = false := rfl
@[simp] theorem own_law31_check : own F_law31_check = false := rfl
@[simp] theorem retOwn_law31_check : retOwn F_law31_check = false := rfl
@[simp] theorem own_roles_Tops : own F_roles_Tops = false := rfl
@[simp] theorem retOwn_roles_Tops : retOwn F_roles_Tops = false := rfl
@[simp] theorem own_law31_ring : own F_law31_ring = false := rfl
@[simp] theorem retOwn_law31_ring : retOwn F_law31_ring = false := rfl
@[simp] theorem own_roles_Level : own F_roles_Level = false := rfl
@[simp] theorem retOwn_roles_Level : retOwn F_roles_Level = false := rfl
@[simp] theorem own_roles_Reduce : own F_roles_Reduce = false := rfl
@[simp] theorem retOwn_roles_Reduce : retOwn F_roles_Reduce = false := rfl
@[simp] theorem own_law31_without : own F_law31_without = false := rfl
@[simp] theorem retOwn_law31_without : retOwn F_law31_without = false := rfl
@[simp] theorem own_roles_ups : own F_roles_ups = false := rfl
@[simp] theorem retOwn_roles_ups : retOwn F_roles_ups = false := rfl
@[simp] theorem own_slices_Contains_string_string : own F_slices_Contains_string_string = false := rfl
@[simp] theorem retOwn_slices_Contains_string_string : retOwn F_slices_Contains_string_string = false := rfl
@[simp] theorem own_slices_Sort_string_string : own F_slices_Sort_string_string = true := rfl
@[simp] theorem retOwn_slices_Sort_string_string : retOwn F_slices_Sort_string_string = false := rfl
@[simp] theorem own_slices_ContainsFunc_roles_Pair_roles_Pair : own F_slices_ContainsFunc_roles_Pair_roles_Pair = false := rfl
@[simp] theorem retOwn_slices_ContainsFunc_roles_Pair_roles_Pair : retOwn F_slices_ContainsFunc_roles_Pair_roles_Pair = false := rfl
@[simp] theorem own_roles_Check_1 : own F_roles_Check_1 = false := rfl
@[simp] theorem retOwn_roles_Check_1 : retOwn F_roles_Check_1 = false := rfl
@[simp] theorem own_roles_ring : own F_roles_ring = false := rfl
@[simp] theorem retOwn_roles_ring : retOwn F_roles_ring = false := rfl
@[simp] theorem own_ref06_Name : own F_ref06_Name = false := rfl
@[simp] theorem retOwn_ref06_Name : retOwn F_ref06_Name = false := rfl
@[simp] theorem own_roles_names : own F_roles_names = false := rfl
@[simp] theorem retOwn_roles_names : retOwn F_roles_names = true := rfl
@[simp] theorem own_roles_Tops_1 : own F_roles_Tops_1 = false := rfl
@[simp] theorem retOwn_roles_Tops_1 : retOwn F_roles_Tops_1 = false := rfl
@[simp] theorem own_slices_DeleteFunc_string_string : own F_slices_DeleteFunc_string_string = true := rfl
@[simp] theorem retOwn_slices_DeleteFunc_string_string : retOwn F_slices_DeleteFunc_string_string = true := rfl
@[simp] theorem own_roles_level : own F_roles_level = false := rfl
@[simp] theorem retOwn_roles_level : retOwn F_roles_level = false := rfl
@[simp] theorem own_slices_Clone_roles_Pair_roles_Pair : own F_slices_Clone_roles_Pair_roles_Pair = false := rfl
@[simp] theorem retOwn_slices_Clone_roles_Pair_roles_Pair : retOwn F_slices_Clone_roles_Pair_roles_Pair = true := rfl
@[simp] theorem own_roles_Reduce_1 : own F_roles_Reduce_1 = false := rfl
@[simp] theorem retOwn_roles_Reduce_1 : retOwn F_roles_Reduce_1 = false := rfl
@[simp] theorem own_slices_DeleteFunc_roles_Pair_roles_Pair : own F_slices_DeleteFunc_roles_Pair_roles_Pair = true := rfl
@[simp] theorem retOwn_slices_DeleteFunc_roles_Pair_roles_Pair : retOwn F_slices_DeleteFunc_roles_Pair_roles_Pair = true := rfl
@[simp] theorem own_slices_SortFunc_roles_Pair_roles_Pair : own F_slices_SortFunc_roles_Pair_roles_Pair = true := rfl
@[simp] theorem retOwn_slices_SortFunc_roles_Pair_roles_Pair : retOwn F_slices_SortFunc_roles_Pair_roles_Pair = false := rfl
@[simp] theorem own_roles_Reduce_2 : own F_roles_Reduce_2 = false := rfl
@[simp] theorem retOwn_roles_Reduce_2 : retOwn F_roles_Reduce_2 = false := rfl
@[simp] theorem own_slices_Compact_roles_Pair_roles_Pair : own F_slices_Compact_roles_Pair_roles_Pair = true := rfl
@[simp] theorem retOwn_slices_Compact_roles_Pair_roles_Pair : retOwn F_slices_Compact_roles_Pair_roles_Pair = true := rfl
@[simp] theorem own_slices_Index_string_string : own F_slices_Index_string_string = false := rfl
@[simp] theorem retOwn_slices_Index_string_string : retOwn F_slices_Index_string_string = false := rfl
@[simp] theorem own_math_bits_Len : own F_math_bits_Len = false := rfl
@[simp] theorem retOwn_math_bits_Len : retOwn F_math_bits_Len = false := rfl
@[simp] theorem own_slices_pdqsortOrdered_string : own F_slices_pdqsortOrdered_string = false := rfl
@[simp] theorem retOwn_slices_pdqsortOrdered_string : retOwn F_slices_pdqsortOrdered_string = false := rfl
@[simp] theorem own_slices_IndexFunc_roles_Pair_roles_Pair : own F_slices_IndexFunc_roles_Pair_roles_Pair = true := rfl
@[simp] theorem retOwn_slices_IndexFunc_roles_Pair_roles_Pair : retOwn F_slices_IndexFunc_roles_Pair_roles_Pair = false := rfl
@[simp] theorem own_lex_Name : own F_lex_Name = false := rfl
@[simp] theorem retOwn_lex_Name : retOwn F_lex_Name = false := rfl
@[simp] theorem own_roles_ring_1 : own F_roles_ring_1 = false := rfl
@[simp] theorem retOwn_roles_ring_1 : retOwn F_roles_ring_1 = false := rfl
@[simp] theorem own_ref06_head : own F_ref06_head = false := rfl
@[simp] theorem retOwn_ref06_head : retOwn F_ref06_head = false := rfl
@[simp] theorem own_ref06_tail : own F_ref06_tail = false := rfl
@[simp] theorem retOwn_ref06_tail : retOwn F_ref06_tail = false := rfl
@[simp] theorem own_slices_Compact_string_string : own F_slices_Compact_string_string = true := rfl
@[simp] theorem retOwn_slices_Compact_string_string : retOwn F_slices_Compact_string_string = true := rfl
@[simp] theorem own_slices_IndexFunc_string_string : own F_slices_IndexFunc_string_string = true := rfl
@[simp] theorem retOwn_slices_IndexFunc_string_string : retOwn F_slices_IndexFunc_string_string = false := rfl
@[simp] theorem own_roles_long : own F_roles_long = false := rfl
@[simp] theorem retOwn_roles_long : retOwn F_roles_long = false := rfl
@[simp] theorem own_slices_pdqsortCmpFunc_roles_Pair : own F_slices_pdqsortCmpFunc_roles_Pair = false := rfl
@[simp] theorem retOwn_slices_pdqsortCmpFunc_roles_Pair : retOwn F_slices_pdqsortCmpFunc_roles_Pair = false := rfl
@[simp] theorem own_cmp_Compare_string : own F_cmp_Compare_string = false := rfl
@[simp] theorem retOwn_cmp_Compare_string : retOwn F_cmp_Compare_string = false := rfl
@[simp] theorem own_cmp_Or_int : own F_cmp_Or_int = false := rfl
@[simp] theorem retOwn_cmp_Or_int : retOwn F_cmp_Or_int = false := rfl
@[simp] theorem own_math_bits_Len32 : own F_math_bits_Len32 = false := rfl
@[simp] theorem retOwn_math_bits_Len32 : retOwn F_math_bits_Len32 = false := rfl
@[simp] theorem own_math_bits_Len64 : own F_math_bits_Len64 = false := rfl
@[simp] theorem retOwn_math_bits_Len64 : retOwn F_math_bits_Len64 = false := rfl
@[simp] theorem own_slices_insertionSortOrdered_string : own F_slices_insertionSortOrdered_string = false := rfl
@[simp] theorem retOwn_slices_insertionSortOrdered_string : retOwn F_slices_insertionSortOrdered_string = false := rfl
@[simp] theorem own_slices_heapSortOrdered_string : own F_slices_heapSortOrdered_string = false := rfl
@[simp] theorem retOwn_slices_heapSortOrdered_string : retOwn F_slices_heapSortOrdered_string = false := rfl
@[simp] theorem own_slices_breakPatternsOrdered_string : own F_slices_breakPatternsOrdered_string = false := rfl
@[simp] theorem retOwn_slices_breakPatternsOrdered_string : retOwn F_slices_breakPatternsOrdered_string = false := rfl
@[simp] theorem own_slices_choosePivotOrdered_string : own F_slices_choosePivotOrdered_string = false := rfl
@[simp] theorem retOwn_slices_choosePivotOrdered_string : retOwn F_slices_choosePivotOrdered_string = false := rfl
@[simp] theorem own_slices_reverseRangeOrdered_string : own F_slices_reverseRangeOrdered_string = false := rfl
@[simp] theorem retOwn_slices_reverseRangeOrdered_string : retOwn F_slices_reverseRangeOrdered_string = false := rfl
@[simp] theorem own_slices_partialInsertionSortOrdered_string : own F_slices_partialInsertionSortOrdered_string = false := rfl
@[simp] theorem retOwn_slices_partialInsertionSortOrdered_string : retOwn F_slices_partialInsertionSortOrdered_string = false := rfl
@[simp] theorem own_cmp_Less_string : own F_cmp_Less_string = false := rfl
@[simp] theorem retOwn_cmp_Less_string : retOwn F_cmp_Less_string = false := rfl
@[simp] theorem own_slices_partitionEqualOrdered_string : own F_slices_partitionEqualOrdered_string = false := rfl
@[simp] theorem retOwn_slices_partitionEqualOrdered_string : retOwn F_slices_partitionEqualOrdered_string = false := rfl
@[simp] theorem own_slices_partitionOrdered_string : own F_slices_partitionOrdered_string = false := rfl
@[simp] theorem retOwn_slices_partitionOrdered_string : retOwn F_slices_partitionOrdered_string = false := rfl
@[simp] theorem own_lex_letter : own F_lex_letter = false := rfl
@[simp] theorem retOwn_lex_letter : retOwn F_lex_letter = false := rfl
@[simp] theorem own_lex_digit : own F_lex_digit = false := rfl
@[simp] theorem retOwn_lex_digit : retOwn F_lex_digit = false := rfl
@[simp] theorem own_roles_long_1 : own F_roles_long_1 = false := rfl
@[simp] theorem retOwn_roles_long_1 : retOwn F_roles_long_1 = false := rfl
@[simp] theorem own_slices_ContainsFunc_string_string : own F_slices_ContainsFunc_string_string = false := rfl
@[simp] theorem retOwn_slices_ContainsFunc_string_string : retOwn F_slices_ContainsFunc_string_string = false := rfl
@[simp] theorem own_slices_insertionSortCmpFunc_roles_Pair : own F_slices_insertionSortCmpFunc_roles_Pair = false := rfl
@[simp] theorem retOwn_slices_insertionSortCmpFunc_roles_Pair : retOwn F_slices_insertionSortCmpFunc_roles_Pair = false := rfl
@[simp] theorem own_slices_heapSortCmpFunc_roles_Pair : own F_slices_heapSortCmpFunc_roles_Pair = false := rfl
@[simp] theorem retOwn_slices_heapSortCmpFunc_roles_Pair : retOwn F_slices_heapSortCmpFunc_roles_Pair = false := rfl
@[simp] theorem own_slices_breakPatternsCmpFunc_roles_Pair : own F_slices_breakPatternsCmpFunc_roles_Pair = false := rfl
@[simp] theorem retOwn_slices_breakPatternsCmpFunc_roles_Pair : retOwn F_slices_breakPatternsCmpFunc_roles_Pair = false := rfl
@[simp] theorem own_slices_choosePivotCmpFunc_roles_Pair : own F_slices_choosePivotCmpFunc_roles_Pair = false := rfl
@[simp] theorem retOwn_slices_choosePivotCmpFunc_roles_Pair : retOwn F_slices_choosePivotCmpFunc_roles_Pair = false := rfl
@[simp] theorem own_slices_reverseRangeCmpFunc_roles_Pair : own F_slices_reverseRangeCmpFunc_roles_Pair = false := rfl
@[simp] theorem retOwn_slices_reverseRangeCmpFunc_roles_Pair : retOwn F_slices_reverseRangeCmpFunc_roles_Pair = false := rfl
@[simp] theorem own_slices_partialInsertionSortCmpFunc_roles_Pair : own F_slices_partialInsertionSortCmpFunc_roles_Pair = false := rfl
@[simp] theorem retOwn_slices_partialInsertionSortCmpFunc_roles_Pair : retOwn F_slices_partialInsertionSortCmpFunc_roles_Pair = false := rfl
@[simp] theorem own_slices_partitionEqualCmpFunc_roles_Pair : own F_slices_partitionEqualCmpFunc_roles_Pair = false := rfl
@[simp] theorem retOwn_slices_partitionEqualCmpFunc_roles_Pair : retOwn F_slices_partitionEqualCmpFunc_roles_Pair = false := rfl
@[simp] theorem own_slices_partitionCmpFunc_roles_Pair : own F_slices_partitionCmpFunc_roles_Pair = false := rfl
@[simp] theorem retOwn_slices_partitionCmpFunc_roles_Pair : retOwn F_slices_partitionCmpFunc_roles_Pair = false := rfl
@[simp] theorem own_cmp_isNaN_string : own F_cmp_isNaN_string = false := rfl
@[simp] theorem retOwn_cmp_isNaN_string : retOwn F_cmp_isNaN_string = false := rfl
@[simp] theorem own_slices_siftDownOrdered_string : own F_slices_siftDownOrdered_string = false := rfl
@[simp] theorem retOwn_slices_siftDownOrdered_string : retOwn F_slices_siftDownOrdered_string = false := rfl
@[simp] theorem own_slices_nextPowerOfTwo : own F_slices_nextPowerOfTwo = false := rfl
@[simp] theorem retOwn_slices_nextPowerOfTwo : retOwn F_slices_nextPowerOfTwo = false := rfl
@[simp] theorem own_slices_xorshift_Next : own F_slices_xorshift_Next = false := rfl
@[simp] theorem retOwn_slices_xorshift_Next : retOwn F_slices_xorshift_Next = false := rfl
@[simp] theorem own_slices_medianAdjacentOrdered_string : own F_slices_medianAdjacentOrdered_string = false := rfl
@[simp] theorem retOwn_slices_medianAdjacentOrdered_string : retOwn F_slices_medianAdjacentOrdered_string = false := rfl
@[simp] theorem own_slices_medianOrdered_string : own F_slices_medianOrdered_string = false := rfl
@[simp] theorem retOwn_slices_medianOrdered_string : retOwn F_slices_medianOrdered_string = false := rfl
@[simp] theorem own_slices_siftDownCmpFunc_roles_Pair : own F_slices_siftDownCmpFunc_roles_Pair = false := rfl
@[simp] theorem retOwn_slices_siftDownCmpFunc_roles_Pair : retOwn F_slices_siftDownCmpFunc_roles_Pair = false := rfl
@[simp] theorem own_slices_medianAdjacentCmpFunc_roles_Pair : own F_slices_medianAdjacentCmpFunc_roles_Pair = false := rfl
@[simp] theorem retOwn_slices_medianAdjacentCmpFunc_roles_Pair : retOwn F_slices_medianAdjacentCmpFunc_roles_Pair = false := rfl
@[simp] theorem own_slices_medianCmpFunc_roles_Pair : own F_slices_medianCmpFunc_roles_Pair = false := rfl
@[simp] theorem retOwn_slices_medianCmpFunc_roles_Pair : retOwn F_slices_medianCmpFunc_roles_Pair = false := rfl
@[simp] theorem own_slices_order2Ordered_string : own F_slices_order2Ordered_string = false := rfl
@[simp] theorem retOwn_slices_order2Ordered_string : retOwn F_slices_order2Ordered_string = false := rfl
@[simp] theorem own_slices_order2CmpFunc_roles_Pair : own F_slices_order2CmpFunc_roles_Pair = false := rfl
@[simp] theorem retOwn_slices_order2CmpFunc_roles_Pair : retOwn F_slices_order2CmpFunc_roles_Pair = false := rfl
end Bz.S
