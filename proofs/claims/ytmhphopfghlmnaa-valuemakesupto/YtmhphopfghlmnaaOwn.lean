/- Which functions are handed slices of the caller's own, and which hand out their own. -/
import Derived.Test.YtmhphopfghlmnaaBz3
import Derived.Test.YtmhphopfghlmnaaCode0
set_option linter.unusedSimpArgs false
set_option linter.unusedVariables false
namespace Bz.S
open Go Bz
def own : Nat → Bool := fun f => [F_slices_Sort_string_string, F_slices_Compact_string_string].contains f
def retOwn : Nat → Bool := fun f => [F_slices_Clone_string_string, F_slices_Compact_string_string].contains f
def F_internal_bytealg_IndexByteString : Nat := 999999999
def ext : Callee := extOr (extSort F_slices_Sort_string_string) (extNone)
def extL : List Nat := [F_slices_Sort_string_string]
theorem ext_none {f : Nat} {args : List AV} {H : Heap} (hf : extL.contains f = false) : ext f args H = none := by
  simp only [extL, List.contains_cons, List.contains_nil, Bool.or_eq_false_iff, beq_eq_false_iff_ne, ne_eq] at hf
  obtain ⟨h0, _⟩ := hf
  exact extOr_none (extSort_none h0) (rfl)
theorem ext_slices_Sort_string_string {args : List AV} {H : Heap} {r : AV × Heap} (h : extSort F_slices_Sort_string_string F_slices_Sort_string_string args H = some r) : ext F_slices_Sort_string_string args H = some r := extOr_l h
@[simp] theorem own_law02_ValueOrders : own F_law02_ValueOrders = false := rfl
@[simp] theorem retOwn_law02_ValueOrders : retOwn F_law02_ValueOrders = false := rfl
@[simp] theorem own_law02_ValueCompares : own F_law02_ValueCompares = false := rfl
@[simp] theorem retOwn_law02_ValueCompares : retOwn F_law02_ValueCompares = false := rfl
@[simp] theorem own_law02_ValueSets : own F_law02_ValueSets = false := rfl
@[simp] theorem retOwn_law02_ValueSets : retOwn F_law02_ValueSets = false := rfl
@[simp] theorem own_law02_ValueMakes : own F_law02_ValueMakes = false := rfl
@[simp] theorem retOwn_law02_ValueMakes : retOwn F_law02_ValueMakes = false := rfl
@[simp] theorem own_law02_alive : own F_law02_alive = false := rfl
@[simp] theorem retOwn_law02_alive : retOwn F_law02_alive = false := rfl
@[simp] theorem own_value_Cmp : own F_value_Cmp = false := rfl
@[simp] theorem retOwn_value_Cmp : retOwn F_value_Cmp = false := rfl
@[simp] theorem own_value_Same : own F_value_Same = false := rfl
@[simp] theorem retOwn_value_Same : retOwn F_value_Same = false := rfl
@[simp] theorem own_ref02_Cmp : own F_ref02_Cmp = false := rfl
@[simp] theorem retOwn_ref02_Cmp : retOwn F_ref02_Cmp = false := rfl
@[simp] theorem own_plain_Value : own F_plain_Value = false := rfl
@[simp] theorem retOwn_plain_Value : retOwn F_plain_Value = false := rfl
@[simp] theorem own_value_Has : own F_value_Has = false := rfl
@[simp] theorem retOwn_value_Has : retOwn F_value_Has = false := rfl
@[simp] theorem own_ref02_Has : own F_ref02_Has = false := rfl
@[simp] theorem retOwn_ref02_Has : retOwn F_ref02_Has = false := rfl
@[simp] theorem own_value_Size : own F_value_Size = false := rfl
@[simp] theorem retOwn_value_Size : retOwn F_value_Size = false := rfl
@[simp] theorem own_ref02_Size : own F_ref02_Size = false := rfl
@[simp] theorem retOwn_ref02_Size : retOwn F_ref02_Size = false := rfl
@[simp] theorem own_value_Set : own F_value_Set = false := rfl
@[simp] theorem retOwn_value_Set : retOwn F_value_Set = false := rfl
@[simp] theorem own_plain_In : own F_plain_In = false := rfl
@[simp] theorem retOwn_plain_In : retOwn F_plain_In = false := rfl
@[simp] theorem own_value_Int : own F_value_Int = false := rfl
@[simp] theorem retOwn_value_Int : retOwn F_value_Int = false := rfl
@[simp] theorem own_value_Bool : own F_value_Bool = false := rfl
@[simp] theorem retOwn_value_Bool : retOwn F_value_Bool = false := rfl
@[simp] theorem own_value_Text : own F_value_Text = false := rfl
@[simp] theorem retOwn_value_Text : retOwn F_value_Text = false := rfl
@[simp] theorem own_value_Zero : own F_value_Zero = false := rfl
@[simp] theorem retOwn_value_Zero : retOwn F_value_Zero = false := rfl
@[simp] theorem own_ref02_Int : own F_ref02_Int = false := rfl
@[simp] theorem retOwn_ref02_Int : retOwn F_ref02_Int = false := rfl
@[simp] theorem own_ref02_Bool : own F_ref02_Bool = false := rfl
@[simp] theorem retOwn_ref02_Bool : retOwn F_ref02_Bool = false := rfl
@[simp] theorem own_plain_Rising : own F_plain_Rising = false := rfl
@[simp] theorem retOwn_plain_Rising : retOwn F_plain_Rising = false := rfl
@[simp] theorem own_value_Check : own F_value_Check = false := rfl
@[simp] theorem retOwn_value_Check : retOwn F_value_Check = false := rfl
@[simp] theorem own_plain_Texts : own F_plain_Texts = false := rfl
@[simp] theorem retOwn_plain_Texts : retOwn F_plain_Texts = false := rfl
@[simp] theorem own_cmp_Compare_int : own F_cmp_Compare_int = false := rfl
@[simp] theorem retOwn_cmp_Compare_int : retOwn F_cmp_Compare_int = false := rfl
@[simp] theorem own_cmp_Compare_int64 : own F_cmp_Compare_int64 = false := rfl
@[simp] theorem retOwn_cmp_Compare_int64 : retOwn F_cmp_Compare_int64 = false := rfl
@[simp] theorem own_cmp_Compare_string : own F_cmp_Compare_string = false := rfl
@[simp] theorem retOwn_cmp_Compare_string : retOwn F_cmp_Compare_string = false := rfl
@[simp] theorem own_slices_Compare_string_string : own F_slices_Compare_string_string = false := rfl
@[simp] theorem retOwn_slices_Compare_string_string : retOwn F_slices_Compare_string_string = false := rfl
@[simp] theorem own_cmp_Or_int : own F_cmp_Or_int = false := rfl
@[simp] theorem retOwn_cmp_Or_int : retOwn F_cmp_Or_int = false := rfl
@[simp] theorem own_ref02_side : own F_ref02_side = false := rfl
@[simp] theorem retOwn_ref02_side : retOwn F_ref02_side = false := rfl
@[simp] theorem own_slices_Contains_string_string : own F_slices_Contains_string_string = false := rfl
@[simp] theorem retOwn_slices_Contains_string_string : retOwn F_slices_Contains_string_string = false := rfl
@[simp] theorem own_slices_Clone_string_string : own F_slices_Clone_string_string = false := rfl
@[simp] theorem retOwn_slices_Clone_string_string : retOwn F_slices_Clone_string_string = true := rfl
@[simp] theorem own_slices_Sort_string_string : own F_slices_Sort_string_string = true := rfl
@[simp] theorem retOwn_slices_Sort_string_string : retOwn F_slices_Sort_string_string = false := rfl
@[simp] theorem own_slices_Compact_string_string : own F_slices_Compact_string_string = true := rfl
@[simp] theorem retOwn_slices_Compact_string_string : retOwn F_slices_Compact_string_string = true := rfl
@[simp] theorem own_value_long : own F_value_long = false := rfl
@[simp] theorem retOwn_value_long : retOwn F_value_long = false := rfl
@[simp] theorem own_slices_ContainsFunc_string_string : own F_slices_ContainsFunc_string_string = false := rfl
@[simp] theorem retOwn_slices_ContainsFunc_string_string : retOwn F_slices_ContainsFunc_string_string = false := rfl
@[simp] theorem own_value_odd : own F_value_odd = false := rfl
@[simp] theorem retOwn_value_odd : retOwn F_value_odd = false := rfl
@[simp] theorem own_cmp_isNaN_int : own F_cmp_isNaN_int = false := rfl
@[simp] theorem retOwn_cmp_isNaN_int : retOwn F_cmp_isNaN_int = false := rfl
@[simp] theorem own_cmp_isNaN_int64 : own F_cmp_isNaN_int64 = false := rfl
@[simp] theorem retOwn_cmp_isNaN_int64 : retOwn F_cmp_isNaN_int64 = false := rfl
@[simp] theorem own_cmp_isNaN_string : own F_cmp_isNaN_string = false := rfl
@[simp] theorem retOwn_cmp_isNaN_string : retOwn F_cmp_isNaN_string = false := rfl
@[simp] theorem own_slices_Index_string_string : own F_slices_Index_string_string = false := rfl
@[simp] theorem retOwn_slices_Index_string_string : retOwn F_slices_Index_string_string = false := rfl
@[simp] theorem own_math_bits_Len : own F_math_bits_Len = false := rfl
@[simp] theorem retOwn_math_bits_Len : retOwn F_math_bits_Len = false := rfl
@[simp] theorem own_slices_pdqsortOrdered_string : own F_slices_pdqsortOrdered_string = false := rfl
@[simp] theorem retOwn_slices_pdqsortOrdered_string : retOwn F_slices_pdqsortOrdered_string = false := rfl
@[simp] theorem own_slices_IndexFunc_string_string : own F_slices_IndexFunc_string_string = false := rfl
@[simp] theorem retOwn_slices_IndexFunc_string_string : retOwn F_slices_IndexFunc_string_string = false := rfl
@[simp] theorem own_value_rises : own F_value_rises = false := rfl
@[simp] theorem retOwn_value_rises : retOwn F_value_rises = false := rfl
@[simp] theorem own_math_bits_Len32 : own F_math_bits_Len32 = false := rfl
@[simp] theorem retOwn_math_bits_Len32 : retOwn F_math_bits_Len32 = false := rfl
@[simp] theorem own_math_bits_Len64 : own F_math_bits_Len64 = false := rfl
@[simp] theorem retOwn_math_bits_Len64 : retOwn F_math_bits_Len64 = false := rfl
@[simp] theorem own_slices_insertionSortOrdered_string : own F_slices_insertionSortOrdered_string = false := rfl
@[simp] theorem retOwn_slices_insertionSortOrdered_string : retOwn F_slices_insertionSortOrdered_string = false := rfl
@[simp] theorem own_slices_heapSortOrdered_string : own F_slices_heapSortOrdered_string = false := rfl
@[simp] theorem retOwn_slices_heapSortOrdered_string : retOwn F_slices_heapSortOrdered_string = false := rfl
@[simp] theorem own_slices_breakPatternsOrdered_string : own F_slices_breakPatternsOrdered_string = false := rfl
@[simp] theorem retOwn_slices_breakPatternsOrdered_string : retOwn F_slices_breakPatternsOrdered_string = false := rfl
@[simp] theorem own_slices_choosePivotOrdered_string : own F_slices_choosePivotOrdered_string = false := rfl
@[simp] theorem retOwn_slices_choosePivotOrdered_string : retOwn F_slices_choosePivotOrdered_string = false := rfl
@[simp] theorem own_slices_reverseRangeOrdered_string : own F_slices_reverseRangeOrdered_string = false := rfl
@[simp] theorem retOwn_slices_reverseRangeOrdered_string : retOwn F_slices_reverseRangeOrdered_string = false := rfl
@[simp] theorem own_slices_partialInsertionSortOrdered_string : own F_slices_partialInsertionSortOrdered_string = false := rfl
@[simp] theorem retOwn_slices_partialInsertionSortOrdered_string : retOwn F_slices_partialInsertionSortOrdered_string = false := rfl
@[simp] theorem own_cmp_Less_string : own F_cmp_Less_string = false := rfl
@[simp] theorem retOwn_cmp_Less_string : retOwn F_cmp_Less_string = false := rfl
@[simp] theorem own_slices_partitionEqualOrdered_string : own F_slices_partitionEqualOrdered_string = false := rfl
@[simp] theorem retOwn_slices_partitionEqualOrdered_string : retOwn F_slices_partitionEqualOrdered_string = false := rfl
@[simp] theorem own_slices_partitionOrdered_string : own F_slices_partitionOrdered_string = false := rfl
@[simp] theorem retOwn_slices_partitionOrdered_string : retOwn F_slices_partitionOrdered_string = false := rfl
@[simp] theorem own_slices_siftDownOrdered_string : own F_slices_siftDownOrdered_string = false := rfl
@[simp] theorem retOwn_slices_siftDownOrdered_string : retOwn F_slices_siftDownOrdered_string = false := rfl
@[simp] theorem own_slices_nextPowerOfTwo : own F_slices_nextPowerOfTwo = false := rfl
@[simp] theorem retOwn_slices_nextPowerOfTwo : retOwn F_slices_nextPowerOfTwo = false := rfl
@[simp] theorem own_slices_xorshift_Next : own F_slices_xorshift_Next = false := rfl
@[simp] theorem retOwn_slices_xorshift_Next : retOwn F_slices_xorshift_Next = false := rfl
@[simp] theorem own_slices_medianAdjacentOrdered_string : own F_slices_medianAdjacentOrdered_string = false := rfl
@[simp] theorem retOwn_slices_medianAdjacentOrdered_string : retOwn F_slices_medianAdjacentOrdered_string = false := rfl
@[simp] theorem own_slices_medianOrdered_string : own F_slices_medianOrdered_string = false := rfl
@[simp] theorem retOwn_slices_medianOrdered_string : retOwn F_slices_medianOrdered_string = false := rfl
@[simp] theorem own_slices_order2Ordered_string : own F_slices_order2Ordered_string = false := rfl
@[simp] theorem retOwn_slices_order2Ordered_string : retOwn F_slices_order2Ordered_string = false := rfl
end Bz.S
