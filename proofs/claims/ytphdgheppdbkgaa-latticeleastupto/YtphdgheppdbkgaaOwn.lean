/- Which functions are handed slices of the caller's own, and which hand out their own. -/
import Derived.Test.YtphdgheppdbkgaaBz3
import Derived.Test.YtphdgheppdbkgaaCode0
set_option linter.unusedSimpArgs false
set_option linter.unusedVariables false
namespace Bz.S
open Go Bz
def own : Nat → Bool := fun f => [F_slices_Sort_string_string, F_slices_Compact_string_string, F_lattice_rising_string, F_slices_Grow_string_string].contains f
def retOwn : Nat → Bool := fun f => [F_slices_Compact_string_string, F_slices_Grow_string_string, F_slices_Concat_string_string, F_lattice_rising_string].contains f
def F_internal_bytealg_IndexByteString : Nat := 999999999
def ext : Callee := extOr (extSort F_slices_Sort_string_string) (extNone)
def extL : List Nat := [F_slices_Sort_string_string]
theorem ext_none {f : Nat} {args : List AV} {H : Heap} (hf : extL.contains f = false) : ext f args H = none := by
  simp only [extL, List.contains_cons, List.contains_nil, Bool.or_eq_false_iff, beq_eq_false_iff_ne, ne_eq] at hf
  obtain ⟨h0, _⟩ := hf
  exact extOr_none (extSort_none h0) (rfl)
theorem ext_slices_Sort_string_string {args : List AV} {H : Heap} {r : AV × Heap} (h : extSort F_slices_Sort_string_string F_slices_Sort_string_string args H = some r) : ext F_slices_Sort_string_string args H = some r := extOr_l h
@[simp] theorem own_law32_LatticeTells : own F_law32_LatticeTells = false := rfl
@[simp] theorem retOwn_law32_LatticeTells : retOwn F_law32_LatticeTells = false := rfl
@[simp] theorem own_law32_LatticeLaws : own F_law32_LatticeLaws = false := rfl
@[simp] theorem retOwn_law32_LatticeLaws : retOwn F_law32_LatticeLaws = false := rfl
@[simp] theorem own_law32_LatticeLeast : own F_law32_LatticeLeast = false := rfl
@[simp] theorem retOwn_law32_LatticeLeast : retOwn F_law32_LatticeLeast = false := rfl
@[simp] theorem own_law32_LatticeFlows : own F_law32_LatticeFlows = false := rfl
@[simp] theorem retOwn_law32_LatticeFlows : retOwn F_law32_LatticeFlows = false := rfl
@[simp] theorem own_law32_alive : own F_law32_alive = false := rfl
@[simp] theorem retOwn_law32_alive : retOwn F_law32_alive = false := rfl
@[simp] theorem own_law32_all : own F_law32_all = false := rfl
@[simp] theorem retOwn_law32_all : retOwn F_law32_all = false := rfl
@[simp] theorem own_lattice_Join : own F_lattice_Join = false := rfl
@[simp] theorem retOwn_lattice_Join : retOwn F_lattice_Join = false := rfl
@[simp] theorem own_lattice_Meet : own F_lattice_Meet = false := rfl
@[simp] theorem retOwn_lattice_Meet : retOwn F_lattice_Meet = false := rfl
@[simp] theorem own_plain_In : own F_plain_In = false := rfl
@[simp] theorem retOwn_plain_In : retOwn F_plain_In = false := rfl
@[simp] theorem own_plain_Rising : own F_plain_Rising = false := rfl
@[simp] theorem retOwn_plain_Rising : retOwn F_plain_Rising = false := rfl
@[simp] theorem own_law32_same : own F_law32_same = false := rfl
@[simp] theorem retOwn_law32_same : retOwn F_law32_same = false := rfl
@[simp] theorem own_lattice_Check : own F_lattice_Check = false := rfl
@[simp] theorem retOwn_lattice_Check : retOwn F_lattice_Check = false := rfl
@[simp] theorem own_law32_may : own F_law32_may = false := rfl
@[simp] theorem retOwn_law32_may : retOwn F_law32_may = false := rfl
@[simp] theorem own_lattice_Under : own F_lattice_Under = false := rfl
@[simp] theorem retOwn_lattice_Under : retOwn F_lattice_Under = false := rfl
@[simp] theorem own_lattice_Write : own F_lattice_Write = false := rfl
@[simp] theorem retOwn_lattice_Write : retOwn F_lattice_Write = false := rfl
@[simp] theorem own_lattice_Read : own F_lattice_Read = false := rfl
@[simp] theorem retOwn_lattice_Read : retOwn F_lattice_Read = false := rfl
@[simp] theorem own_lattice_Range : own F_lattice_Range = false := rfl
@[simp] theorem retOwn_lattice_Range : retOwn F_lattice_Range = false := rfl
@[simp] theorem own_plain_Texts : own F_plain_Texts = false := rfl
@[simp] theorem retOwn_plain_Texts : retOwn F_plain_Texts = false := rfl
@[simp] theorem own_slices_Concat_string_string : own F_slices_Concat_string_string = false := rfl
@[simp] theorem retOwn_slices_Concat_string_string : retOwn F_slices_Concat_string_string = true := rfl
@[simp] theorem own_lattice_rising_string : own F_lattice_rising_string = true := rfl
@[simp] theorem retOwn_lattice_rising_string : retOwn F_lattice_rising_string = true := rfl
@[simp] theorem own_slices_Contains_string_string : own F_slices_Contains_string_string = false := rfl
@[simp] theorem retOwn_slices_Contains_string_string : retOwn F_slices_Contains_string_string = false := rfl
@[simp] theorem own_lex_Name : own F_lex_Name = false := rfl
@[simp] theorem retOwn_lex_Name : retOwn F_lex_Name = false := rfl
@[simp] theorem own_ref06_Name : own F_ref06_Name = false := rfl
@[simp] theorem retOwn_ref06_Name : retOwn F_ref06_Name = false := rfl
@[simp] theorem own_lattice_within_string : own F_lattice_within_string = false := rfl
@[simp] theorem retOwn_lattice_within_string : retOwn F_lattice_within_string = false := rfl
@[simp] theorem own_slices_Grow_string_string : own F_slices_Grow_string_string = true := rfl
@[simp] theorem retOwn_slices_Grow_string_string : retOwn F_slices_Grow_string_string = true := rfl
@[simp] theorem own_slices_Sort_string_string : own F_slices_Sort_string_string = true := rfl
@[simp] theorem retOwn_slices_Sort_string_string : retOwn F_slices_Sort_string_string = false := rfl
@[simp] theorem own_slices_Compact_string_string : own F_slices_Compact_string_string = true := rfl
@[simp] theorem retOwn_slices_Compact_string_string : retOwn F_slices_Compact_string_string = true := rfl
@[simp] theorem own_slices_Index_string_string : own F_slices_Index_string_string = false := rfl
@[simp] theorem retOwn_slices_Index_string_string : retOwn F_slices_Index_string_string = false := rfl
@[simp] theorem own_lex_letter : own F_lex_letter = false := rfl
@[simp] theorem retOwn_lex_letter : retOwn F_lex_letter = false := rfl
@[simp] theorem own_lex_digit : own F_lex_digit = false := rfl
@[simp] theorem retOwn_lex_digit : retOwn F_lex_digit = false := rfl
@[simp] theorem own_ref06_head : own F_ref06_head = false := rfl
@[simp] theorem retOwn_ref06_head : retOwn F_ref06_head = false := rfl
@[simp] theorem own_ref06_tail : own F_ref06_tail = false := rfl
@[simp] theorem retOwn_ref06_tail : retOwn F_ref06_tail = false := rfl
@[simp] theorem own_math_bits_Len : own F_math_bits_Len = false := rfl
@[simp] theorem retOwn_math_bits_Len : retOwn F_math_bits_Len = false := rfl
@[simp] theorem own_slices_pdqsortOrdered_string : own F_slices_pdqsortOrdered_string = false := rfl
@[simp] theorem retOwn_slices_pdqsortOrdered_string : retOwn F_slices_pdqsortOrdered_string = false := rfl
@[simp] theorem own_math_bits_Len32 : own F_math_bits_Len32 = false := rfl
@[simp] theorem retOwn_math_bits_Len32 : retOwn F_math_bits_Len32 = false := rfl
@[simp] theorem own_math_bits_Len64 : own F_math_bits_Len64 = false := rfl
@[simp] theorem retOwn_math_bits_Len64 : retOwn F_math_bits_Len64 = false := rfl
@[simp] theorem own_slices_insertionSortOrdered_string : own F_slices_insertionSortOrdered_string = false := rfl
@[simp] theorem retOwn_slices_insertionSortOrdered_string : retOwn F_slices_insertionSortOrdered_string = false := rfl
@[simp] theorem own_slices_heapSortOrdered_string : own F_slices_heapSortOrdered_string = false := rfl
@[simp] theorem retOwn_slices_heapSortOrdered_string : retOwn F_slices_heapSortOrdered_string = false := rfl
@[simp] theorem own_slices_breakPatternsOrdered_string : own F_slices_breakPatternsOrdered_string = false := rfl
@[simp] theorem retOwn_slices_breakPatternsOrdered_string : retOwn F_slices_breakPatternsOrdered_string = false := rfl
@[simp] theorem own_slices_choosePivotOrdered_string : own F_slices_choosePivotOrdered_string = false := rfl
@[simp] theorem retOwn_slices_choosePivotOrdered_string : retOwn F_slices_choosePivotOrdered_string = false := rfl
@[simp] theorem own_slices_reverseRangeOrdered_string : own F_slices_reverseRangeOrdered_string = false := rfl
@[simp] theorem retOwn_slices_reverseRangeOrdered_string : retOwn F_slices_reverseRangeOrdered_string = false := rfl
@[simp] theorem own_slices_partialInsertionSortOrdered_string : own F_slices_partialInsertionSortOrdered_string = false := rfl
@[simp] theorem retOwn_slices_partialInsertionSortOrdered_string : retOwn F_slices_partialInsertionSortOrdered_string = false := rfl
@[simp] theorem own_cmp_Less_string : own F_cmp_Less_string = false := rfl
@[simp] theorem retOwn_cmp_Less_string : retOwn F_cmp_Less_string = false := rfl
@[simp] theorem own_slices_partitionEqualOrdered_string : own F_slices_partitionEqualOrdered_string = false := rfl
@[simp] theorem retOwn_slices_partitionEqualOrdered_string : retOwn F_slices_partitionEqualOrdered_string = false := rfl
@[simp] theorem own_slices_partitionOrdered_string : own F_slices_partitionOrdered_string = false := rfl
@[simp] theorem retOwn_slices_partitionOrdered_string : retOwn F_slices_partitionOrdered_string = false := rfl
@[simp] theorem own_slices_siftDownOrdered_string : own F_slices_siftDownOrdered_string = false := rfl
@[simp] theorem retOwn_slices_siftDownOrdered_string : retOwn F_slices_siftDownOrdered_string = false := rfl
@[simp] theorem own_slices_nextPowerOfTwo : own F_slices_nextPowerOfTwo = false := rfl
@[simp] theorem retOwn_slices_nextPowerOfTwo : retOwn F_slices_nextPowerOfTwo = false := rfl
@[simp] theorem own_slices_xorshift_Next : own F_slices_xorshift_Next = false := rfl
@[simp] theorem retOwn_slices_xorshift_Next : retOwn F_slices_xorshift_Next = false := rfl
@[simp] theorem own_slices_medianAdjacentOrdered_string : own F_slices_medianAdjacentOrdered_string = false := rfl
@[simp] theorem retOwn_slices_medianAdjacentOrdered_string : retOwn F_slices_medianAdjacentOrdered_string = false := rfl
@[simp] theorem own_slices_medianOrdered_string : own F_slices_medianOrdered_string = false := rfl
@[simp] theorem retOwn_slices_medianOrdered_string : retOwn F_slices_medianOrdered_string = false := rfl
@[simp] theorem own_cmp_isNaN_string : own F_cmp_isNaN_string = false := rfl
@[simp] theorem retOwn_cmp_isNaN_string : retOwn F_cmp_isNaN_string = false := rfl
@[simp] theorem own_slices_order2Ordered_string : own F_slices_order2Ordered_string = false := rfl
@[simp] theorem retOwn_slices_order2Ordered_string : retOwn F_slices_order2Ordered_string = false := rfl
end Bz.S
