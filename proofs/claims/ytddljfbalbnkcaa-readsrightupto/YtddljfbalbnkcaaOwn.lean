/- Which functions are handed slices of the caller's own, and which hand out their own. -/
import Derived.Test.YtddljfbalbnkcaaBz3
import Derived.Test.YtddljfbalbnkcaaCode0
set_option linter.unusedSimpArgs false
set_option linter.unusedVariables false
namespace Bz.S
open Go Bz
def own : Nat → Bool := fun f => [F_slices_SortFunc_reads_Read_reads_Read, F_slices_Grow_reads_Read_reads_Read, F_slices_Grow_api_Update_api_Update, F_slices_Compact_reads_Read_reads_Read].contains f
def retOwn : Nat → Bool := fun f => [F_slices_Grow_reads_Read_reads_Read, F_slices_Grow_api_Update_api_Update, F_slices_Compact_reads_Read_reads_Read, F_slices_Concat_reads_Read_reads_Read, F_reads_all].contains f
def F_internal_bytealg_IndexByteString : Nat := 999999999
def ext : Callee := extOr (extSortF F_slices_SortFunc_reads_Read_reads_Read F_reads_compare 2 decIT encIT cfIT) (extNone)
def extL : List Nat := [F_slices_SortFunc_reads_Read_reads_Read]
theorem ext_none {f : Nat} {args : List AV} {H : Heap} (hf : extL.contains f = false) : ext f args H = none := by
  simp only [extL, List.contains_cons, List.contains_nil, Bool.or_eq_false_iff, beq_eq_false_iff_ne, ne_eq] at hf
  obtain ⟨h0, _⟩ := hf
  exact extOr_none (extSortF_none h0) (rfl)
theorem ext_slices_SortFunc_reads_Read_reads_Read {args : List AV} {H : Heap} {r : AV × Heap} (h : (extSortF F_slices_SortFunc_reads_Read_reads_Read F_reads_compare 2 decIT encIT cfIT) F_slices_SortFunc_reads_Read_reads_Read args H = some r) : ext F_slices_SortFunc_reads_Read_reads_Read args H = some r := extOr_l h
@[simp] theorem own_law12_ReadsJoins : own F_law12_ReadsJoins = false := rfl
@[simp] theorem retOwn_law12_ReadsJoins : retOwn F_law12_ReadsJoins = false := rfl
@[simp] theorem own_law12_ReadsTells : own F_law12_ReadsTells = false := rfl
@[simp] theorem retOwn_law12_ReadsTells : retOwn F_law12_ReadsTells = false := rfl
@[simp] theorem own_law12_ReadsRight : own F_law12_ReadsRight = false := rfl
@[simp] theorem retOwn_law12_ReadsRight : retOwn F_law12_ReadsRight = false := rfl
@[simp] theorem own_law12_alive : own F_law12_alive = false := rfl
@[simp] theorem retOwn_law12_alive : retOwn F_law12_alive = false := rfl
@[simp] theorem own_reads_Union : own F_reads_Union = false := rfl
@[simp] theorem retOwn_reads_Union : retOwn F_reads_Union = false := rfl
@[simp] theorem own_law12_like : own F_law12_like = false := rfl
@[simp] theorem retOwn_law12_like : retOwn F_law12_like = false := rfl
@[simp] theorem own_reads_Of : own F_reads_Of = false := rfl
@[simp] theorem retOwn_reads_Of : retOwn F_reads_Of = false := rfl
@[simp] theorem own_law12_all : own F_law12_all = false := rfl
@[simp] theorem retOwn_law12_all : retOwn F_law12_all = false := rfl
@[simp] theorem own_reads_Writes : own F_reads_Writes = false := rfl
@[simp] theorem retOwn_reads_Writes : retOwn F_reads_Writes = false := rfl
@[simp] theorem own_reads_Right : own F_reads_Right = false := rfl
@[simp] theorem retOwn_reads_Right : retOwn F_reads_Right = false := rfl
@[simp] theorem own_slices_Concat_reads_Read_reads_Read : own F_slices_Concat_reads_Read_reads_Read = false := rfl
@[simp] theorem retOwn_slices_Concat_reads_Read_reads_Read : retOwn F_slices_Concat_reads_Read_reads_Read = true := rfl
@[simp] theorem own_slices_SortFunc_reads_Read_reads_Read : own F_slices_SortFunc_reads_Read_reads_Read = true := rfl
@[simp] theorem retOwn_slices_SortFunc_reads_Read_reads_Read : retOwn F_slices_SortFunc_reads_Read_reads_Read = false := rfl
@[simp] theorem own_reads_compare : own F_reads_compare = false := rfl
@[simp] theorem retOwn_reads_compare : retOwn F_reads_compare = false := rfl
@[simp] theorem own_slices_Compact_reads_Read_reads_Read : own F_slices_Compact_reads_Read_reads_Read = true := rfl
@[simp] theorem retOwn_slices_Compact_reads_Read_reads_Read : retOwn F_slices_Compact_reads_Read_reads_Read = true := rfl
@[simp] theorem own_law12_has : own F_law12_has = false := rfl
@[simp] theorem retOwn_law12_has : retOwn F_law12_has = false := rfl
@[simp] theorem own_reads_all : own F_reads_all = false := rfl
@[simp] theorem retOwn_reads_all : retOwn F_reads_all = true := rfl
@[simp] theorem own_ref07_All : own F_ref07_All = false := rfl
@[simp] theorem retOwn_ref07_All : retOwn F_ref07_All = false := rfl
@[simp] theorem own_slices_Concat_api_Update_api_Update : own F_slices_Concat_api_Update_api_Update = false := rfl
@[simp] theorem retOwn_slices_Concat_api_Update_api_Update : retOwn F_slices_Concat_api_Update_api_Update = false := rfl
@[simp] theorem own_slices_Grow_reads_Read_reads_Read : own F_slices_Grow_reads_Read_reads_Read = true := rfl
@[simp] theorem retOwn_slices_Grow_reads_Read_reads_Read : retOwn F_slices_Grow_reads_Read_reads_Read = true := rfl
@[simp] theorem own_math_bits_Len : own F_math_bits_Len = false := rfl
@[simp] theorem retOwn_math_bits_Len : retOwn F_math_bits_Len = false := rfl
@[simp] theorem own_slices_pdqsortCmpFunc_reads_Read : own F_slices_pdqsortCmpFunc_reads_Read = false := rfl
@[simp] theorem retOwn_slices_pdqsortCmpFunc_reads_Read : retOwn F_slices_pdqsortCmpFunc_reads_Read = false := rfl
@[simp] theorem own_cmp_Compare_int : own F_cmp_Compare_int = false := rfl
@[simp] theorem retOwn_cmp_Compare_int : retOwn F_cmp_Compare_int = false := rfl
@[simp] theorem own_cmp_Compare_string : own F_cmp_Compare_string = false := rfl
@[simp] theorem retOwn_cmp_Compare_string : retOwn F_cmp_Compare_string = false := rfl
@[simp] theorem own_cmp_Or_int : own F_cmp_Or_int = false := rfl
@[simp] theorem retOwn_cmp_Or_int : retOwn F_cmp_Or_int = false := rfl
@[simp] theorem own_slices_Grow_api_Update_api_Update : own F_slices_Grow_api_Update_api_Update = true := rfl
@[simp] theorem retOwn_slices_Grow_api_Update_api_Update : retOwn F_slices_Grow_api_Update_api_Update = true := rfl
@[simp] theorem own_math_bits_Len32 : own F_math_bits_Len32 = false := rfl
@[simp] theorem retOwn_math_bits_Len32 : retOwn F_math_bits_Len32 = false := rfl
@[simp] theorem own_math_bits_Len64 : own F_math_bits_Len64 = false := rfl
@[simp] theorem retOwn_math_bits_Len64 : retOwn F_math_bits_Len64 = false := rfl
@[simp] theorem own_slices_insertionSortCmpFunc_reads_Read : own F_slices_insertionSortCmpFunc_reads_Read = false := rfl
@[simp] theorem retOwn_slices_insertionSortCmpFunc_reads_Read : retOwn F_slices_insertionSortCmpFunc_reads_Read = false := rfl
@[simp] theorem own_slices_heapSortCmpFunc_reads_Read : own F_slices_heapSortCmpFunc_reads_Read = false := rfl
@[simp] theorem retOwn_slices_heapSortCmpFunc_reads_Read : retOwn F_slices_heapSortCmpFunc_reads_Read = false := rfl
@[simp] theorem own_slices_breakPatternsCmpFunc_reads_Read : own F_slices_breakPatternsCmpFunc_reads_Read = false := rfl
@[simp] theorem retOwn_slices_breakPatternsCmpFunc_reads_Read : retOwn F_slices_breakPatternsCmpFunc_reads_Read = false := rfl
@[simp] theorem own_slices_choosePivotCmpFunc_reads_Read : own F_slices_choosePivotCmpFunc_reads_Read = false := rfl
@[simp] theorem retOwn_slices_choosePivotCmpFunc_reads_Read : retOwn F_slices_choosePivotCmpFunc_reads_Read = false := rfl
@[simp] theorem own_slices_reverseRangeCmpFunc_reads_Read : own F_slices_reverseRangeCmpFunc_reads_Read = false := rfl
@[simp] theorem retOwn_slices_reverseRangeCmpFunc_reads_Read : retOwn F_slices_reverseRangeCmpFunc_reads_Read = false := rfl
@[simp] theorem own_slices_partialInsertionSortCmpFunc_reads_Read : own F_slices_partialInsertionSortCmpFunc_reads_Read = false := rfl
@[simp] theorem retOwn_slices_partialInsertionSortCmpFunc_reads_Read : retOwn F_slices_partialInsertionSortCmpFunc_reads_Read = false := rfl
@[simp] theorem own_slices_partitionEqualCmpFunc_reads_Read : own F_slices_partitionEqualCmpFunc_reads_Read = false := rfl
@[simp] theorem retOwn_slices_partitionEqualCmpFunc_reads_Read : retOwn F_slices_partitionEqualCmpFunc_reads_Read = false := rfl
@[simp] theorem own_slices_partitionCmpFunc_reads_Read : own F_slices_partitionCmpFunc_reads_Read = false := rfl
@[simp] theorem retOwn_slices_partitionCmpFunc_reads_Read : retOwn F_slices_partitionCmpFunc_reads_Read = false := rfl
@[simp] theorem own_cmp_isNaN_int : own F_cmp_isNaN_int = false := rfl
@[simp] theorem retOwn_cmp_isNaN_int : retOwn F_cmp_isNaN_int = false := rfl
@[simp] theorem own_cmp_isNaN_string : own F_cmp_isNaN_string = false := rfl
@[simp] theorem retOwn_cmp_isNaN_string : retOwn F_cmp_isNaN_string = false := rfl
@[simp] theorem own_slices_siftDownCmpFunc_reads_Read : own F_slices_siftDownCmpFunc_reads_Read = false := rfl
@[simp] theorem retOwn_slices_siftDownCmpFunc_reads_Read : retOwn F_slices_siftDownCmpFunc_reads_Read = false := rfl
@[simp] theorem own_slices_nextPowerOfTwo : own F_slices_nextPowerOfTwo = false := rfl
@[simp] theorem retOwn_slices_nextPowerOfTwo : retOwn F_slices_nextPowerOfTwo = false := rfl
@[simp] theorem own_slices_xorshift_Next : own F_slices_xorshift_Next = false := rfl
@[simp] theorem retOwn_slices_xorshift_Next : retOwn F_slices_xorshift_Next = false := rfl
@[simp] theorem own_slices_medianAdjacentCmpFunc_reads_Read : own F_slices_medianAdjacentCmpFunc_reads_Read = false := rfl
@[simp] theorem retOwn_slices_medianAdjacentCmpFunc_reads_Read : retOwn F_slices_medianAdjacentCmpFunc_reads_Read = false := rfl
@[simp] theorem own_slices_medianCmpFunc_reads_Read : own F_slices_medianCmpFunc_reads_Read = false := rfl
@[simp] theorem retOwn_slices_medianCmpFunc_reads_Read : retOwn F_slices_medianCmpFunc_reads_Read = false := rfl
@[simp] theorem own_slices_order2CmpFunc_reads_Read : own F_slices_order2CmpFunc_reads_Read = false := rfl
@[simp] theorem retOwn_slices_order2CmpFunc_reads_Read : retOwn F_slices_order2CmpFunc_reads_Read = false := rfl
end Bz.S
