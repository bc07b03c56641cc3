/- Which functions are handed slices of the caller's own, and which hand out their own. -/
import Derived.Test.YtpopnggdnkfemaaBz3
import Derived.Test.YtpopnggdnkfemaaCode0
set_option linter.unusedSimpArgs false
set_option linter.unusedVariables false
namespace Bz.S
open Go Bz
def own : Nat → Bool := fun f => [F_slices_Sort_string_string, F_slices_IndexFunc_string_string].contains f
def retOwn : Nat → Bool := fun f => [F_slices_Clone_string_string].contains f
def F_internal_bytealg_IndexByteString : Nat := 999999999
def ext1 : Callee := extOr (extClone F_maps_Clone_map_string_int_string_int) (extOr (extClone F_maps_Clone_map_store_key_api_Value_store_key_api_Value) (extOr (extSort F_slices_Sort_string_string) (extNone)))
def ext1L : List Nat := [F_maps_Clone_map_string_int_string_int, F_maps_Clone_map_store_key_api_Value_store_key_api_Value, F_slices_Sort_string_string]
theorem ext1_none {f : Nat} {args : List AV} {H : Heap} (hf : ext1L.contains f = false) : ext1 f args H = none := by
  simp only [ext1L, List.contains_cons, List.contains_nil, Bool.or_eq_false_iff, beq_eq_false_iff_ne, ne_eq] at hf
  obtain ⟨h0, h1, h2, _⟩ := hf
  exact extOr_none (extClone_none h0) (extOr_none (extClone_none h1) (extOr_none (extSort_none h2) (rfl)))
theorem ext1_maps_Clone_map_string_int_string_int {args : List AV} {H : Heap} {r : AV × Heap} (h : (extClone F_maps_Clone_map_string_int_string_int) F_maps_Clone_map_string_int_string_int args H = some r) : ext1 F_maps_Clone_map_string_int_string_int args H = some r := extOr_l h
theorem ext1_maps_Clone_map_store_key_api_Value_store_key_api_Value {args : List AV} {H : Heap} {r : AV × Heap} (h : (extClone F_maps_Clone_map_store_key_api_Value_store_key_api_Value) F_maps_Clone_map_store_key_api_Value_store_key_api_Value args H = some r) : ext1 F_maps_Clone_map_store_key_api_Value_store_key_api_Value args H = some r := extOr_r (extClone_none (by decide)) (extOr_l h)
theorem ext1_slices_Sort_string_string {args : List AV} {H : Heap} {r : AV × Heap} (h : (extSort F_slices_Sort_string_string) F_slices_Sort_string_string args H = some r) : ext1 F_slices_Sort_string_string args H = some r := extOr_r (extClone_none (by decide)) (extOr_r (extClone_none (by decide)) (extOr_l h))
noncomputable abbrev X1 : Ctx := XL own retOwn ext1 code
noncomputable abbrev R1 : Callee := RUN own retOwn ext1 code
noncomputable def ext : Callee := extOr ext1 (extRange X1 F_store_Store_Names rcode_store_Store_Names)
def extL : List Nat := [F_maps_Clone_map_string_int_string_int, F_maps_Clone_map_store_key_api_Value_store_key_api_Value, F_slices_Sort_string_string, F_store_Store_Names]
theorem ext_none {f : Nat} {args : List AV} {H : Heap} (hf : extL.contains f = false) : ext f args H = none := by
  simp only [extL, List.contains_cons, List.contains_nil, Bool.or_eq_false_iff, beq_eq_false_iff_ne, ne_eq] at hf
  obtain ⟨h0, h1, h2, h3, _⟩ := hf
  exact extOr_none (extOr_none (extClone_none h0) (extOr_none (extClone_none h1) (extOr_none (extSort_none h2) (rfl)))) (extRange_none h3)
theorem ext_maps_Clone_map_string_int_string_int {args : List AV} {H : Heap} {r : AV × Heap} (h : (extClone F_maps_Clone_map_string_int_string_int) F_maps_Clone_map_string_int_string_int args H = some r) : ext F_maps_Clone_map_string_int_string_int args H = some r := extOr_l (ext1_maps_Clone_map_string_int_string_int h)
theorem ext_maps_Clone_map_store_key_api_Value_store_key_api_Value {args : List AV} {H : Heap} {r : AV × Heap} (h : (extClone F_maps_Clone_map_store_key_api_Value_store_key_api_Value) F_maps_Clone_map_store_key_api_Value_store_key_api_Value args H = some r) : ext F_maps_Clone_map_store_key_api_Value_store_key_api_Value args H = some r := extOr_l (ext1_maps_Clone_map_store_key_api_Value_store_key_api_Value h)
theorem ext_slices_Sort_string_string {args : List AV} {H : Heap} {r : AV × Heap} (h : (extSort F_slices_Sort_string_string) F_slices_Sort_string_string args H = some r) : ext F_slices_Sort_string_string args H = some r := extOr_l (ext1_slices_Sort_string_string h)
theorem ext_store_Store_Names {args : List AV} {H : Heap} {r : AV × Heap} (h : aw X1 rcode_store_Store_Names.body (start rcode_store_Store_Names.ntmps args H) fun e s => finish X1 F_store_Store_Names rcode_store_Store_Names.results H (some (e, s)) = some r) : ext F_store_Store_Names args H = some r := extOr_r (ext1_none (by decide)) (extRange_of h)
theorem R1_R {f : Nat} {args : List AV} {H : Heap} {r : AV × Heap} (h : R1 f args H = some r) : RUN own retOwn ext code f args H = some r :=
  RUN_ext_mono (f := F_store_Store_Names) (fun g hg => by funext args H; show _ = extOr ext1 (extRange X1 F_store_Store_Names rcode_store_Store_Names) g args H; unfold extOr; cases ext1 g args H <;> simp [extRange_none hg]) (by funext args H; exact ext1_none (by decide)) (by kernel_rfl) _ _ _ _ h
theorem R1_of {f : Nat} {fn : AFunc} {args : List AV} {H : Heap} {r : AV × Heap} (hc : code f = some fn) (hf : ext1L.contains f = false) (h : finish X1 f fn.results H (exL X1 fn.body (start fn.ntmps args H)) = some r) : R1 f args H = some r := RUN_of own retOwn ext1 code (ext1_none hf) hc h
theorem R1_ext {f : Nat} {args : List AV} {H : Heap} {r : AV × Heap} (h : ext1 f args H = some r) : R1 f args H = some r := RUN_ext own retOwn ext1 code h
@[simp] theorem XC1 : (XL own retOwn ext1 code).C = R1 := rfl
@[simp] theorem own_law05_StoreKeeps : own F_law05_StoreKeeps = false := rfl
@[simp] theorem retOwn_law05_StoreKeeps : retOwn F_law05_StoreKeeps = false := rfl
@[simp] theorem own_law05_StoreRuns : own F_law05_StoreRuns = false := rfl
@[simp] theorem retOwn_law05_StoreRuns : retOwn F_law05_StoreRuns = false := rfl
@[simp] theorem own_law05_StoreClones : own F_law05_StoreClones = false := rfl
@[simp] theorem retOwn_law05_StoreClones : retOwn F_law05_StoreClones = false := rfl
@[simp] theorem own_law05_StoreNobody : own F_law05_StoreNobody = false := rfl
@[simp] theorem retOwn_law05_StoreNobody : retOwn F_law05_StoreNobody = false := rfl
@[simp] theorem own_law05_alive : own F_law05_alive = false := rfl
@[simp] theorem retOwn_law05_alive : retOwn F_law05_alive = false := rfl
@[simp] theorem own_plain_Rising : own F_plain_Rising = false := rfl
@[simp] theorem retOwn_plain_Rising : retOwn F_plain_Rising = false := rfl
@[simp] theorem own_store_New : own F_store_New = false := rfl
@[simp] theorem retOwn_store_New : retOwn F_store_New = false := rfl
@[simp] theorem own_store_Store_Set : own F_store_Store_Set = false := rfl
@[simp] theorem retOwn_store_Store_Set : retOwn F_store_Store_Set = false := rfl
@[simp] theorem own_law05_long : own F_law05_long = false := rfl
@[simp] theorem retOwn_law05_long : retOwn F_law05_long = false := rfl
@[simp] theorem own_store_Store_Get : own F_store_Store_Get = false := rfl
@[simp] theorem retOwn_store_Store_Get : retOwn F_store_Store_Get = false := rfl
@[simp] theorem own_plain_Texts : own F_plain_Texts = false := rfl
@[simp] theorem retOwn_plain_Texts : retOwn F_plain_Texts = false := rfl
@[simp] theorem own_law05_few : own F_law05_few = false := rfl
@[simp] theorem retOwn_law05_few : retOwn F_law05_few = false := rfl
@[simp] theorem own_law05_run : own F_law05_run = false := rfl
@[simp] theorem retOwn_law05_run : retOwn F_law05_run = false := rfl
@[simp] theorem own_store_Store_Clone : own F_store_Store_Clone = false := rfl
@[simp] theorem retOwn_store_Store_Clone : retOwn F_store_Store_Clone = false := rfl
@[simp] theorem own_plain_Value : own F_plain_Value = false := rfl
@[simp] theorem retOwn_plain_Value : retOwn F_plain_Value = false := rfl
@[simp] theorem own_store_Store_Count : own F_store_Store_Count = false := rfl
@[simp] theorem retOwn_store_Store_Count : retOwn F_store_Store_Count = false := rfl
@[simp] theorem own_store_Store_Names : own F_store_Store_Names = false := rfl
@[simp] theorem retOwn_store_Store_Names : retOwn F_store_Store_Names = false := rfl
@[simp] theorem own_store_Store_Kind : own F_store_Store_Kind = false := rfl
@[simp] theorem retOwn_store_Store_Kind : retOwn F_store_Store_Kind = false := rfl
@[simp] theorem own_plain_In : own F_plain_In = false := rfl
@[simp] theorem retOwn_plain_In : retOwn F_plain_In = false := rfl
@[simp] theorem own_store_Store_is : own F_store_Store_is = false := rfl
@[simp] theorem retOwn_store_Store_is : retOwn F_store_Store_is = false := rfl
@[simp] theorem own_value_Check : own F_value_Check = false := rfl
@[simp] theorem retOwn_value_Check : retOwn F_value_Check = false := rfl
@[simp] theorem own_store_own : own F_store_own = false := rfl
@[simp] theorem retOwn_store_own : retOwn F_store_own = false := rfl
@[simp] theorem own_value_Zero : own F_value_Zero = false := rfl
@[simp] theorem retOwn_value_Zero : retOwn F_value_Zero = false := rfl
@[simp] theorem own_law05_step : own F_law05_step = false := rfl
@[simp] theorem retOwn_law05_step : retOwn F_law05_step = false := rfl
@[simp] theorem own_maps_Clone_map_string_int_string_int : own F_maps_Clone_map_string_int_string_int = false := rfl
@[simp] theorem retOwn_maps_Clone_map_string_int_string_int : retOwn F_maps_Clone_map_string_int_string_int = false := rfl
@[simp] theorem own_maps_Clone_map_store_key_api_Value_store_key_api_Value : own F_maps_Clone_map_store_key_api_Value_store_key_api_Value = false := rfl
@[simp] theorem retOwn_maps_Clone_map_store_key_api_Value_store_key_api_Value : retOwn F_maps_Clone_map_store_key_api_Value_store_key_api_Value = false := rfl
@[simp] theorem own_slices_Sort_string_string : own F_slices_Sort_string_string = true := rfl
@[simp] theorem retOwn_slices_Sort_string_string : retOwn F_slices_Sort_string_string = false := rfl
@[simp] theorem own_value_long : own F_value_long = false := rfl
@[simp] theorem retOwn_value_long : retOwn F_value_long = false := rfl
@[simp] theorem own_slices_ContainsFunc_string_string : own F_slices_ContainsFunc_string_string = false := rfl
@[simp] theorem retOwn_slices_ContainsFunc_string_string : retOwn F_slices_ContainsFunc_string_string = false := rfl
@[simp] theorem own_value_odd : own F_value_odd = false := rfl
@[simp] theorem retOwn_value_odd : retOwn F_value_odd = false := rfl
@[simp] theorem own_slices_Clone_string_string : own F_slices_Clone_string_string = false := rfl
@[simp] theorem retOwn_slices_Clone_string_string : retOwn F_slices_Clone_string_string = true := rfl
@[simp] theorem own_ref05_Set : own F_ref05_Set = false := rfl
@[simp] theorem retOwn_ref05_Set : retOwn F_ref05_Set = false := rfl
@[simp] theorem own_ref05_Get : own F_ref05_Get = false := rfl
@[simp] theorem retOwn_ref05_Get : retOwn F_ref05_Get = false := rfl
@[simp] theorem own_ref05_Kind : own F_ref05_Kind = false := rfl
@[simp] theorem retOwn_ref05_Kind : retOwn F_ref05_Kind = false := rfl
@[simp] theorem own_law05_names : own F_law05_names = false := rfl
@[simp] theorem retOwn_law05_names : retOwn F_law05_names = false := rfl
@[simp] theorem own_math_bits_Len : own F_math_bits_Len = false := rfl
@[simp] theorem retOwn_math_bits_Len : retOwn F_math_bits_Len = false := rfl
@[simp] theorem own_slices_pdqsortOrdered_string : own F_slices_pdqsortOrdered_string = false := rfl
@[simp] theorem retOwn_slices_pdqsortOrdered_string : retOwn F_slices_pdqsortOrdered_string = false := rfl
@[simp] theorem own_slices_IndexFunc_string_string : own F_slices_IndexFunc_string_string = true := rfl
@[simp] theorem retOwn_slices_IndexFunc_string_string : retOwn F_slices_IndexFunc_string_string = false := rfl
@[simp] theorem own_value_rises : own F_value_rises = false := rfl
@[simp] theorem retOwn_value_rises : retOwn F_value_rises = false := rfl
@[simp] theorem own_ref02_Check : own F_ref02_Check = false := rfl
@[simp] theorem retOwn_ref02_Check : retOwn F_ref02_Check = false := rfl
@[simp] theorem own_math_bits_Len32 : own F_math_bits_Len32 = false := rfl
@[simp] theorem retOwn_math_bits_Len32 : retOwn F_math_bits_Len32 = false := rfl
@[simp] theorem own_math_bits_Len64 : own F_math_bits_Len64 = false := rfl
@[simp] theorem retOwn_math_bits_Len64 : retOwn F_math_bits_Len64 = false := rfl
@[simp] theorem own_slices_insertionSortOrdered_string : own F_slices_insertionSortOrdered_string = false := rfl
@[simp] theorem retOwn_slices_insertionSortOrdered_string : retOwn F_slices_insertionSortOrdered_string = false := rfl
@[simp] theorem own_slices_heapSortOrdered_string : own F_slices_heapSortOrdered_string = false := rfl
@[simp] theorem retOwn_slices_heapSortOrdered_string : retOwn F_slices_heapSortOrdered_string = false := rfl
@[simp] theorem own_slices_breakPatternsOrdered_string : own F_slices_breakPatternsOrdered_string = false := rfl
@[simp] theorem retOwn_slices_breakPatternsOrdered_string : retOwn F_slices_breakPatternsOrdered_string = false := rfl
@[simp] theorem own_slices_choosePivotOrdered_string : own F_slices_choosePivotOrdered_string = false := rfl
@[simp] theorem retOwn_slices_choosePivotOrdered_string : retOwn F_slices_choosePivotOrdered_string = false := rfl
@[simp] theorem own_slices_reverseRangeOrdered_string : own F_slices_reverseRangeOrdered_string = false := rfl
@[simp] theorem retOwn_slices_reverseRangeOrdered_string : retOwn F_slices_reverseRangeOrdered_string = false := rfl
@[simp] theorem own_slices_partialInsertionSortOrdered_string : own F_slices_partialInsertionSortOrdered_string = false := rfl
@[simp] theorem retOwn_slices_partialInsertionSortOrdered_string : retOwn F_slices_partialInsertionSortOrdered_string = false := rfl
@[simp] theorem own_cmp_Less_string : own F_cmp_Less_string = false := rfl
@[simp] theorem retOwn_cmp_Less_string : retOwn F_cmp_Less_string = false := rfl
@[simp] theorem own_slices_partitionEqualOrdered_string : own F_slices_partitionEqualOrdered_string = false := rfl
@[simp] theorem retOwn_slices_partitionEqualOrdered_string : retOwn F_slices_partitionEqualOrdered_string = false := rfl
@[simp] theorem own_slices_partitionOrdered_string : own F_slices_partitionOrdered_string = false := rfl
@[simp] theorem retOwn_slices_partitionOrdered_string : retOwn F_slices_partitionOrdered_string = false := rfl
@[simp] theorem own_ref02_bad : own F_ref02_bad = false := rfl
@[simp] theorem retOwn_ref02_bad : retOwn F_ref02_bad = false := rfl
@[simp] theorem own_slices_siftDownOrdered_string : own F_slices_siftDownOrdered_string = false := rfl
@[simp] theorem retOwn_slices_siftDownOrdered_string : retOwn F_slices_siftDownOrdered_string = false := rfl
@[simp] theorem own_slices_nextPowerOfTwo : own F_slices_nextPowerOfTwo = false := rfl
@[simp] theorem retOwn_slices_nextPowerOfTwo : retOwn F_slices_nextPowerOfTwo = false := rfl
@[simp] theorem own_slices_xorshift_Next : own F_slices_xorshift_Next = false := rfl
@[simp] theorem retOwn_slices_xorshift_Next : retOwn F_slices_xorshift_Next = false := rfl
@[simp] theorem own_slices_medianAdjacentOrdered_string : own F_slices_medianAdjacentOrdered_string = false := rfl
@[simp] theorem retOwn_slices_medianAdjacentOrdered_string : retOwn F_slices_medianAdjacentOrdered_string = false := rfl
@[simp] theorem own_slices_medianOrdered_string : own F_slices_medianOrdered_string = false := rfl
@[simp] theorem retOwn_slices_medianOrdered_string : retOwn F_slices_medianOrdered_string = false := rfl
@[simp] theorem own_cmp_isNaN_string : own F_cmp_isNaN_string = false := rfl
@[simp] theorem retOwn_cmp_isNaN_string : retOwn F_cmp_isNaN_string = false := rfl
@[simp] theorem own_slices_order2Ordered_string : own F_slices_order2Ordered_string = false := rfl
@[simp] theorem retOwn_slices_order2Ordered_string : retOwn F_slices_order2Ordered_string = false := rfl
end Bz.S
