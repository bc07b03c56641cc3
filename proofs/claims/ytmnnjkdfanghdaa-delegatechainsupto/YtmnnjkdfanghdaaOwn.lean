/- Which functions are handed slices of the caller's own, and which hand out their own. -/
import Derived.Test.YtmnnjkdfanghdaaBz3
import Derived.Test.YtmnnjkdfanghdaaCode0
set_option linter.unusedSimpArgs false
set_option linter.unusedVariables false
namespace Bz.S
open Go Bz
def own : Nat → Bool := fun f => [F_slices_Sort_string_string, F_slices_Reverse_string_string].contains f
def retOwn : Nat → Bool := fun f => [].contains f
def F_internal_bytealg_IndexByteString : Nat := 999999999
def ext1 : Callee := extOr (extSort F_slices_Sort_string_string) (extNone)
def ext1L : List Nat := [F_slices_Sort_string_string]
theorem ext1_none {f : Nat} {args : List AV} {H : Heap} (hf : ext1L.contains f = false) : ext1 f args H = none := by
  simp only [ext1L, List.contains_cons, List.contains_nil, Bool.or_eq_false_iff, beq_eq_false_iff_ne, ne_eq] at hf
  obtain ⟨h0, _⟩ := hf
  exact extOr_none (extSort_none h0) (rfl)
theorem ext1_slices_Sort_string_string {args : List AV} {H : Heap} {r : AV × Heap} (h : (extSort F_slices_Sort_string_string) F_slices_Sort_string_string args H = some r) : ext1 F_slices_Sort_string_string args H = some r := extOr_l h
noncomputable abbrev X1 : Ctx := XL own retOwn ext1 code
noncomputable abbrev R1 : Callee := RUN own retOwn ext1 code
noncomputable def ext : Callee := extOr ext1 (extRange X1 F_delegate_All rcode_delegate_All)
def extL : List Nat := [F_slices_Sort_string_string, F_delegate_All]
theorem ext_none {f : Nat} {args : List AV} {H : Heap} (hf : extL.contains f = false) : ext f args H = none := by
  simp only [extL, List.contains_cons, List.contains_nil, Bool.or_eq_false_iff, beq_eq_false_iff_ne, ne_eq] at hf
  obtain ⟨h0, h1, _⟩ := hf
  exact extOr_none (extOr_none (extSort_none h0) (rfl)) (extRange_none h1)
theorem ext_slices_Sort_string_string {args : List AV} {H : Heap} {r : AV × Heap} (h : (extSort F_slices_Sort_string_string) F_slices_Sort_string_string args H = some r) : ext F_slices_Sort_string_string args H = some r := extOr_l (ext1_slices_Sort_string_string h)
theorem ext_delegate_All {args : List AV} {H : Heap} {r : AV × Heap} (h : aw X1 rcode_delegate_All.body (start rcode_delegate_All.ntmps args H) fun e s => finish X1 F_delegate_All rcode_delegate_All.results H (some (e, s)) = some r) : ext F_delegate_All args H = some r := extOr_r (ext1_none (by decide)) (extRange_of h)
theorem R1_R {f : Nat} {args : List AV} {H : Heap} {r : AV × Heap} (h : R1 f args H = some r) : RUN own retOwn ext code f args H = some r :=
  RUN_ext_mono (f := F_delegate_All) (fun g hg => by funext args H; show _ = extOr ext1 (extRange X1 F_delegate_All rcode_delegate_All) g args H; unfold extOr; cases ext1 g args H <;> simp [extRange_none hg]) (by funext args H; exact ext1_none (by decide)) (by kernel_rfl) _ _ _ _ h
theorem R1_of {f : Nat} {fn : AFunc} {args : List AV} {H : Heap} {r : AV × Heap} (hc : code f = some fn) (hf : ext1L.contains f = false) (h : finish X1 f fn.results H (exL X1 fn.body (start fn.ntmps args H)) = some r) : R1 f args H = some r := RUN_of own retOwn ext1 code (ext1_none hf) hc h
theorem R1_ext {f : Nat} {args : List AV} {H : Heap} {r : AV × Heap} (h : ext1 f args H = some r) : R1 f args H = some r := RUN_ext own retOwn ext1 code h
@[simp] theorem XC1 : (XL own retOwn ext1 code).C = R1 := rfl
@[simp] theorem own_law35_DelegateTells : own F_law35_DelegateTells = false := rfl
@[simp] theorem retOwn_law35_DelegateTells : retOwn F_law35_DelegateTells = false := rfl
@[simp] theorem own_law35_DelegateChains : own F_law35_DelegateChains = false := rfl
@[simp] theorem retOwn_law35_DelegateChains : retOwn F_law35_DelegateChains = false := rfl
@[simp] theorem own_law35_DelegateMore : own F_law35_DelegateMore = false := rfl
@[simp] theorem retOwn_law35_DelegateMore : retOwn F_law35_DelegateMore = false := rfl
@[simp] theorem own_law35_DelegateBound : own F_law35_DelegateBound = false := rfl
@[simp] theorem retOwn_law35_DelegateBound : retOwn F_law35_DelegateBound = false := rfl
@[simp] theorem own_law35_alive : own F_law35_alive = false := rfl
@[simp] theorem retOwn_law35_alive : retOwn F_law35_alive = false := rfl
@[simp] theorem own_law35_few : own F_law35_few = false := rfl
@[simp] theorem retOwn_law35_few : retOwn F_law35_few = false := rfl
@[simp] theorem own_law35_find : own F_law35_find = false := rfl
@[simp] theorem retOwn_law35_find : retOwn F_law35_find = false := rfl
@[simp] theorem own_law35_far : own F_law35_far = false := rfl
@[simp] theorem retOwn_law35_far : retOwn F_law35_far = false := rfl
@[simp] theorem own_delegate_Depth : own F_delegate_Depth = false := rfl
@[simp] theorem retOwn_delegate_Depth : retOwn F_delegate_Depth = false := rfl
@[simp] theorem own_delegate_Holds : own F_delegate_Holds = false := rfl
@[simp] theorem retOwn_delegate_Holds : retOwn F_delegate_Holds = false := rfl
@[simp] theorem own_delegate_All : own F_delegate_All = false := rfl
@[simp] theorem retOwn_delegate_All : retOwn F_delegate_All = false := rfl
@[simp] theorem own_plain_Rising : own F_plain_Rising = false := rfl
@[simp] theorem retOwn_plain_Rising : retOwn F_plain_Rising = false := rfl
@[simp] theorem own_plain_Texts : own F_plain_Texts = false := rfl
@[simp] theorem retOwn_plain_Texts : retOwn F_plain_Texts = false := rfl
@[simp] theorem own_delegate_Chain : own F_delegate_Chain = false := rfl
@[simp] theorem retOwn_delegate_Chain : retOwn F_delegate_Chain = false := rfl
@[simp] theorem own_law35_by : own F_law35_by = false := rfl
@[simp] theorem retOwn_law35_by : retOwn F_law35_by = false := rfl
@[simp] theorem own_plain_In : own F_plain_In = false := rfl
@[simp] theorem retOwn_plain_In : retOwn F_plain_In = false := rfl
@[simp] theorem own_delegate_find : own F_delegate_find = false := rfl
@[simp] theorem retOwn_delegate_find : retOwn F_delegate_find = false := rfl
@[simp] theorem own_delegate_reach_of : own F_delegate_reach_of = false := rfl
@[simp] theorem retOwn_delegate_reach_of : retOwn F_delegate_reach_of = false := rfl
@[simp] theorem own_slices_Sort_string_string : own F_slices_Sort_string_string = true := rfl
@[simp] theorem retOwn_slices_Sort_string_string : retOwn F_slices_Sort_string_string = false := rfl
@[simp] theorem own_delegate_Chain_1 : own F_delegate_Chain_1 = false := rfl
@[simp] theorem retOwn_delegate_Chain_1 : retOwn F_delegate_Chain_1 = false := rfl
@[simp] theorem own_slices_IndexFunc_delegate_Grant_delegate_Grant : own F_slices_IndexFunc_delegate_Grant_delegate_Grant = false := rfl
@[simp] theorem retOwn_slices_IndexFunc_delegate_Grant_delegate_Grant : retOwn F_slices_IndexFunc_delegate_Grant_delegate_Grant = false := rfl
@[simp] theorem own_slices_Reverse_string_string : own F_slices_Reverse_string_string = true := rfl
@[simp] theorem retOwn_slices_Reverse_string_string : retOwn F_slices_Reverse_string_string = false := rfl
@[simp] theorem own_delegate_reach_by : own F_delegate_reach_by = false := rfl
@[simp] theorem retOwn_delegate_reach_by : retOwn F_delegate_reach_by = false := rfl
@[simp] theorem own_math_bits_Len : own F_math_bits_Len = false := rfl
@[simp] theorem retOwn_math_bits_Len : retOwn F_math_bits_Len = false := rfl
@[simp] theorem own_slices_pdqsortOrdered_string : own F_slices_pdqsortOrdered_string = false := rfl
@[simp] theorem retOwn_slices_pdqsortOrdered_string : retOwn F_slices_pdqsortOrdered_string = false := rfl
@[simp] theorem own_delegate_Grant_live : own F_delegate_Grant_live = false := rfl
@[simp] theorem retOwn_delegate_Grant_live : retOwn F_delegate_Grant_live = false := rfl
@[simp] theorem own_math_bits_Len32 : own F_math_bits_Len32 = false := rfl
@[simp] theorem retOwn_math_bits_Len32 : retOwn F_math_bits_Len32 = false := rfl
@[simp] theorem own_math_bits_Len64 : own F_math_bits_Len64 = false := rfl
@[simp] theorem retOwn_math_bits_Len64 : retOwn F_math_bits_Len64 = false := rfl
@[simp] theorem own_slices_insertionSortOrdered_string : own F_slices_insertionSortOrdered_string = false := rfl
@[simp] theorem retOwn_slices_insertionSortOrdered_string : retOwn F_slices_insertionSortOrdered_string = false := rfl
@[simp] theorem own_slices_heapSortOrdered_string : own F_slices_heapSortOrdered_string = false := rfl
@[simp] theorem retOwn_slices_heapSortOrdered_string : retOwn F_slices_heapSortOrdered_string = false := rfl
@[simp] theorem own_slices_breakPatternsOrdered_string : own F_slices_breakPatternsOrdered_string = false := rfl
@[simp] theorem retOwn_slices_breakPatternsOrdered_string : retOwn F_slices_breakPatternsOrdered_string = false := rfl
@[simp] theorem own_slices_choosePivotOrdered_string : own F_slices_choosePivotOrdered_string = false := rfl
@[simp] theorem retOwn_slices_choosePivotOrdered_string : retOwn F_slices_choosePivotOrdered_string = false := rfl
@[simp] theorem own_slices_reverseRangeOrdered_string : own F_slices_reverseRangeOrdered_string = false := rfl
@[simp] theorem retOwn_slices_reverseRangeOrdered_string : retOwn F_slices_reverseRangeOrdered_string = false := rfl
@[simp] theorem own_slices_partialInsertionSortOrdered_string : own F_slices_partialInsertionSortOrdered_string = false := rfl
@[simp] theorem retOwn_slices_partialInsertionSortOrdered_string : retOwn F_slices_partialInsertionSortOrdered_string = false := rfl
@[simp] theorem own_cmp_Less_string : own F_cmp_Less_string = false := rfl
@[simp] theorem retOwn_cmp_Less_string : retOwn F_cmp_Less_string = false := rfl
@[simp] theorem own_slices_partitionEqualOrdered_string : own F_slices_partitionEqualOrdered_string = false := rfl
@[simp] theorem retOwn_slices_partitionEqualOrdered_string : retOwn F_slices_partitionEqualOrdered_string = false := rfl
@[simp] theorem own_slices_partitionOrdered_string : own F_slices_partitionOrdered_string = false := rfl
@[simp] theorem retOwn_slices_partitionOrdered_string : retOwn F_slices_partitionOrdered_string = false := rfl
@[simp] theorem own_slices_siftDownOrdered_string : own F_slices_siftDownOrdered_string = false := rfl
@[simp] theorem retOwn_slices_siftDownOrdered_string : retOwn F_slices_siftDownOrdered_string = false := rfl
@[simp] theorem own_slices_nextPowerOfTwo : own F_slices_nextPowerOfTwo = false := rfl
@[simp] theorem retOwn_slices_nextPowerOfTwo : retOwn F_slices_nextPowerOfTwo = false := rfl
@[simp] theorem own_slices_xorshift_Next : own F_slices_xorshift_Next = false := rfl
@[simp] theorem retOwn_slices_xorshift_Next : retOwn F_slices_xorshift_Next = false := rfl
@[simp] theorem own_slices_medianAdjacentOrdered_string : own F_slices_medianAdjacentOrdered_string = false := rfl
@[simp] theorem retOwn_slices_medianAdjacentOrdered_string : retOwn F_slices_medianAdjacentOrdered_string = false := rfl
@[simp] theorem own_slices_medianOrdered_string : own F_slices_medianOrdered_string = false := rfl
@[simp] theorem retOwn_slices_medianOrdered_string : retOwn F_slices_medianOrdered_string = false := rfl
@[simp] theorem own_cmp_isNaN_string : own F_cmp_isNaN_string = false := rfl
@[simp] theorem retOwn_cmp_isNaN_string : retOwn F_cmp_isNaN_string = false := rfl
@[simp] theorem own_slices_order2Ordered_string : own F_slices_order2Ordered_string = false := rfl
@[simp] theorem retOwn_slices_order2Ordered_string : retOwn F_slices_order2Ordered_string = false := rfl
end Bz.S
