/- Which functions are handed slices of the caller's own, and which hand out their own. -/
import Derived.Test.YtkokmockakgjaaaBz3
import Derived.Test.YtkokmockakgjaaaCode0
set_option linter.unusedSimpArgs false
set_option linter.unusedVariables false
namespace Bz.S
open Go Bz
def own : Nat → Bool := fun f => [F_slices_Sort_string_string, F_slices_IndexFunc_string_string].contains f
def retOwn : Nat → Bool := fun f => [F_wall_Wall_Seen].contains f
def F_internal_bytealg_IndexByteString : Nat := 999999999
def ext1 : Callee := extOr (extSort F_slices_Sort_string_string) (extOr (extClone F_maps_Clone_map_string_wall_class_string_wall_class) (extOr (extClone F_maps_Clone_map_wall_sight_int_wall_sight_int) (extNone)))
def ext1L : List Nat := [F_slices_Sort_string_string, F_maps_Clone_map_string_wall_class_string_wall_class, F_maps_Clone_map_wall_sight_int_wall_sight_int]
theorem ext1_none {f : Nat} {args : List AV} {H : Heap} (hf : ext1L.contains f = false) : ext1 f args H = none := by
  simp only [ext1L, List.contains_cons, List.contains_nil, Bool.or_eq_false_iff, beq_eq_false_iff_ne, ne_eq] at hf
  obtain ⟨h0, h1, h2, _⟩ := hf
  exact extOr_none (extSort_none h0) (extOr_none (extClone_none h1) (extOr_none (extClone_none h2) (rfl)))
theorem ext1_slices_Sort_string_string {args : List AV} {H : Heap} {r : AV × Heap} (h : (extSort F_slices_Sort_string_string) F_slices_Sort_string_string args H = some r) : ext1 F_slices_Sort_string_string args H = some r := extOr_l h
theorem ext1_maps_Clone_map_string_wall_class_string_wall_class {args : List AV} {H : Heap} {r : AV × Heap} (h : (extClone F_maps_Clone_map_string_wall_class_string_wall_class) F_maps_Clone_map_string_wall_class_string_wall_class args H = some r) : ext1 F_maps_Clone_map_string_wall_class_string_wall_class args H = some r := extOr_r (extSort_none (by decide)) (extOr_l h)
theorem ext1_maps_Clone_map_wall_sight_int_wall_sight_int {args : List AV} {H : Heap} {r : AV × Heap} (h : (extClone F_maps_Clone_map_wall_sight_int_wall_sight_int) F_maps_Clone_map_wall_sight_int_wall_sight_int args H = some r) : ext1 F_maps_Clone_map_wall_sight_int_wall_sight_int args H = some r := extOr_r (extSort_none (by decide)) (extOr_r (extClone_none (by decide)) (extOr_l h))
noncomputable abbrev X1 : Ctx := XL own retOwn ext1 code
noncomputable abbrev R1 : Callee := RUN own retOwn ext1 code
noncomputable def ext2 : Callee := extOr ext1 (extRange X1 F_wall_Wall_Seen rcode_wall_Wall_Seen)
def ext2L : List Nat := [F_slices_Sort_string_string, F_maps_Clone_map_string_wall_class_string_wall_class, F_maps_Clone_map_wall_sight_int_wall_sight_int, F_wall_Wall_Seen]
theorem ext2_none {f : Nat} {args : List AV} {H : Heap} (hf : ext2L.contains f = false) : ext2 f args H = none := by
  simp only [ext2L, List.contains_cons, List.contains_nil, Bool.or_eq_false_iff, beq_eq_false_iff_ne, ne_eq] at hf
  obtain ⟨h0, h1, h2, h3, _⟩ := hf
  exact extOr_none (extOr_none (extSort_none h0) (extOr_none (extClone_none h1) (extOr_none (extClone_none h2) (rfl)))) (extRange_none h3)
theorem ext2_slices_Sort_string_string {args : List AV} {H : Heap} {r : AV × Heap} (h : (extSort F_slices_Sort_string_string) F_slices_Sort_string_string args H = some r) : ext2 F_slices_Sort_string_string args H = some r := extOr_l (ext1_slices_Sort_string_string h)
theorem ext2_maps_Clone_map_string_wall_class_string_wall_class {args : List AV} {H : Heap} {r : AV × Heap} (h : (extClone F_maps_Clone_map_string_wall_class_string_wall_class) F_maps_Clone_map_string_wall_class_string_wall_class args H = some r) : ext2 F_maps_Clone_map_string_wall_class_string_wall_class args H = some r := extOr_l (ext1_maps_Clone_map_string_wall_class_string_wall_class h)
theorem ext2_maps_Clone_map_wall_sight_int_wall_sight_int {args : List AV} {H : Heap} {r : AV × Heap} (h : (extClone F_maps_Clone_map_wall_sight_int_wall_sight_int) F_maps_Clone_map_wall_sight_int_wall_sight_int args H = some r) : ext2 F_maps_Clone_map_wall_sight_int_wall_sight_int args H = some r := extOr_l (ext1_maps_Clone_map_wall_sight_int_wall_sight_int h)
theorem ext2_wall_Wall_Seen {args : List AV} {H : Heap} {r : AV × Heap} (h : aw X1 rcode_wall_Wall_Seen.body (start rcode_wall_Wall_Seen.ntmps args H) fun e s => finish X1 F_wall_Wall_Seen rcode_wall_Wall_Seen.results H (some (e, s)) = some r) : ext2 F_wall_Wall_Seen args H = some r := extOr_r (ext1_none (by decide)) (extRange_of h)
theorem R1_R2 {f : Nat} {args : List AV} {H : Heap} {r : AV × Heap} (h : R1 f args H = some r) : RUN own retOwn ext2 code f args H = some r :=
  RUN_ext_mono (f := F_wall_Wall_Seen) (fun g hg => by funext args H; show _ = extOr ext1 (extRange X1 F_wall_Wall_Seen rcode_wall_Wall_Seen) g args H; unfold extOr; cases ext1 g args H <;> simp [extRange_none hg]) (by funext args H; exact ext1_none (by decide)) (by kernel_rfl) _ _ _ _ h
theorem R1_of {f : Nat} {fn : AFunc} {args : List AV} {H : Heap} {r : AV × Heap} (hc : code f = some fn) (hf : ext1L.contains f = false) (h : finish X1 f fn.results H (exL X1 fn.body (start fn.ntmps args H)) = some r) : R1 f args H = some r := RUN_of own retOwn ext1 code (ext1_none hf) hc h
theorem R1_ext {f : Nat} {args : List AV} {H : Heap} {r : AV × Heap} (h : ext1 f args H = some r) : R1 f args H = some r := RUN_ext own retOwn ext1 code h
@[simp] theorem XC1 : (XL own retOwn ext1 code).C = R1 := rfl
noncomputable abbrev X2 : Ctx := XL own retOwn ext2 code
noncomputable abbrev R2 : Callee := RUN own retOwn ext2 code
noncomputable def ext : Callee := extOr ext2 (extRange X2 F_wall_Wall_See rcode_wall_Wall_See)
def extL : List Nat := [F_slices_Sort_string_string, F_maps_Clone_map_string_wall_class_string_wall_class, F_maps_Clone_map_wall_sight_int_wall_sight_int, F_wall_Wall_Seen, F_wall_Wall_See]
theorem ext_none {f : Nat} {args : List AV} {H : Heap} (hf : extL.contains f = false) : ext f args H = none := by
  simp only [extL, List.contains_cons, List.contains_nil, Bool.or_eq_false_iff, beq_eq_false_iff_ne, ne_eq] at hf
  obtain ⟨h0, h1, h2, h3, h4, _⟩ := hf
  exact extOr_none (extOr_none (extOr_none (extSort_none h0) (extOr_none (extClone_none h1) (extOr_none (extClone_none h2) (rfl)))) (extRange_none h3)) (extRange_none h4)
theorem ext_slices_Sort_string_string {args : List AV} {H : Heap} {r : AV × Heap} (h : (extSort F_slices_Sort_string_string) F_slices_Sort_string_string args H = some r) : ext F_slices_Sort_string_string args H = some r := extOr_l (ext2_slices_Sort_string_string h)
theorem ext_maps_Clone_map_string_wall_class_string_wall_class {args : List AV} {H : Heap} {r : AV × Heap} (h : (extClone F_maps_Clone_map_string_wall_class_string_wall_class) F_maps_Clone_map_string_wall_class_string_wall_class args H = some r) : ext F_maps_Clone_map_string_wall_class_string_wall_class args H = some r := extOr_l (ext2_maps_Clone_map_string_wall_class_string_wall_class h)
theorem ext_maps_Clone_map_wall_sight_int_wall_sight_int {args : List AV} {H : Heap} {r : AV × Heap} (h : (extClone F_maps_Clone_map_wall_sight_int_wall_sight_int) F_maps_Clone_map_wall_sight_int_wall_sight_int args H = some r) : ext F_maps_Clone_map_wall_sight_int_wall_sight_int args H = some r := extOr_l (ext2_maps_Clone_map_wall_sight_int_wall_sight_int h)
theorem ext_wall_Wall_Seen {args : List AV} {H : Heap} {r : AV × Heap} (h : ext2 F_wall_Wall_Seen args H = some r) : ext F_wall_Wall_Seen args H = some r := extOr_l h
theorem ext_wall_Wall_See {args : List AV} {H : Heap} {r : AV × Heap} (h : aw X2 rcode_wall_Wall_See.body (start rcode_wall_Wall_See.ntmps args H) fun e s => finish X2 F_wall_Wall_See rcode_wall_Wall_See.results H (some (e, s)) = some r) : ext F_wall_Wall_See args H = some r := extOr_r (ext2_none (by decide)) (extRange_of h)
theorem R2_R {f : Nat} {args : List AV} {H : Heap} {r : AV × Heap} (h : R2 f args H = some r) : RUN own retOwn ext code f args H = some r :=
  RUN_ext_mono (f := F_wall_Wall_See) (fun g hg => by funext args H; show _ = extOr ext2 (extRange X2 F_wall_Wall_See rcode_wall_Wall_See) g args H; unfold extOr; cases ext2 g args H <;> simp [extRange_none hg]) (by funext args H; exact ext2_none (by decide)) (by kernel_rfl) _ _ _ _ h
theorem R2_of {f : Nat} {fn : AFunc} {args : List AV} {H : Heap} {r : AV × Heap} (hc : code f = some fn) (hf : ext2L.contains f = false) (h : finish X2 f fn.results H (exL X2 fn.body (start fn.ntmps args H)) = some r) : R2 f args H = some r := RUN_of own retOwn ext2 code (ext2_none hf) hc h
theorem R2_ext {f : Nat} {args : List AV} {H : Heap} {r : AV × Heap} (h : ext2 f args H = some r) : R2 f args H = some r := RUN_ext own retOwn ext2 code h
@[simp] theorem XC2 : (XL own retOwn ext2 code).C = R2 := rfl
@[simp] theorem own_law33_WallRuns : own F_law33_WallRuns = false := rfl
@[simp] theorem retOwn_law33_WallRuns : retOwn F_law33_WallRuns = false := rfl
@[simp] theorem own_law33_WallNever : own F_law33_WallNever = false := rfl
@[simp] theorem retOwn_law33_WallNever : retOwn F_law33_WallNever = false := rfl
@[simp] theorem own_law33_WallKeeps : own F_law33_WallKeeps = false := rfl
@[simp] theorem retOwn_law33_WallKeeps : retOwn F_law33_WallKeeps = false := rfl
@[simp] theorem own_law33_WallClones : own F_law33_WallClones = false := rfl
@[simp] theorem retOwn_law33_WallClones : retOwn F_law33_WallClones = false := rfl
@[simp] theorem own_law33_alive : own F_law33_alive = false := rfl
@[simp] theorem retOwn_law33_alive : retOwn F_law33_alive = false := rfl
@[simp] theorem own_wall_New : own F_wall_New = false := rfl
@[simp] theorem retOwn_wall_New : retOwn F_wall_New = false := rfl
@[simp] theorem own_law33_few : own F_law33_few = false := rfl
@[simp] theorem retOwn_law33_few : retOwn F_law33_few = false := rfl
@[simp] theorem own_law33_run : own F_law33_run = false := rfl
@[simp] theorem retOwn_law33_run : retOwn F_law33_run = false := rfl
@[simp] theorem own_wall_Wall_Forget : own F_wall_Wall_Forget = false := rfl
@[simp] theorem retOwn_wall_Wall_Forget : retOwn F_wall_Wall_Forget = false := rfl
@[simp] theorem own_wall_Wall_See : own F_wall_Wall_See = false := rfl
@[simp] theorem retOwn_wall_Wall_See : retOwn F_wall_Wall_See = false := rfl
@[simp] theorem own_wall_Wall_Seen : own F_wall_Wall_Seen = false := rfl
@[simp] theorem retOwn_wall_Wall_Seen : retOwn F_wall_Wall_Seen = true := rfl
@[simp] theorem own_law33_clash : own F_law33_clash = false := rfl
@[simp] theorem retOwn_law33_clash : retOwn F_law33_clash = false := rfl
@[simp] theorem own_wall_Wall_Leak : own F_wall_Wall_Leak = false := rfl
@[simp] theorem retOwn_wall_Wall_Leak : retOwn F_wall_Wall_Leak = false := rfl
@[simp] theorem own_wall_Wall_May : own F_wall_Wall_May = false := rfl
@[simp] theorem retOwn_wall_Wall_May : retOwn F_wall_Wall_May = false := rfl
@[simp] theorem own_law33_foes : own F_law33_foes = false := rfl
@[simp] theorem retOwn_law33_foes : retOwn F_law33_foes = false := rfl
@[simp] theorem own_wall_Wall_Clone : own F_wall_Wall_Clone = false := rfl
@[simp] theorem retOwn_wall_Wall_Clone : retOwn F_wall_Wall_Clone = false := rfl
@[simp] theorem own_law33_step : own F_law33_step = false := rfl
@[simp] theorem retOwn_law33_step : retOwn F_law33_step = false := rfl
@[simp] theorem own_wall_Wall_is : own F_wall_Wall_is = false := rfl
@[simp] theorem retOwn_wall_Wall_is : retOwn F_wall_Wall_is = false := rfl
@[simp] theorem own_slices_Sort_string_string : own F_slices_Sort_string_string = true := rfl
@[simp] theorem retOwn_slices_Sort_string_string : retOwn F_slices_Sort_string_string = false := rfl
@[simp] theorem own_wall_Wall_Leak_1 : own F_wall_Wall_Leak_1 = false := rfl
@[simp] theorem retOwn_wall_Wall_Leak_1 : retOwn F_wall_Wall_Leak_1 = false := rfl
@[simp] theorem own_slices_ContainsFunc_string_string : own F_slices_ContainsFunc_string_string = false := rfl
@[simp] theorem retOwn_slices_ContainsFunc_string_string : retOwn F_slices_ContainsFunc_string_string = false := rfl
@[simp] theorem own_wall_Wall_May_1 : own F_wall_Wall_May_1 = false := rfl
@[simp] theorem retOwn_wall_Wall_May_1 : retOwn F_wall_Wall_May_1 = false := rfl
@[simp] theorem own_law33_class : own F_law33_class = false := rfl
@[simp] theorem retOwn_law33_class : retOwn F_law33_class = false := rfl
@[simp] theorem own_maps_Clone_map_string_wall_class_string_wall_class : own F_maps_Clone_map_string_wall_class_string_wall_class = false := rfl
@[simp] theorem retOwn_maps_Clone_map_string_wall_class_string_wall_class : retOwn F_maps_Clone_map_string_wall_class_string_wall_class = false := rfl
@[simp] theorem own_maps_Clone_map_wall_sight_int_wall_sight_int : own F_maps_Clone_map_wall_sight_int_wall_sight_int = false := rfl
@[simp] theorem retOwn_maps_Clone_map_wall_sight_int_wall_sight_int : retOwn F_maps_Clone_map_wall_sight_int_wall_sight_int = false := rfl
@[simp] theorem own_law33_may : own F_law33_may = false := rfl
@[simp] theorem retOwn_law33_may : retOwn F_law33_may = false := rfl
@[simp] theorem own_law33_of : own F_law33_of = false := rfl
@[simp] theorem retOwn_law33_of : retOwn F_law33_of = false := rfl
@[simp] theorem own_plain_Texts : own F_plain_Texts = false := rfl
@[simp] theorem retOwn_plain_Texts : retOwn F_plain_Texts = false := rfl
@[simp] theorem own_math_bits_Len : own F_math_bits_Len = false := rfl
@[simp] theorem retOwn_math_bits_Len : retOwn F_math_bits_Len = false := rfl
@[simp] theorem own_slices_pdqsortOrdered_string : own F_slices_pdqsortOrdered_string = false := rfl
@[simp] theorem retOwn_slices_pdqsortOrdered_string : retOwn F_slices_pdqsortOrdered_string = false := rfl
@[simp] theorem own_wall_Wall_foes : own F_wall_Wall_foes = false := rfl
@[simp] theorem retOwn_wall_Wall_foes : retOwn F_wall_Wall_foes = false := rfl
@[simp] theorem own_slices_IndexFunc_string_string : own F_slices_IndexFunc_string_string = true := rfl
@[simp] theorem retOwn_slices_IndexFunc_string_string : retOwn F_slices_IndexFunc_string_string = false := rfl
@[simp] theorem own_plain_Rising : own F_plain_Rising = false := rfl
@[simp] theorem retOwn_plain_Rising : retOwn F_plain_Rising = false := rfl
@[simp] theorem own_math_bits_Len32 : own F_math_bits_Len32 = false := rfl
@[simp] theorem retOwn_math_bits_Len32 : retOwn F_math_bits_Len32 = false := rfl
@[simp] theorem own_math_bits_Len64 : own F_math_bits_Len64 = false := rfl
@[simp] theorem retOwn_math_bits_Len64 : retOwn F_math_bits_Len64 = false := rfl
@[simp] theorem own_slices_insertionSortOrdered_string : own F_slices_insertionSortOrdered_string = false := rfl
@[simp] theorem retOwn_slices_insertionSortOrdered_string : retOwn F_slices_insertionSortOrdered_string = false := rfl
@[simp] theorem own_slices_heapSortOrdered_string : own F_slices_heapSortOrdered_string = false := rfl
@[simp] theorem retOwn_slices_heapSortOrdered_string : retOwn F_slices_heapSortOrdered_string = false := rfl
@[simp] theorem own_slices_breakPatternsOrdered_string : own F_slices_breakPatternsOrdered_string = false := rfl
@[simp] theorem retOwn_slices_breakPatternsOrdered_string : retOwn F_slices_breakPatternsOrdered_string = false := rfl
@[simp] theorem own_slices_choosePivotOrdered_string : own F_slices_choosePivotOrdered_string = false := rfl
@[simp] theorem retOwn_slices_choosePivotOrdered_string : retOwn F_slices_choosePivotOrdered_string = false := rfl
@[simp] theorem own_slices_reverseRangeOrdered_string : own F_slices_reverseRangeOrdered_string = false := rfl
@[simp] theorem retOwn_slices_reverseRangeOrdered_string : retOwn F_slices_reverseRangeOrdered_string = false := rfl
@[simp] theorem own_slices_partialInsertionSortOrdered_string : own F_slices_partialInsertionSortOrdered_string = false := rfl
@[simp] theorem retOwn_slices_partialInsertionSortOrdered_string : retOwn F_slices_partialInsertionSortOrdered_string = false := rfl
@[simp] theorem own_cmp_Less_string : own F_cmp_Less_string = false := rfl
@[simp] theorem retOwn_cmp_Less_string : retOwn F_cmp_Less_string = false := rfl
@[simp] theorem own_slices_partitionEqualOrdered_string : own F_slices_partitionEqualOrdered_string = false := rfl
@[simp] theorem retOwn_slices_partitionEqualOrdered_string : retOwn F_slices_partitionEqualOrdered_string = false := rfl
@[simp] theorem own_slices_partitionOrdered_string : own F_slices_partitionOrdered_string = false := rfl
@[simp] theorem retOwn_slices_partitionOrdered_string : retOwn F_slices_partitionOrdered_string = false := rfl
@[simp] theorem own_plain_In : own F_plain_In = false := rfl
@[simp] theorem retOwn_plain_In : retOwn F_plain_In = false := rfl
@[simp] theorem own_slices_siftDownOrdered_string : own F_slices_siftDownOrdered_string = false := rfl
@[simp] theorem retOwn_slices_siftDownOrdered_string : retOwn F_slices_siftDownOrdered_string = false := rfl
@[simp] theorem own_slices_nextPowerOfTwo : own F_slices_nextPowerOfTwo = false := rfl
@[simp] theorem retOwn_slices_nextPowerOfTwo : retOwn F_slices_nextPowerOfTwo = false := rfl
@[simp] theorem own_slices_xorshift_Next : own F_slices_xorshift_Next = false := rfl
@[simp] theorem retOwn_slices_xorshift_Next : retOwn F_slices_xorshift_Next = false := rfl
@[simp] theorem own_slices_medianAdjacentOrdered_string : own F_slices_medianAdjacentOrdered_string = false := rfl
@[simp] theorem retOwn_slices_medianAdjacentOrdered_string : retOwn F_slices_medianAdjacentOrdered_string = false := rfl
@[simp] theorem own_slices_medianOrdered_string : own F_slices_medianOrdered_string = false := rfl
@[simp] theorem retOwn_slices_medianOrdered_string : retOwn F_slices_medianOrdered_string = false := rfl
@[simp] theorem own_cmp_isNaN_string : own F_cmp_isNaN_string = false := rfl
@[simp] theorem retOwn_cmp_isNaN_string : retOwn F_cmp_isNaN_string = false := rfl
@[simp] theorem own_slices_order2Ordered_string : own F_slices_order2Ordered_string = false := rfl
@[simp] theorem retOwn_slices_order2Ordered_string : retOwn F_slices_order2Ordered_string = false := rfl
end Bz.S
