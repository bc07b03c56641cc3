/- The code of functions, as the clean machine reads it (printed by a program of ours out of the seat's translation). -/
import Derived.Test.YtjnbdnabdinpeaaBz0
import Derived.KernelRfl
set_option linter.unusedSimpArgs false
set_option linter.unusedVariables false
set_option maxRecDepth 100000
namespace Bz.S
open Go Bz
def F_law31_RolesReaches : Nat := 3
def F_law31_RolesChecks : Nat := 4
def F_law31_RolesLevels : Nat := 5
def F_law31_RolesReduces : Nat := 6
def F_law31_alive : Nat := 7
def F_law31_few : Nat := 8
def F_law31_reach : Nat := 9
def F_roles_Reach : Nat := 11
def F_plain_Rising : Nat := 12
def F_plain_Texts : Nat := 10
def F_roles_Has : Nat := 13
def F_plain_In : Nat := 14
def F_roles_Check : Nat := 15
def F_law31_check : Nat := 16
def F_roles_Tops : Nat := 17
def F_law31_ring : Nat := 18
def F_roles_Level : Nat := 19
def F_roles_Reduce : Nat := 20
def F_law31_without : Nat := 21
def F_roles_ups : Nat := 22
def F_slices_Contains_string_string : Nat := 23
def F_slices_Sort_string_string : Nat := 24
def F_slices_ContainsFunc_roles_Pair_roles_Pair : Nat := 25
def F_roles_Check_1 : Nat := 26
def F_roles_ring : Nat := 28
def F_ref06_Name : Nat := 29
def F_roles_names : Nat := 31
def F_roles_Tops_1 : Nat := 32
def F_slices_DeleteFunc_string_string : Nat := 30
def F_roles_level : Nat := 33
def F_slices_Clone_roles_Pair_roles_Pair : Nat := 34
def F_roles_Reduce_1 : Nat := 36
def F_slices_DeleteFunc_roles_Pair_roles_Pair : Nat := 35
def F_slices_SortFunc_roles_Pair_roles_Pair : Nat := 38
def F_roles_Reduce_2 : Nat := 39
def F_slices_Compact_roles_Pair_roles_Pair : Nat := 42
def F_slices_Index_string_string : Nat := 43
def F_math_bits_Len : Nat := 45
def F_slices_pdqsortOrdered_string : Nat := 44
def F_slices_IndexFunc_roles_Pair_roles_Pair : Nat := 46
def F_lex_Name : Nat := 27
def F_roles_ring_1 : Nat := 49
def F_ref06_head : Nat := 50
def F_ref06_tail : Nat := 51
def F_slices_Compact_string_string : Nat := 53
def F_slices_IndexFunc_string_string : Nat := 52
def F_roles_long : Nat := 37
def F_slices_pdqsortCmpFunc_roles_Pair : Nat := 56
def F_cmp_Compare_string : Nat := 41
def F_cmp_Or_int : Nat := 40
def F_math_bits_Len32 : Nat := 67
def F_math_bits_Len64 : Nat := 68
def F_slices_insertionSortOrdered_string : Nat := 58
def F_slices_heapSortOrdered_string : Nat := 59
def F_slices_breakPatternsOrdered_string : Nat := 60
def F_slices_choosePivotOrdered_string : Nat := 61
def F_slices_reverseRangeOrdered_string : Nat := 62
def F_slices_partialInsertionSortOrdered_string : Nat := 63
def F_cmp_Less_string : Nat := 64
def F_slices_partitionEqualOrdered_string : Nat := 65
def F_slices_partitionOrdered_string : Nat := 66
def F_lex_letter : Nat := 47
def F_lex_digit : Nat := 48
def F_roles_long_1 : Nat := 55
def F_slices_ContainsFunc_string_string : Nat := 54
def F_slices_insertionSortCmpFunc_roles_Pair : Nat := 69
def F_slices_heapSortCmpFunc_roles_Pair : Nat := 70
def F_slices_breakPatternsCmpFunc_roles_Pair : Nat := 71
def F_slices_choosePivotCmpFunc_roles_Pair : Nat := 72
def F_slices_reverseRangeCmpFunc_roles_Pair : Nat := 73
def F_slices_partialInsertionSortCmpFunc_roles_Pair : Nat := 74
def F_slices_partitionEqualCmpFunc_roles_Pair : Nat := 75
def F_slices_partitionCmpFunc_roles_Pair : Nat := 76
def F_cmp_isNaN_string : Nat := 57
def F_slices_siftDownOrdered_string : Nat := 77
def F_slices_nextPowerOfTwo : Nat := 78
def F_slices_xorshift_Next : Nat := 79
def F_slices_medianAdjacentOrdered_string : Nat := 80
def F_slices_medianOrdered_string : Nat := 81
def F_slices_siftDownCmpFunc_roles_Pair : Nat := 82
def F_slices_medianAdjacentCmpFunc_roles_Pair : Nat := 83
def F_slices_medianCmpFunc_roles_Pair : Nat := 84
def F_slices_order2Ordered_string : Nat := 85
def F_slices_order2CmpFunc_roles_Pair : Nat := 86
/-- beadle/beadlelaw31.RolesReaches -/
def code_law31_RolesReaches : AFunc := ⟨31, [.tmp 6],
  .seq (.region 0 [
    ⟨(some 6), .mov (.c (.d (.bool false))), none, []⟩] false)
  (.seq (.seq (.region 1 [
    ⟨(some 8), .call (.c (.fn F_law31_alive [])) [], none, []⟩,
    ⟨(some 9), .un .not (.t 8), none, []⟩] false)
  (.cond (.t 9)
    (.seq (.region 2 [
      ⟨(some 6), .mov (.c (.d (.bool false))), none, []⟩] false)
    (.mask ⟨[6], []⟩ (.ret)))
    (.skip)))
  (.mask ⟨[0, 1, 2], []⟩ (.seq (.region 3 [
    ⟨(some 10), .mov (.t 0), none, []⟩,
    ⟨(some 11), .call (.c (.fn F_law31_few [])) [(.t 10)], none, []⟩,
    ⟨(some 0), .mov (.t 11), none, []⟩] false)
  (.seq (.region 4 [
    ⟨(some 12), .mov (.t 0), none, []⟩,
    ⟨(some 13), .mov (.t 1), none, []⟩,
    ⟨(some 14), .call (.c (.fn F_law31_reach [])) [(.t 12), (.t 13)], none, []⟩,
    ⟨(some 7), .mov (.t 14), none, []⟩] false)
  (.seq (.region 5 [
    ⟨(some 15), .mov (.t 0), none, []⟩,
    ⟨(some 16), .mov (.t 1), none, []⟩,
    ⟨(some 17), .call (.c (.fn F_roles_Reach [])) [(.t 15), (.t 16)], none, []⟩,
    ⟨(some 18), .mov (.t 7), none, []⟩,
    ⟨(some 19), .call (.c (.fn F_plain_Rising [])) [(.t 18)], none, []⟩,
    ⟨(some 20), .call (.c (.fn F_plain_Texts [])) [(.t 17), (.t 19)], none, []⟩,
    ⟨(some 21), .mov (.t 20), none, []⟩,
    ⟨(some 22), .mov (.t 0), (some (21, true)), []⟩,
    ⟨(some 23), .mov (.t 1), (some (21, true)), []⟩,
    ⟨(some 24), .mov (.t 2), (some (21, true)), []⟩,
    ⟨(some 25), .call (.c (.fn F_roles_Has [])) [(.t 22), (.t 23), (.t 24)], (some (21, true)), []⟩,
    ⟨(some 26), .mov (.t 7), (some (21, true)), []⟩,
    ⟨(some 27), .mov (.t 2), (some (21, true)), []⟩,
    ⟨(some 28), .call (.c (.fn F_plain_In [])) [(.t 26), (.t 27)], (some (21, true)), []⟩,
    ⟨(some 29), .binb false (.t 25) (.t 28), (some (21, true)), []⟩,
    ⟨(some 30), .pick (.t 21) (.t 29) (.c (.d (.bool false))), none, []⟩,
    ⟨(some 6), .mov (.t 30), none, []⟩] false)
  (.mask ⟨[6], []⟩ (.ret)))))))⟩
def mask_law31_RolesChecks_0 : Mask := ⟨[0, 3, 4, 5], [.slot 3 10000030 1, .slot 4 10000040 1]⟩
def body_law31_RolesChecks_0 : ACode :=
  .seq (.seq (.region 7 [
    ⟨(some 16), .mov (.t 5), none, []⟩,
    ⟨(some 17), .mov (.t 0), none, []⟩,
    ⟨(some 18), .len .sl (.t 17), none, []⟩,
    ⟨(some 19), .bin .lss (.t 16) (.t 18), none, []⟩] false)
  (.cond (.t 19)
    (.skip)
    (.mask ⟨[0, 3, 4], [.slot 3 10000030 1, .slot 4 10000040 1]⟩ (.exit 0))))
  (.mask ⟨[0, 3, 4, 5], [.slot 3 10000030 1, .slot 4 10000040 1]⟩ (.seq (.block 1 (.seq (.region 9 [
    ⟨(some 22), .mov (.t 3), none, []⟩,
    ⟨(some 23), .mov (.t 0), none, []⟩,
    ⟨(some 24), .mov (.t 5), none, []⟩,
    ⟨(some 25), .iaddr 2 (.t 23) (.t 24), none, []⟩,
    ⟨(some 26), .faddr 0 (.t 25), none, []⟩,
    ⟨(some 27), .load 1 false (.t 26), none, []⟩,
    ⟨(some 28), .buildSl 1 [(.str [])] 1 [(0, (.t 27))], none, []⟩,
    ⟨(some 29), .append 1 (.t 22) (.t 28), none, []⟩,
    ⟨(some 3), .mov (.t 29), none, []⟩] false)
  (.region 10 [
    ⟨(some 30), .mov (.t 4), none, []⟩,
    ⟨(some 31), .mov (.t 0), none, []⟩,
    ⟨(some 32), .mov (.t 5), none, []⟩,
    ⟨(some 33), .iaddr 2 (.t 31) (.t 32), none, [1, 2]⟩,
    ⟨(some 34), .faddr 0 (.t 33), none, [1, 2, 3]⟩,
    ⟨(some 35), .load 1 false (.t 34), none, [1, 2, 3, 4]⟩,
    ⟨(some 36), .mov (.t 0), none, []⟩,
    ⟨(some 37), .mov (.t 5), none, []⟩,
    ⟨(some 38), .iaddr 2 (.t 36) (.t 37), none, [6, 7]⟩,
    ⟨(some 39), .faddr 1 (.t 38), none, [6, 7, 8]⟩,
    ⟨(some 40), .load 1 false (.t 39), none, [6, 7, 8, 9]⟩,
    ⟨(some 41), .buildSl 1 [(.str [])] 2 [(0, (.t 35)), (1, (.t 40))], none, [1, 2, 3, 4, 5, 6, 7, 8, 9, 10]⟩,
    ⟨(some 42), .append 1 (.t 30) (.t 41), none, [0, 1, 2, 3, 4, 5, 6, 7, 8, 9, 10, 11]⟩,
    ⟨(some 4), .mov (.t 42), none, [0, 1, 2, 3, 4, 5, 6, 7, 8, 9, 10, 11, 12]⟩] true)))
  (.mask ⟨[0, 3, 4, 5], [.slot 3 10000030 1, .slot 4 10000040 1]⟩ (.region 8 [
    ⟨(some 20), .mov (.t 5), none, []⟩,
    ⟨(some 21), .bin .add (.t 20) (.c (.d (.int .i64 (1)))), none, []⟩,
    ⟨(some 5), .mov (.t 21), none, []⟩] false))))
def mask_law31_RolesChecks_1 : Mask := ⟨[0, 3, 4, 6, 7], [.slot 3 10000030 1, .slot 4 10000040 1, .slot 6 10000060 1]⟩
def body_law31_RolesChecks_1 : ACode :=
  .seq (.seq (.region 14 [
    ⟨(some 45), .mov (.t 7), none, []⟩,
    ⟨(some 46), .mov (.t 4), none, []⟩,
    ⟨(some 47), .len .sl (.t 46), none, []⟩,
    ⟨(some 48), .bin .lss (.t 45) (.t 47), none, []⟩] false)
  (.cond (.t 48)
    (.skip)
    (.mask ⟨[0, 6], [.slot 6 10000060 1]⟩ (.exit 2))))
  (.mask ⟨[0, 3, 4, 6, 7], [.slot 3 10000030 1, .slot 4 10000040 1, .slot 6 10000060 1]⟩ (.seq (.block 3 (.seq (.region 16 [
    ⟨(some 51), .mov (.t 3), none, []⟩,
    ⟨(some 52), .mov (.t 4), none, []⟩,
    ⟨(some 53), .mov (.t 7), none, []⟩,
    ⟨(some 54), .iaddr 1 (.t 52) (.t 53), none, []⟩,
    ⟨(some 55), .load 1 false (.t 54), none, []⟩,
    ⟨(some 56), .call (.c (.fn F_plain_In [])) [(.t 51), (.t 55)], none, []⟩,
    ⟨(some 57), .un .not (.t 56), none, []⟩] false)
  (.cond (.t 57)
    (.region 17 [
      ⟨(some 58), .mov (.t 6), none, []⟩,
      ⟨(some 59), .mov (.t 4), none, []⟩,
      ⟨(some 60), .mov (.t 7), none, []⟩,
      ⟨(some 61), .iaddr 1 (.t 59) (.t 60), none, []⟩,
      ⟨(some 62), .load 1 false (.t 61), none, []⟩,
      ⟨(some 63), .buildSl 1 [(.str [])] 1 [(0, (.t 62))], none, []⟩,
      ⟨(some 64), .append 1 (.t 58) (.t 63), none, []⟩,
      ⟨(some 6), .mov (.t 64), none, []⟩] false)
    (.skip))))
  (.mask ⟨[0, 3, 4, 6, 7], [.slot 3 10000030 1, .slot 4 10000040 1, .slot 6 10000060 1]⟩ (.region 15 [
    ⟨(some 49), .mov (.t 7), none, []⟩,
    ⟨(some 50), .bin .add (.t 49) (.c (.d (.int .i64 (1)))), none, []⟩,
    ⟨(some 7), .mov (.t 50), none, []⟩] false))))
/-- beadle/beadlelaw31.RolesChecks -/
def code_law31_RolesChecks : AFunc := ⟨76, [.tmp 2],
  .seq (.region 0 [
    ⟨(some 2), .mov (.c (.d (.bool false))), none, []⟩] false)
  (.seq (.seq (.region 1 [
    ⟨(some 8), .call (.c (.fn F_law31_alive [])) [], none, []⟩,
    ⟨(some 9), .un .not (.t 8), none, []⟩] false)
  (.cond (.t 9)
    (.seq (.region 2 [
      ⟨(some 2), .mov (.c (.d (.bool false))), none, []⟩] false)
    (.mask ⟨[2], []⟩ (.ret)))
    (.skip)))
  (.mask ⟨[0], []⟩ (.seq (.seq (.region 3 [
    ⟨(some 10), .mov (.t 0), none, []⟩,
    ⟨(some 11), .len .sl (.t 10), none, []⟩,
    ⟨(some 12), .bin .gtr (.t 11) (.c (.d (.int .i64 (64)))), none, []⟩] false)
  (.cond (.t 12)
    (.seq (.region 4 [
      ⟨(some 13), .mov (.t 0), none, []⟩,
      ⟨(some 14), .call (.c (.fn F_roles_Check [])) [(.t 13)], none, []⟩,
      ⟨(some 15), .bin .eql (.t 14) (.c (.d (.int .i64 (3)))), none, []⟩,
      ⟨(some 2), .mov (.t 15), none, []⟩] false)
    (.mask ⟨[2], []⟩ (.ret)))
    (.skip)))
  (.mask ⟨[0], []⟩ (.seq (.region 5 [
    ⟨(some 3), .mov (.c (.d (.vs true []))), none, []⟩,
    ⟨(some 4), .mov (.c (.d (.vs true []))), none, []⟩] false)
  (.seq (.seq (.region 6 [
    ⟨(some 5), .mov (.c (.d (.int .i64 (0)))), none, []⟩] false)
  (.block 0 (.loop mask_law31_RolesChecks_0 body_law31_RolesChecks_0)))
  (.mask ⟨[0, 3, 4], [.slot 3 10000030 1, .slot 4 10000040 1]⟩ (.seq (.region 11 [
    ⟨(some 43), .mov (.t 4), none, []⟩,
    ⟨(some 44), .call (.c (.fn F_plain_Rising [])) [(.t 43)], none, []⟩,
    ⟨(some 4), .mov (.t 44), none, []⟩] false)
  (.seq (.region 12 [
    ⟨(some 6), .mov (.c (.d (.vs true []))), none, []⟩] false)
  (.seq (.seq (.region 13 [
    ⟨(some 7), .mov (.c (.d (.int .i64 (0)))), none, []⟩] false)
  (.block 2 (.loop mask_law31_RolesChecks_1 body_law31_RolesChecks_1)))
  (.mask ⟨[0, 6], [.slot 6 10000060 1]⟩ (.seq (.region 18 [
    ⟨(some 65), .mov (.t 0), none, []⟩,
    ⟨(some 66), .call (.c (.fn F_roles_Check [])) [(.t 65)], none, []⟩,
    ⟨(some 67), .mov (.t 0), none, []⟩,
    ⟨(some 68), .call (.c (.fn F_law31_check [])) [(.t 67)], none, []⟩,
    ⟨(some 69), .bin .eql (.t 66) (.t 68), none, []⟩,
    ⟨(some 70), .mov (.t 69), none, []⟩,
    ⟨(some 71), .mov (.t 0), (some (70, true)), []⟩,
    ⟨(some 72), .call (.c (.fn F_roles_Tops [])) [(.t 71)], (some (70, true)), []⟩,
    ⟨(some 73), .mov (.t 6), (some (70, true)), []⟩,
    ⟨(some 74), .call (.c (.fn F_plain_Texts [])) [(.t 72), (.t 73)], (some (70, true)), []⟩,
    ⟨(some 75), .pick (.t 70) (.t 74) (.c (.d (.bool false))), none, []⟩,
    ⟨(some 2), .mov (.t 75), none, []⟩] false)
  (.mask ⟨[2], []⟩ (.ret))))))))))))))⟩
def mask_law31_RolesLevels_0 : Mask := ⟨[0, 1, 5, 6], []⟩
def body_law31_RolesLevels_0 : ACode :=
  .seq (.seq (.region 8 [
    ⟨(some 17), .mov (.t 6), none, []⟩,
    ⟨(some 18), .mov (.t 0), none, []⟩,
    ⟨(some 19), .len .sl (.t 18), none, []⟩,
    ⟨(some 20), .bin .lss (.t 17) (.t 19), none, []⟩] false)
  (.cond (.t 20)
    (.skip)
    (.mask ⟨[0, 1, 5], []⟩ (.exit 0))))
  (.mask ⟨[0, 1, 5, 6], []⟩ (.seq (.block 1 (.seq (.region 10 [
    ⟨(some 23), .mov (.t 0), none, []⟩,
    ⟨(some 24), .mov (.t 6), none, []⟩,
    ⟨(some 25), .iaddr 2 (.t 23) (.t 24), none, []⟩,
    ⟨(some 26), .faddr 0 (.t 25), none, []⟩,
    ⟨(some 27), .load 1 false (.t 26), none, []⟩,
    ⟨(some 28), .mov (.t 1), none, []⟩,
    ⟨(some 29), .bin .eql (.t 27) (.t 28), none, []⟩] false)
  (.cond (.t 29)
    (.region 11 [
      ⟨(some 30), .mov (.t 5), none, []⟩,
      ⟨(some 31), .mov (.t 0), none, []⟩,
      ⟨(some 32), .mov (.t 0), none, []⟩,
      ⟨(some 33), .mov (.t 6), none, []⟩,
      ⟨(some 34), .iaddr 2 (.t 32) (.t 33), none, []⟩,
      ⟨(some 35), .faddr 1 (.t 34), none, []⟩,
      ⟨(some 36), .load 1 false (.t 35), none, []⟩,
      ⟨(some 37), .call (.c (.fn F_roles_Level [])) [(.t 31), (.t 36)], none, []⟩,
      ⟨(some 38), .bin .add (.t 37) (.c (.d (.int .i64 (1)))), none, []⟩,
      ⟨(some 39), .best true [(.t 30), (.t 38)], none, []⟩,
      ⟨(some 5), .mov (.t 39), none, []⟩] false)
    (.skip))))
  (.mask ⟨[0, 1, 5, 6], []⟩ (.region 9 [
    ⟨(some 21), .mov (.t 6), none, []⟩,
    ⟨(some 22), .bin .add (.t 21) (.c (.d (.int .i64 (1)))), none, []⟩,
    ⟨(some 6), .mov (.t 22), none, []⟩] false))))
/-- beadle/beadlelaw31.RolesLevels -/
def code_law31_RolesLevels : AFunc := ⟨45, [.tmp 4],
  .seq (.region 0 [
    ⟨(some 4), .mov (.c (.d (.bool false))), none, []⟩] false)
  (.seq (.seq (.region 1 [
    ⟨(some 7), .call (.c (.fn F_law31_alive [])) [], none, []⟩,
    ⟨(some 8), .un .not (.t 7), none, []⟩] false)
  (.cond (.t 8)
    (.seq (.region 2 [
      ⟨(some 4), .mov (.c (.d (.bool false))), none, []⟩] false)
    (.mask ⟨[4], []⟩ (.ret)))
    (.skip)))
  (.mask ⟨[0, 1], []⟩ (.seq (.region 3 [
    ⟨(some 9), .mov (.t 0), none, []⟩,
    ⟨(some 10), .call (.c (.fn F_law31_few [])) [(.t 9)], none, []⟩,
    ⟨(some 0), .mov (.t 10), none, []⟩] false)
  (.seq (.seq (.region 4 [
    ⟨(some 11), .mov (.t 0), none, []⟩,
    ⟨(some 12), .call (.c (.fn F_law31_ring [])) [(.t 11)], none, []⟩] false)
  (.cond (.t 12)
    (.seq (.region 5 [
      ⟨(some 13), .mov (.t 0), none, []⟩,
      ⟨(some 14), .mov (.t 1), none, []⟩,
      ⟨(some 15), .call (.c (.fn F_roles_Level [])) [(.t 13), (.t 14)], none, []⟩,
      ⟨(some 16), .bin .eql (.t 15) (.c (.d (.int .i64 (-1)))), none, []⟩,
      ⟨(some 4), .mov (.t 16), none, []⟩] false)
    (.mask ⟨[4], []⟩ (.ret)))
    (.skip)))
  (.mask ⟨[0, 1], []⟩ (.seq (.region 6 [
    ⟨(some 5), .mov (.c (.d (.int .i64 (0)))), none, []⟩] false)
  (.seq (.seq (.region 7 [
    ⟨(some 6), .mov (.c (.d (.int .i64 (0)))), none, []⟩] false)
  (.block 0 (.loop mask_law31_RolesLevels_0 body_law31_RolesLevels_0)))
  (.mask ⟨[0, 1, 5], []⟩ (.seq (.region 12 [
    ⟨(some 40), .mov (.t 0), none, []⟩,
    ⟨(some 41), .mov (.t 1), none, []⟩,
    ⟨(some 42), .call (.c (.fn F_roles_Level [])) [(.t 40), (.t 41)], none, []⟩,
    ⟨(some 43), .mov (.t 5), none, []⟩,
    ⟨(some 44), .bin .eql (.t 42) (.t 43), none, []⟩,
    ⟨(some 4), .mov (.t 44), none, []⟩] false)
  (.mask ⟨[4], []⟩ (.ret)))))))))))⟩
def mask_law31_RolesReduces_0 : Mask := ⟨[0, 5, 6], []⟩
def body_law31_RolesReduces_0 : ACode :=
  .seq (.seq (.region 9 [
    ⟨(some 23), .mov (.t 6), none, []⟩,
    ⟨(some 24), .mov (.t 0), none, []⟩,
    ⟨(some 25), .len .sl (.t 24), none, []⟩,
    ⟨(some 26), .bin .lss (.t 23) (.t 25), none, []⟩] false)
  (.cond (.t 26)
    (.skip)
    (.mask ⟨[], []⟩ (.exit 0))))
  (.mask ⟨[0, 5, 6], []⟩ (.seq (.block 1 (.seq (.region 11 [
    ⟨(some 29), .mov (.t 5), none, []⟩,
    ⟨(some 30), .mov (.t 6), none, []⟩,
    ⟨(some 31), .iaddr 2 (.t 29) (.t 30), none, [0, 1]⟩,
    ⟨(some 32), .load 2 true (.t 31), none, [0, 1, 2]⟩,
    ⟨(some 33), .mov (.t 0), none, []⟩,
    ⟨(some 34), .mov (.t 6), none, []⟩,
    ⟨(some 35), .iaddr 2 (.t 33) (.t 34), none, [4, 5]⟩,
    ⟨(some 36), .load 2 true (.t 35), none, [4, 5, 6]⟩,
    ⟨(some 37), .eqagg [.str, .str] true (.t 32) (.t 36), none, [0, 1, 2, 3, 4, 5, 6, 7]⟩] true)
  (.cond (.t 37)
    (.seq (.region 12 [
      ⟨(some 4), .mov (.c (.d (.bool false))), none, []⟩] false)
    (.mask ⟨[4], []⟩ (.ret)))
    (.skip))))
  (.mask ⟨[0, 5, 6], []⟩ (.region 10 [
    ⟨(some 27), .mov (.t 6), none, []⟩,
    ⟨(some 28), .bin .add (.t 27) (.c (.d (.int .i64 (1)))), none, []⟩,
    ⟨(some 6), .mov (.t 28), none, []⟩] false))))
def mask_law31_RolesReduces_1 : Mask := ⟨[0, 5, 7], []⟩
def body_law31_RolesReduces_1 : ACode :=
  .seq (.seq (.region 17 [
    ⟨(some 55), .mov (.t 7), none, []⟩,
    ⟨(some 56), .mov (.t 5), none, []⟩,
    ⟨(some 57), .len .sl (.t 56), none, []⟩,
    ⟨(some 58), .bin .lss (.t 55) (.t 57), none, []⟩] false)
  (.cond (.t 58)
    (.skip)
    (.mask ⟨[0, 5], []⟩ (.exit 2))))
  (.mask ⟨[0, 5, 7], []⟩ (.seq (.block 3 (.seq (.region 19 [
    ⟨(some 61), .mov (.t 5), none, []⟩,
    ⟨(some 62), .mov (.t 7), none, []⟩,
    ⟨(some 63), .iaddr 2 (.t 61) (.t 62), none, []⟩,
    ⟨(some 64), .load 2 true (.t 63), none, []⟩,
    ⟨(some 8), .box 2 (.c (.agg [(.d (.str [])), (.d (.str []))])), none, []⟩,
    ⟨none, .store 2 (.t 8) (.t 64), none, []⟩] false)
  (.seq (.seq (.region 20 [
    ⟨(some 65), .mov (.t 5), none, []⟩,
    ⟨(some 66), .mov (.t 7), none, []⟩,
    ⟨(some 67), .call (.c (.fn F_law31_without [])) [(.t 65), (.t 66)], none, [0, 1]⟩,
    ⟨(some 68), .faddr 0 (.t 8), none, []⟩,
    ⟨(some 69), .load 1 false (.t 68), none, [3]⟩,
    ⟨(some 70), .call (.c (.fn F_law31_reach [])) [(.t 67), (.t 69)], none, [0, 1, 2, 3, 4]⟩,
    ⟨(some 71), .faddr 1 (.t 8), none, []⟩,
    ⟨(some 72), .load 1 false (.t 71), none, [6]⟩,
    ⟨(some 73), .call (.c (.fn F_plain_In [])) [(.t 70), (.t 72)], none, [0, 1, 2, 3, 4, 5, 6, 7]⟩,
    ⟨(some 74), .mov (.t 73), none, [0, 1, 2, 3, 4, 5, 6, 7, 8]⟩,
    ⟨(some 75), .mov (.t 0), (some (74, false)), [0, 1, 2, 3, 4, 5, 6, 7, 8, 9]⟩,
    ⟨(some 76), .faddr 0 (.t 8), (some (74, false)), [0, 1, 2, 3, 4, 5, 6, 7, 8, 9]⟩,
    ⟨(some 77), .load 1 false (.t 76), (some (74, false)), [0, 1, 2, 3, 4, 5, 6, 7, 8, 9, 11]⟩,
    ⟨(some 78), .call (.c (.fn F_law31_reach [])) [(.t 75), (.t 77)], (some (74, false)), [0, 1, 2, 3, 4, 5, 6, 7, 8, 9, 10, 11, 12]⟩,
    ⟨(some 79), .faddr 1 (.t 8), (some (74, false)), [0, 1, 2, 3, 4, 5, 6, 7, 8, 9]⟩,
    ⟨(some 80), .load 1 false (.t 79), (some (74, false)), [0, 1, 2, 3, 4, 5, 6, 7, 8, 9, 14]⟩,
    ⟨(some 81), .call (.c (.fn F_plain_In [])) [(.t 78), (.t 80)], (some (74, false)), [0, 1, 2, 3, 4, 5, 6, 7, 8, 9, 10, 11, 12, 13, 14, 15]⟩,
    ⟨(some 82), .un .not (.t 81), (some (74, false)), [0, 1, 2, 3, 4, 5, 6, 7, 8, 9, 10, 11, 12, 13, 14, 15, 16]⟩,
    ⟨(some 83), .pick (.t 74) (.c (.d (.bool true))) (.t 82), none, [0, 1, 2, 3, 4, 5, 6, 7, 8, 9, 10, 11, 12, 13, 14, 15, 16, 17]⟩] true)
  (.mask ⟨[0, 5, 7, 8, 83], []⟩ (.cond (.t 83)
    (.seq (.region 21 [
      ⟨(some 4), .mov (.c (.d (.bool false))), none, []⟩] false)
    (.mask ⟨[4], []⟩ (.ret)))
    (.skip))))
  (.mask ⟨[0, 5, 7, 8], []⟩ (.seq (.region 22 [
    ⟨(some 84), .mov (.t 7), none, []⟩,
    ⟨(some 85), .bin .gtr (.t 84) (.c (.d (.int .i64 (0)))), none, [0]⟩,
    ⟨(some 86), .mov (.t 85), none, [0, 1]⟩,
    ⟨(some 87), .mov (.t 5), (some (86, true)), [0, 1, 2]⟩,
    ⟨(some 88), .mov (.t 7), (some (86, true)), [0, 1, 2]⟩,
    ⟨(some 89), .bin .sub (.t 88) (.c (.d (.int .i64 (1)))), (some (86, true)), [0, 1, 2, 4]⟩,
    ⟨(some 90), .iaddr 2 (.t 87) (.t 89), (some (86, true)), [0, 1, 2, 3, 4, 5]⟩,
    ⟨(some 91), .faddr 0 (.t 90), (some (86, true)), [0, 1, 2, 3, 4, 5, 6]⟩,
    ⟨(some 92), .load 1 false (.t 91), (some (86, true)), [0, 1, 2, 3, 4, 5, 6, 7]⟩,
    ⟨(some 93), .faddr 0 (.t 8), (some (86, true)), [0, 1, 2]⟩,
    ⟨(some 94), .load 1 false (.t 93), (some (86, true)), [0, 1, 2, 9]⟩,
    ⟨(some 95), .bin .gtr (.t 92) (.t 94), (some (86, true)), [0, 1, 2, 3, 4, 5, 6, 7, 8, 9, 10]⟩,
    ⟨(some 96), .mov (.t 95), (some (86, true)), [0, 1, 2, 3, 4, 5, 6, 7, 8, 9, 10, 11]⟩,
    ⟨(some 97), .mov (.t 5), (some (96, false)), [0, 1, 2, 3, 4, 5, 6, 7, 8, 9, 10, 11, 12]⟩,
    ⟨(some 98), .mov (.t 7), (some (96, false)), [0, 1, 2, 3, 4, 5, 6, 7, 8, 9, 10, 11, 12]⟩,
    ⟨(some 99), .bin .sub (.t 98) (.c (.d (.int .i64 (1)))), (some (96, false)), [0, 1, 2, 3, 4, 5, 6, 7, 8, 9, 10, 11, 12, 14]⟩,
    ⟨(some 100), .iaddr 2 (.t 97) (.t 99), (some (96, false)), [0, 1, 2, 3, 4, 5, 6, 7, 8, 9, 10, 11, 12, 13, 14, 15]⟩,
    ⟨(some 101), .faddr 0 (.t 100), (some (96, false)), [0, 1, 2, 3, 4, 5, 6, 7, 8, 9, 10, 11, 12, 13, 14, 15, 16]⟩,
    ⟨(some 102), .load 1 false (.t 101), (some (96, false)), [0, 1, 2, 3, 4, 5, 6, 7, 8, 9, 10, 11, 12, 13, 14, 15, 16, 17]⟩,
    ⟨(some 103), .faddr 0 (.t 8), (some (96, false)), [0, 1, 2, 3, 4, 5, 6, 7, 8, 9, 10, 11, 12]⟩,
    ⟨(some 104), .load 1 false (.t 103), (some (96, false)), [0, 1, 2, 3, 4, 5, 6, 7, 8, 9, 10, 11, 12, 19]⟩,
    ⟨(some 105), .bin .eql (.t 102) (.t 104), (some (96, false)), [0, 1, 2, 3, 4, 5, 6, 7, 8, 9, 10, 11, 12, 13, 14, 15, 16, 17, 18, 19, 20]⟩,
    ⟨(some 106), .mov (.t 105), (some (96, false)), [0, 1, 2, 3, 4, 5, 6, 7, 8, 9, 10, 11, 12, 13, 14, 15, 16, 17, 18, 19, 20, 21]⟩,
    ⟨(some 107), .mov (.t 5), (some (106, true)), [0, 1, 2, 3, 4, 5, 6, 7, 8, 9, 10, 11, 12, 13, 14, 15, 16, 17, 18, 19, 20, 21, 22]⟩,
    ⟨(some 108), .mov (.t 7), (some (106, true)), [0, 1, 2, 3, 4, 5, 6, 7, 8, 9, 10, 11, 12, 13, 14, 15, 16, 17, 18, 19, 20, 21, 22]⟩,
    ⟨(some 109), .bin .sub (.t 108) (.c (.d (.int .i64 (1)))), (some (106, true)), [0, 1, 2, 3, 4, 5, 6, 7, 8, 9, 10, 11, 12, 13, 14, 15, 16, 17, 18, 19, 20, 21, 22, 24]⟩,
    ⟨(some 110), .iaddr 2 (.t 107) (.t 109), (some (106, true)), [0, 1, 2, 3, 4, 5, 6, 7, 8, 9, 10, 11, 12, 13, 14, 15, 16, 17, 18, 19, 20, 21, 22, 23, 24, 25]⟩,
    ⟨(some 111), .faddr 1 (.t 110), (some (106, true)), [0, 1, 2, 3, 4, 5, 6, 7, 8, 9, 10, 11, 12, 13, 14, 15, 16, 17, 18, 19, 20, 21, 22, 23, 24, 25, 26]⟩,
    ⟨(some 112), .load 1 false (.t 111), (some (106, true)), [0, 1, 2, 3, 4, 5, 6, 7, 8, 9, 10, 11, 12, 13, 14, 15, 16, 17, 18, 19, 20, 21, 22, 23, 24, 25, 26, 27]⟩,
    ⟨(some 113), .faddr 1 (.t 8), (some (106, true)), [0, 1, 2, 3, 4, 5, 6, 7, 8, 9, 10, 11, 12, 13, 14, 15, 16, 17, 18, 19, 20, 21, 22]⟩,
    ⟨(some 114), .load 1 false (.t 113), (some (106, true)), [0, 1, 2, 3, 4, 5, 6, 7, 8, 9, 10, 11, 12, 13, 14, 15, 16, 17, 18, 19, 20, 21, 22, 29]⟩,
    ⟨(some 115), .bin .geq (.t 112) (.t 114), (some (106, true)), [0, 1, 2, 3, 4, 5, 6, 7, 8, 9, 10, 11, 12, 13, 14, 15, 16, 17, 18, 19, 20, 21, 22, 23, 24, 25, 26, 27, 28, 29, 30]⟩,
    ⟨(some 116), .pick (.t 106) (.t 115) (.c (.d (.bool false))), (some (96, false)), [0, 1, 2, 3, 4, 5, 6, 7, 8, 9, 10, 11, 12, 13, 14, 15, 16, 17, 18, 19, 20, 21, 22, 23, 24, 25, 26, 27, 28, 29, 30, 31]⟩,
    ⟨(some 117), .pick (.t 96) (.c (.d (.bool true))) (.t 116), (some (86, true)), [0, 1, 2, 3, 4, 5, 6, 7, 8, 9, 10, 11, 12, 13, 14, 15, 16, 17, 18, 19, 20, 21, 22, 23, 24, 25, 26, 27, 28, 29, 30, 31, 32]⟩,
    ⟨(some 118), .pick (.t 86) (.t 117) (.c (.d (.bool false))), none, [0, 1, 2, 3, 4, 5, 6, 7, 8, 9, 10, 11, 12, 13, 14, 15, 16, 17, 18, 19, 20, 21, 22, 23, 24, 25, 26, 27, 28, 29, 30, 31, 32, 33]⟩] true)
  (.mask ⟨[0, 5, 7, 118], []⟩ (.cond (.t 118)
    (.seq (.region 23 [
      ⟨(some 4), .mov (.c (.d (.bool false))), none, []⟩] false)
    (.mask ⟨[4], []⟩ (.ret)))
    (.skip))))))))
  (.mask ⟨[0, 5, 7], []⟩ (.region 18 [
    ⟨(some 59), .mov (.t 7), none, []⟩,
    ⟨(some 60), .bin .add (.t 59) (.c (.d (.int .i64 (1)))), none, []⟩,
    ⟨(some 7), .mov (.t 60), none, []⟩] false))))
def mask_law31_RolesReduces_2 : Mask := ⟨[0, 5, 9], []⟩
def body_law31_RolesReduces_2 : ACode :=
  .seq (.seq (.region 25 [
    ⟨(some 119), .mov (.t 9), none, []⟩,
    ⟨(some 120), .mov (.t 0), none, []⟩,
    ⟨(some 121), .len .sl (.t 120), none, []⟩,
    ⟨(some 122), .bin .lss (.t 119) (.t 121), none, []⟩] false)
  (.cond (.t 122)
    (.skip)
    (.mask ⟨[], []⟩ (.exit 4))))
  (.mask ⟨[0, 5, 9], []⟩ (.seq (.block 5 (.seq (.region 27 [
    ⟨(some 125), .mov (.t 5), none, []⟩,
    ⟨(some 126), .mov (.t 0), none, []⟩,
    ⟨(some 127), .mov (.t 9), none, []⟩,
    ⟨(some 128), .iaddr 2 (.t 126) (.t 127), none, [1, 2]⟩,
    ⟨(some 129), .faddr 0 (.t 128), none, [1, 2, 3]⟩,
    ⟨(some 130), .load 1 false (.t 129), none, [1, 2, 3, 4]⟩,
    ⟨(some 131), .call (.c (.fn F_law31_reach [])) [(.t 125), (.t 130)], none, [0, 1, 2, 3, 4, 5]⟩,
    ⟨(some 132), .mov (.t 0), none, []⟩,
    ⟨(some 133), .mov (.t 9), none, []⟩,
    ⟨(some 134), .iaddr 2 (.t 132) (.t 133), none, [7, 8]⟩,
    ⟨(some 135), .faddr 1 (.t 134), none, [7, 8, 9]⟩,
    ⟨(some 136), .load 1 false (.t 135), none, [7, 8, 9, 10]⟩,
    ⟨(some 137), .call (.c (.fn F_plain_In [])) [(.t 131), (.t 136)], none, [0, 1, 2, 3, 4, 5, 6, 7, 8, 9, 10, 11]⟩,
    ⟨(some 138), .un .not (.t 137), none, [0, 1, 2, 3, 4, 5, 6, 7, 8, 9, 10, 11, 12]⟩] true)
  (.cond (.t 138)
    (.seq (.region 28 [
      ⟨(some 4), .mov (.c (.d (.bool false))), none, []⟩] false)
    (.mask ⟨[4], []⟩ (.ret)))
    (.skip))))
  (.mask ⟨[0, 5, 9], []⟩ (.region 26 [
    ⟨(some 123), .mov (.t 9), none, []⟩,
    ⟨(some 124), .bin .add (.t 123) (.c (.d (.int .i64 (1)))), none, []⟩,
    ⟨(some 9), .mov (.t 124), none, []⟩] false))))
/-- beadle/beadlelaw31.RolesReduces -/
def code_law31_RolesReduces : AFunc := ⟨139, [.tmp 4],
  .seq (.region 0 [
    ⟨(some 4), .mov (.c (.d (.bool false))), none, []⟩] false)
  (.seq (.seq (.region 1 [
    ⟨(some 10), .call (.c (.fn F_law31_alive [])) [], none, []⟩,
    ⟨(some 11), .un .not (.t 10), none, []⟩] false)
  (.cond (.t 11)
    (.seq (.region 2 [
      ⟨(some 4), .mov (.c (.d (.bool false))), none, []⟩] false)
    (.mask ⟨[4], []⟩ (.ret)))
    (.skip)))
  (.mask ⟨[0, 1], []⟩ (.seq (.region 3 [
    ⟨(some 12), .mov (.t 0), none, []⟩,
    ⟨(some 13), .call (.c (.fn F_law31_few [])) [(.t 12)], none, []⟩,
    ⟨(some 0), .mov (.t 13), none, []⟩] false)
  (.seq (.region 4 [
    ⟨(some 14), .mov (.t 0), none, []⟩,
    ⟨(some 15), .call (.c (.fn F_roles_Reduce [])) [(.t 14)], none, []⟩,
    ⟨(some 5), .mov (.t 15), none, []⟩] false)
  (.seq (.seq (.region 5 [
    ⟨(some 16), .mov (.t 0), none, []⟩,
    ⟨(some 17), .call (.c (.fn F_law31_ring [])) [(.t 16)], none, []⟩] false)
  (.cond (.t 17)
    (.seq (.seq (.region 6 [
      ⟨(some 18), .mov (.t 5), none, []⟩,
      ⟨(some 19), .len .sl (.t 18), none, []⟩,
      ⟨(some 20), .mov (.t 0), none, []⟩,
      ⟨(some 21), .len .sl (.t 20), none, []⟩,
      ⟨(some 22), .bin .neq (.t 19) (.t 21), none, []⟩] false)
    (.cond (.t 22)
      (.seq (.region 7 [
        ⟨(some 4), .mov (.c (.d (.bool false))), none, []⟩] false)
      (.mask ⟨[4], []⟩ (.ret)))
      (.skip)))
    (.mask ⟨[0, 5], []⟩ (.seq (.seq (.region 8 [
      ⟨(some 6), .mov (.c (.d (.int .i64 (0)))), none, []⟩] false)
    (.block 0 (.loop mask_law31_RolesReduces_0 body_law31_RolesReduces_0)))
    (.mask ⟨[], []⟩ (.seq (.region 13 [
      ⟨(some 4), .mov (.c (.d (.bool true))), none, []⟩] false)
    (.mask ⟨[4], []⟩ (.ret)))))))
    (.skip)))
  (.mask ⟨[0, 1, 5], []⟩ (.seq (.seq (.region 14 [
    ⟨(some 38), .mov (.t 5), none, []⟩,
    ⟨(some 39), .len .sl (.t 38), none, []⟩,
    ⟨(some 40), .mov (.t 0), none, []⟩,
    ⟨(some 41), .len .sl (.t 40), none, []⟩,
    ⟨(some 42), .bin .gtr (.t 39) (.t 41), none, []⟩,
    ⟨(some 43), .mov (.t 42), none, []⟩,
    ⟨(some 44), .mov (.t 5), (some (43, false)), []⟩,
    ⟨(some 45), .mov (.t 1), (some (43, false)), []⟩,
    ⟨(some 46), .call (.c (.fn F_law31_reach [])) [(.t 44), (.t 45)], (some (43, false)), []⟩,
    ⟨(some 47), .call (.c (.fn F_plain_Rising [])) [(.t 46)], (some (43, false)), []⟩,
    ⟨(some 48), .mov (.t 0), (some (43, false)), []⟩,
    ⟨(some 49), .mov (.t 1), (some (43, false)), []⟩,
    ⟨(some 50), .call (.c (.fn F_law31_reach [])) [(.t 48), (.t 49)], (some (43, false)), []⟩,
    ⟨(some 51), .call (.c (.fn F_plain_Rising [])) [(.t 50)], (some (43, false)), []⟩,
    ⟨(some 52), .call (.c (.fn F_plain_Texts [])) [(.t 47), (.t 51)], (some (43, false)), []⟩,
    ⟨(some 53), .un .not (.t 52), (some (43, false)), []⟩,
    ⟨(some 54), .pick (.t 43) (.c (.d (.bool true))) (.t 53), none, []⟩] false)
  (.mask ⟨[0, 5, 54], []⟩ (.cond (.t 54)
    (.seq (.region 15 [
      ⟨(some 4), .mov (.c (.d (.bool false))), none, []⟩] false)
    (.mask ⟨[4], []⟩ (.ret)))
    (.skip))))
  (.mask ⟨[0, 5], []⟩ (.seq (.seq (.region 16 [
    ⟨(some 7), .mov (.c (.d (.int .i64 (0)))), none, []⟩] false)
  (.block 2 (.loop mask_law31_RolesReduces_1 body_law31_RolesReduces_1)))
  (.mask ⟨[0, 5], []⟩ (.seq (.seq (.region 24 [
    ⟨(some 9), .mov (.c (.d (.int .i64 (0)))), none, []⟩] false)
  (.block 4 (.loop mask_law31_RolesReduces_2 body_law31_RolesReduces_2)))
  (.mask ⟨[], []⟩ (.seq (.region 29 [
    ⟨(some 4), .mov (.c (.d (.bool true))), none, []⟩] false)
  (.mask ⟨[4], []⟩ (.ret)))))))))))))))⟩
/-- beadle/beadlelaw31.alive -/
def code_law31_alive : AFunc := ⟨36, [.tmp 0],
  .seq (.region 0 [
    ⟨(some 0), .mov (.c (.d (.bool false))), none, []⟩] false)
  (.seq (.region 1 [
    ⟨(some 2), .build [(.d (.str [])), (.d (.str []))] [(0, 1, (.c (.d (.str [97])))), (1, 1, (.c (.d (.str [98]))))], none, []⟩,
    ⟨(some 3), .build [(.d (.str [])), (.d (.str []))] [(0, 1, (.c (.d (.str [98])))), (1, 1, (.c (.d (.str [99]))))], none, []⟩,
    ⟨(some 4), .build [(.d (.str [])), (.d (.str []))] [(0, 1, (.c (.d (.str [97])))), (1, 1, (.c (.d (.str [99]))))], none, []⟩,
    ⟨(some 5), .buildSl 2 [(.str []), (.str [])] 3 [(0, (.t 2)), (1, (.t 3)), (2, (.t 4))], none, []⟩,
    ⟨(some 1), .mov (.t 5), none, []⟩] false)
  (.seq (.region 2 [
    ⟨(some 6), .mov (.t 1), none, []⟩,
    ⟨(some 7), .call (.c (.fn F_roles_Check [])) [(.t 6)], none, []⟩,
    ⟨(some 8), .bin .eql (.t 7) (.c (.d (.int .i64 (0)))), none, []⟩,
    ⟨(some 9), .mov (.t 8), none, []⟩,
    ⟨(some 10), .mov (.t 1), (some (9, true)), []⟩,
    ⟨(some 11), .call (.c (.fn F_roles_Reach [])) [(.t 10), (.c (.d (.str [97])))], (some (9, true)), []⟩,
    ⟨(some 12), .len .sl (.t 11), (some (9, true)), []⟩,
    ⟨(some 13), .bin .eql (.t 12) (.c (.d (.int .i64 (3)))), (some (9, true)), []⟩,
    ⟨(some 14), .pick (.t 9) (.t 13) (.c (.d (.bool false))), none, []⟩,
    ⟨(some 15), .mov (.t 14), none, []⟩,
    ⟨(some 16), .mov (.t 1), (some (15, true)), []⟩,
    ⟨(some 17), .call (.c (.fn F_roles_Has [])) [(.t 16), (.c (.d (.str [97]))), (.c (.d (.str [99])))], (some (15, true)), []⟩,
    ⟨(some 18), .pick (.t 15) (.t 17) (.c (.d (.bool false))), none, []⟩,
    ⟨(some 19), .mov (.t 18), none, []⟩,
    ⟨(some 20), .mov (.t 1), (some (19, true)), []⟩,
    ⟨(some 21), .call (.c (.fn F_roles_Level [])) [(.t 20), (.c (.d (.str [97])))], (some (19, true)), []⟩,
    ⟨(some 22), .bin .eql (.t 21) (.c (.d (.int .i64 (2)))), (some (19, true)), []⟩,
    ⟨(some 23), .pick (.t 19) (.t 22) (.c (.d (.bool false))), none, []⟩,
    ⟨(some 24), .mov (.t 23), none, []⟩,
    ⟨(some 25), .mov (.t 1), (some (24, true)), []⟩,
    ⟨(some 26), .call (.c (.fn F_roles_Tops [])) [(.t 25)], (some (24, true)), []⟩,
    ⟨(some 27), .len .sl (.t 26), (some (24, true)), []⟩,
    ⟨(some 28), .bin .eql (.t 27) (.c (.d (.int .i64 (1)))), (some (24, true)), []⟩,
    ⟨(some 29), .pick (.t 24) (.t 28) (.c (.d (.bool false))), none, []⟩,
    ⟨(some 30), .mov (.t 29), none, []⟩,
    ⟨(some 31), .mov (.t 1), (some (30, true)), []⟩,
    ⟨(some 32), .call (.c (.fn F_roles_Reduce [])) [(.t 31)], (some (30, true)), []⟩,
    ⟨(some 33), .len .sl (.t 32), (some (30, true)), []⟩,
    ⟨(some 34), .bin .eql (.t 33) (.c (.d (.int .i64 (2)))), (some (30, true)), []⟩,
    ⟨(some 35), .pick (.t 30) (.t 34) (.c (.d (.bool false))), none, []⟩,
    ⟨(some 0), .mov (.t 35), none, []⟩] false)
  (.mask ⟨[0], []⟩ (.ret))))⟩
/-- beadle/beadlelaw31.few -/
def code_law31_few : AFunc := ⟨9, [.tmp 2],
  .seq (.region 0 [
    ⟨(some 2), .mov (.c (.d (.vs true []))), none, []⟩] false)
  (.seq (.seq (.region 1 [
    ⟨(some 3), .mov (.t 0), none, []⟩,
    ⟨(some 4), .len .sl (.t 3), none, []⟩,
    ⟨(some 5), .bin .gtr (.t 4) (.c (.d (.int .i64 (30)))), none, []⟩] false)
  (.cond (.t 5)
    (.seq (.region 2 [
      ⟨(some 6), .mov (.t 0), none, []⟩,
      ⟨(some 7), .slice 2 (.t 6) none (some (.c (.d (.int .i64 (30))))) none, none, []⟩,
      ⟨(some 2), .mov (.t 7), none, []⟩] false)
    (.mask ⟨[2], []⟩ (.ret)))
    (.skip)))
  (.mask ⟨[0], []⟩ (.seq (.region 3 [
    ⟨(some 8), .mov (.t 0), none, []⟩,
    ⟨(some 2), .mov (.t 8), none, []⟩] false)
  (.mask ⟨[2], []⟩ (.ret)))))⟩
def mask_law31_reach_0 : Mask := ⟨[0, 5, 6, 7, 8], [.slot 5 10000050 1]⟩
def body_law31_reach_0 : ACode :=
  .seq (.seq (.region 7 [
    ⟨(some 19), .mov (.t 8), none, []⟩,
    ⟨(some 20), .mov (.t 0), none, []⟩,
    ⟨(some 21), .len .sl (.t 20), none, []⟩,
    ⟨(some 22), .bin .lss (.t 19) (.t 21), none, []⟩] false)
  (.cond (.t 22)
    (.skip)
    (.mask ⟨[0, 5, 6, 7], [.slot 5 10000050 1]⟩ (.exit 2))))
  (.mask ⟨[0, 5, 6, 7, 8], [.slot 5 10000050 1]⟩ (.seq (.block 3 (.seq (.region 9 [
    ⟨(some 25), .mov (.t 5), none, []⟩,
    ⟨(some 26), .mov (.t 0), none, []⟩,
    ⟨(some 27), .mov (.t 8), none, []⟩,
    ⟨(some 28), .iaddr 2 (.t 26) (.t 27), none, []⟩,
    ⟨(some 29), .faddr 0 (.t 28), none, []⟩,
    ⟨(some 30), .load 1 false (.t 29), none, []⟩,
    ⟨(some 31), .call (.c (.fn F_plain_In [])) [(.t 25), (.t 30)], none, []⟩,
    ⟨(some 32), .mov (.t 31), none, []⟩,
    ⟨(some 33), .mov (.t 5), (some (32, true)), []⟩,
    ⟨(some 34), .mov (.t 0), (some (32, true)), []⟩,
    ⟨(some 35), .mov (.t 8), (some (32, true)), []⟩,
    ⟨(some 36), .iaddr 2 (.t 34) (.t 35), (some (32, true)), []⟩,
    ⟨(some 37), .faddr 1 (.t 36), (some (32, true)), []⟩,
    ⟨(some 38), .load 1 false (.t 37), (some (32, true)), []⟩,
    ⟨(some 39), .call (.c (.fn F_plain_In [])) [(.t 33), (.t 38)], (some (32, true)), []⟩,
    ⟨(some 40), .un .not (.t 39), (some (32, true)), []⟩,
    ⟨(some 41), .pick (.t 32) (.t 40) (.c (.d (.bool false))), none, []⟩] false)
  (.mask ⟨[0, 5, 6, 7, 8, 41], [.slot 5 10000050 1]⟩ (.cond (.t 41)
    (.region 10 [
      ⟨(some 42), .mov (.t 5), none, []⟩,
      ⟨(some 43), .mov (.t 0), none, []⟩,
      ⟨(some 44), .mov (.t 8), none, []⟩,
      ⟨(some 45), .iaddr 2 (.t 43) (.t 44), none, []⟩,
      ⟨(some 46), .faddr 1 (.t 45), none, []⟩,
      ⟨(some 47), .load 1 false (.t 46), none, []⟩,
      ⟨(some 48), .buildSl 1 [(.str [])] 1 [(0, (.t 47))], none, []⟩,
      ⟨(some 49), .append 1 (.t 42) (.t 48), none, []⟩,
      ⟨(some 5), .mov (.t 49), none, []⟩] false)
    (.skip)))))
  (.mask ⟨[0, 5, 6, 7, 8], [.slot 5 10000050 1]⟩ (.region 8 [
    ⟨(some 23), .mov (.t 8), none, []⟩,
    ⟨(some 24), .bin .add (.t 23) (.c (.d (.int .i64 (1)))), none, []⟩,
    ⟨(some 8), .mov (.t 24), none, []⟩] false))))
def mask_law31_reach_1 : Mask := ⟨[0, 5, 6], [.slot 5 10000050 1]⟩
def body_law31_reach_1 : ACode :=
  .seq (.seq (.region 3 [
    ⟨(some 11), .mov (.t 6), none, []⟩,
    ⟨(some 12), .mov (.t 0), none, []⟩,
    ⟨(some 13), .len .sl (.t 12), none, []⟩,
    ⟨(some 14), .bin .lss (.t 11) (.t 13), none, []⟩] false)
  (.cond (.t 14)
    (.skip)
    (.mask ⟨[5], [.slot 5 10000050 1]⟩ (.exit 0))))
  (.mask ⟨[0, 5, 6], [.slot 5 10000050 1]⟩ (.seq (.block 1 (.seq (.region 5 [
    ⟨(some 17), .mov (.t 5), none, []⟩,
    ⟨(some 18), .len .sl (.t 17), none, []⟩,
    ⟨(some 7), .mov (.t 18), none, []⟩] false)
  (.seq (.seq (.region 6 [
    ⟨(some 8), .mov (.c (.d (.int .i64 (0)))), none, []⟩] false)
  (.block 2 (.loop mask_law31_reach_0 body_law31_reach_0)))
  (.mask ⟨[0, 5, 6, 7], [.slot 5 10000050 1]⟩ (.seq (.region 11 [
    ⟨(some 50), .mov (.t 5), none, []⟩,
    ⟨(some 51), .len .sl (.t 50), none, []⟩,
    ⟨(some 52), .mov (.t 7), none, []⟩,
    ⟨(some 53), .bin .eql (.t 51) (.t 52), none, []⟩] false)
  (.cond (.t 53)
    (.mask ⟨[5], [.slot 5 10000050 1]⟩ (.exit 0))
    (.skip)))))))
  (.mask ⟨[0, 5, 6], [.slot 5 10000050 1]⟩ (.region 4 [
    ⟨(some 15), .mov (.t 6), none, []⟩,
    ⟨(some 16), .bin .add (.t 15) (.c (.d (.int .i64 (1)))), none, []⟩,
    ⟨(some 6), .mov (.t 16), none, []⟩] false))))
/-- beadle/beadlelaw31.reach -/
def code_law31_reach : AFunc := ⟨55, [.tmp 4],
  .seq (.region 0 [
    ⟨(some 4), .mov (.c (.d (.vs true []))), none, []⟩] false)
  (.seq (.region 1 [
    ⟨(some 9), .mov (.t 1), none, []⟩,
    ⟨(some 10), .buildSl 1 [(.str [])] 1 [(0, (.t 9))], none, []⟩,
    ⟨(some 5), .mov (.t 10), none, []⟩] false)
  (.seq (.seq (.region 2 [
    ⟨(some 6), .mov (.c (.d (.int .i64 (0)))), none, []⟩] false)
  (.block 0 (.loop mask_law31_reach_1 body_law31_reach_1)))
  (.mask ⟨[5], [.slot 5 10000050 1]⟩ (.seq (.region 12 [
    ⟨(some 54), .mov (.t 5), none, []⟩,
    ⟨(some 4), .mov (.t 54), none, []⟩] false)
  (.mask ⟨[4], [.slot 4 10000040 1]⟩ (.ret))))))⟩
def mask_roles_Reach_0 : Mask := ⟨[0, 5, 6, 22, 23, 24], [.slot 5 10000050 1]⟩
def body_roles_Reach_0 : ACode :=
  .seq (.region 6 [
    ⟨(some 25), .bin .lss (.t 24) (.t 23), none, []⟩] false)
  (.seq (.cond (.t 25)
    (.skip)
    (.mask ⟨[0, 5, 6], [.slot 5 10000050 1]⟩ (.exit 2)))
  (.mask ⟨[0, 5, 6, 22, 23, 24], [.slot 5 10000050 1]⟩ (.seq (.block 3 (.seq (.region 7 [
    ⟨(some 26), .iaddr 1 (.t 22) (.t 24), none, []⟩,
    ⟨(some 27), .load 1 false (.t 26), none, []⟩,
    ⟨(some 8), .mov (.t 27), none, []⟩] false)
  (.seq (.region 8 [
    ⟨(some 28), .mov (.t 5), none, []⟩,
    ⟨(some 29), .mov (.t 8), none, []⟩,
    ⟨(some 30), .call (.c (.fn F_slices_Contains_string_string [])) [(.t 28), (.t 29)], none, []⟩,
    ⟨(some 31), .un .not (.t 30), none, []⟩] false)
  (.cond (.t 31)
    (.region 9 [
      ⟨(some 32), .mov (.t 5), none, []⟩,
      ⟨(some 33), .mov (.t 8), none, []⟩,
      ⟨(some 34), .buildSl 1 [(.str [])] 1 [(0, (.t 33))], none, []⟩,
      ⟨(some 35), .append 1 (.t 32) (.t 34), none, []⟩,
      ⟨(some 5), .mov (.t 35), none, []⟩] false)
    (.skip)))))
  (.mask ⟨[0, 5, 6, 22, 23, 24], [.slot 5 10000050 1]⟩ (.region 10 [
    ⟨(some 36), .bin .add (.t 24) (.c (.d (.int .i64 (1)))), none, []⟩,
    ⟨(some 24), .mov (.t 36), none, []⟩] false)))))
def mask_roles_Reach_1 : Mask := ⟨[0, 5, 6], [.slot 5 10000050 1]⟩
def body_roles_Reach_1 : ACode :=
  .seq (.seq (.region 3 [
    ⟨(some 11), .mov (.t 6), none, []⟩,
    ⟨(some 12), .mov (.t 5), none, []⟩,
    ⟨(some 13), .len .sl (.t 12), none, []⟩,
    ⟨(some 14), .bin .lss (.t 11) (.t 13), none, []⟩] false)
  (.cond (.t 14)
    (.skip)
    (.mask ⟨[5], [.slot 5 10000050 1]⟩ (.exit 0))))
  (.mask ⟨[0, 5, 6], [.slot 5 10000050 1]⟩ (.seq (.block 1 (.seq (.region 5 [
    ⟨(some 17), .mov (.t 0), none, []⟩,
    ⟨(some 18), .mov (.t 5), none, []⟩,
    ⟨(some 19), .mov (.t 6), none, []⟩,
    ⟨(some 20), .iaddr 1 (.t 18) (.t 19), none, []⟩,
    ⟨(some 21), .load 1 false (.t 20), none, []⟩,
    ⟨(some 22), .call (.c (.fn F_roles_ups [])) [(.t 17), (.t 21)], none, []⟩,
    ⟨(some 23), .len .sl (.t 22), none, []⟩,
    ⟨(some 24), .mov (.c (.d (.int .i64 (0)))), none, []⟩] false)
  (.block 2 (.loop mask_roles_Reach_0 body_roles_Reach_0))))
  (.mask ⟨[0, 5, 6], [.slot 5 10000050 1]⟩ (.region 4 [
    ⟨(some 15), .mov (.t 6), none, []⟩,
    ⟨(some 16), .bin .add (.t 15) (.c (.d (.int .i64 (1)))), none, []⟩,
    ⟨(some 6), .mov (.t 16), none, []⟩] false))))
/-- beadle/roles.Reach -/
def code_roles_Reach : AFunc := ⟨40, [.tmp 4],
  .seq (.region 0 [
    ⟨(some 4), .mov (.c (.d (.vs true []))), none, []⟩] false)
  (.seq (.region 1 [
    ⟨(some 9), .mov (.t 1), none, []⟩,
    ⟨(some 10), .buildSl 1 [(.str [])] 1 [(0, (.t 9))], none, []⟩,
    ⟨(some 5), .mov (.t 10), none, []⟩] false)
  (.seq (.seq (.region 2 [
    ⟨(some 6), .mov (.c (.d (.int .i64 (0)))), none, []⟩] false)
  (.block 0 (.loop mask_roles_Reach_1 body_roles_Reach_1)))
  (.mask ⟨[5], [.slot 5 10000050 1]⟩ (.seq (.region 11 [
    ⟨(some 37), .mov (.t 5), none, []⟩,
    ⟨(some 38), .call (.c (.fn F_slices_Sort_string_string [])) [(.t 37)], none, []⟩] false)
  (.seq (.region 12 [
    ⟨(some 39), .mov (.t 5), none, []⟩,
    ⟨(some 4), .mov (.t 39), none, []⟩] false)
  (.mask ⟨[4], [.slot 4 10000040 1]⟩ (.ret)))))))⟩
def mask_plain_Rising_0 : Mask := ⟨[0, 3, 4, 5], [.slot 3 10000030 1]⟩
def body_plain_Rising_0 : ACode :=
  .seq (.seq (.region 7 [
    ⟨(some 19), .mov (.t 5), none, []⟩,
    ⟨(some 20), .mov (.t 3), none, []⟩,
    ⟨(some 21), .len .sl (.t 20), none, [1]⟩,
    ⟨(some 22), .bin .lss (.t 19) (.t 21), none, [0, 1, 2]⟩,
    ⟨(some 23), .mov (.t 22), none, [0, 1, 2, 3]⟩,
    ⟨(some 24), .mov (.t 3), (some (23, true)), [0, 1, 2, 3, 4]⟩,
    ⟨(some 25), .mov (.t 5), (some (23, true)), [0, 1, 2, 3, 4]⟩,
    ⟨(some 26), .iaddr 1 (.t 24) (.t 25), (some (23, true)), [0, 1, 2, 3, 4, 5, 6]⟩,
    ⟨(some 27), .load 1 false (.t 26), (some (23, true)), [0, 1, 2, 3, 4, 5, 6, 7]⟩,
    ⟨(some 28), .mov (.t 0), (some (23, true)), [0, 1, 2, 3, 4]⟩,
    ⟨(some 29), .mov (.t 4), (some (23, true)), [0, 1, 2, 3, 4]⟩,
    ⟨(some 30), .iaddr 1 (.t 28) (.t 29), (some (23, true)), [0, 1, 2, 3, 4, 9, 10]⟩,
    ⟨(some 31), .load 1 false (.t 30), (some (23, true)), [0, 1, 2, 3, 4, 9, 10, 11]⟩,
    ⟨(some 32), .bin .lss (.t 27) (.t 31), (some (23, true)), [0, 1, 2, 3, 4, 5, 6, 7, 8, 9, 10, 11, 12]⟩,
    ⟨(some 33), .pick (.t 23) (.t 32) (.c (.d (.bool false))), none, [0, 1, 2, 3, 4, 5, 6, 7, 8, 9, 10, 11, 12, 13]⟩] true)
  (.mask ⟨[0, 3, 4, 5, 33], [.slot 3 10000030 1]⟩ (.cond (.t 33)
    (.skip)
    (.mask ⟨[0, 3, 4, 5], [.slot 3 10000030 1]⟩ (.exit 2)))))
  (.mask ⟨[0, 3, 4, 5], [.slot 3 10000030 1]⟩ (.block 3 (.region 8 [
    ⟨(some 34), .mov (.t 5), none, []⟩,
    ⟨(some 35), .bin .add (.t 34) (.c (.d (.int .i64 (1)))), none, []⟩,
    ⟨(some 5), .mov (.t 35), none, []⟩] false)))
def mask_plain_Rising_1 : Mask := ⟨[0, 3, 4], [.slot 3 10000030 1]⟩
def body_plain_Rising_1 : ACode :=
  .seq (.seq (.region 3 [
    ⟨(some 7), .mov (.t 4), none, []⟩,
    ⟨(some 8), .mov (.t 0), none, []⟩,
    ⟨(some 9), .len .sl (.t 8), none, []⟩,
    ⟨(some 10), .bin .lss (.t 7) (.t 9), none, []⟩] false)
  (.cond (.t 10)
    (.skip)
    (.mask ⟨[3], [.slot 3 10000030 1]⟩ (.exit 0))))
  (.mask ⟨[0, 3, 4], [.slot 3 10000030 1]⟩ (.seq (.block 1 (.seq (.seq (.region 5 [
    ⟨(some 13), .mov (.t 3), none, []⟩,
    ⟨(some 14), .mov (.t 0), none, []⟩,
    ⟨(some 15), .mov (.t 4), none, []⟩,
    ⟨(some 16), .iaddr 1 (.t 14) (.t 15), none, []⟩,
    ⟨(some 17), .load 1 false (.t 16), none, []⟩,
    ⟨(some 18), .call (.c (.fn F_plain_In [])) [(.t 13), (.t 17)], none, []⟩] false)
  (.cond (.t 18)
    (.mask ⟨[0, 3, 4], [.slot 3 10000030 1]⟩ (.exit 1))
    (.skip)))
  (.mask ⟨[0, 3, 4], [.slot 3 10000030 1]⟩ (.seq (.region 6 [
    ⟨(some 5), .mov (.c (.d (.int .i64 (0)))), none, []⟩] false)
  (.seq (.block 2 (.loop mask_plain_Rising_0 body_plain_Rising_0))
  (.mask ⟨[0, 3, 4, 5], [.slot 3 10000030 1]⟩ (.seq (.region 9 [
    ⟨(some 6), .mov (.c (.d (.vs true []))), none, []⟩] false)
  (.seq (.region 10 [
    ⟨(some 36), .mov (.t 6), none, []⟩,
    ⟨(some 37), .mov (.t 3), none, []⟩,
    ⟨(some 38), .mov (.t 5), none, []⟩,
    ⟨(some 39), .slice 1 (.t 37) none (some (.t 38)) none, none, []⟩,
    ⟨(some 40), .append 1 (.t 36) (.t 39), none, []⟩,
    ⟨(some 6), .mov (.t 40), none, []⟩] false)
  (.seq (.region 11 [
    ⟨(some 41), .mov (.t 6), none, []⟩,
    ⟨(some 42), .mov (.t 0), none, []⟩,
    ⟨(some 43), .mov (.t 4), none, []⟩,
    ⟨(some 44), .iaddr 1 (.t 42) (.t 43), none, []⟩,
    ⟨(some 45), .load 1 false (.t 44), none, []⟩,
    ⟨(some 46), .buildSl 1 [(.str [])] 1 [(0, (.t 45))], none, []⟩,
    ⟨(some 47), .append 1 (.t 41) (.t 46), none, []⟩,
    ⟨(some 6), .mov (.t 47), none, []⟩] false)
  (.seq (.region 12 [
    ⟨(some 48), .mov (.t 6), none, []⟩,
    ⟨(some 49), .mov (.t 3), none, []⟩,
    ⟨(some 50), .mov (.t 5), none, []⟩,
    ⟨(some 51), .slice 1 (.t 49) (some (.t 50)) none none, none, []⟩,
    ⟨(some 52), .append 1 (.t 48) (.t 51), none, []⟩,
    ⟨(some 6), .mov (.t 52), none, []⟩] false)
  (.region 13 [
    ⟨(some 53), .mov (.t 6), none, []⟩,
    ⟨(some 3), .mov (.t 53), none, []⟩] false)))))))))))
  (.mask ⟨[0, 3, 4], [.slot 3 10000030 1]⟩ (.region 4 [
    ⟨(some 11), .mov (.t 4), none, []⟩,
    ⟨(some 12), .bin .add (.t 11) (.c (.d (.int .i64 (1)))), none, []⟩,
    ⟨(some 4), .mov (.t 12), none, []⟩] false))))
/-- beadle/beadleplain.Rising -/
def code_plain_Rising : AFunc := ⟨55, [.tmp 2],
  .seq (.region 0 [
    ⟨(some 2), .mov (.c (.d (.vs true []))), none, []⟩] false)
  (.seq (.region 1 [
    ⟨(some 3), .mov (.c (.d (.vs true []))), none, []⟩] false)
  (.seq (.seq (.region 2 [
    ⟨(some 4), .mov (.c (.d (.int .i64 (0)))), none, []⟩] false)
  (.block 0 (.loop mask_plain_Rising_1 body_plain_Rising_1)))
  (.mask ⟨[3], [.slot 3 10000030 1]⟩ (.seq (.region 14 [
    ⟨(some 54), .mov (.t 3), none, []⟩,
    ⟨(some 2), .mov (.t 54), none, []⟩] false)
  (.mask ⟨[2], [.slot 2 10000020 1]⟩ (.ret))))))⟩
def mask_plain_Texts_0 : Mask := ⟨[0, 1, 5], []⟩
def body_plain_Texts_0 : ACode :=
  .seq (.seq (.region 4 [
    ⟨(some 11), .mov (.t 5), none, []⟩,
    ⟨(some 12), .mov (.t 0), none, []⟩,
    ⟨(some 13), .len .sl (.t 12), none, []⟩,
    ⟨(some 14), .bin .lss (.t 11) (.t 13), none, []⟩] false)
  (.cond (.t 14)
    (.skip)
    (.mask ⟨[], []⟩ (.exit 0))))
  (.mask ⟨[0, 1, 5], []⟩ (.seq (.block 1 (.seq (.region 6 [
    ⟨(some 17), .mov (.t 0), none, []⟩,
    ⟨(some 18), .mov (.t 5), none, []⟩,
    ⟨(some 19), .iaddr 1 (.t 17) (.t 18), none, [0, 1]⟩,
    ⟨(some 20), .load 1 false (.t 19), none, [0, 1, 2]⟩,
    ⟨(some 21), .mov (.t 1), none, []⟩,
    ⟨(some 22), .mov (.t 5), none, []⟩,
    ⟨(some 23), .iaddr 1 (.t 21) (.t 22), none, [4, 5]⟩,
    ⟨(some 24), .load 1 false (.t 23), none, [4, 5, 6]⟩,
    ⟨(some 25), .bin .neq (.t 20) (.t 24), none, [0, 1, 2, 3, 4, 5, 6, 7]⟩] true)
  (.cond (.t 25)
    (.seq (.region 7 [
      ⟨(some 4), .mov (.c (.d (.bool false))), none, []⟩] false)
    (.mask ⟨[4], []⟩ (.ret)))
    (.skip))))
  (.mask ⟨[0, 1, 5], []⟩ (.region 5 [
    ⟨(some 15), .mov (.t 5), none, []⟩,
    ⟨(some 16), .bin .add (.t 15) (.c (.d (.int .i64 (1)))), none, []⟩,
    ⟨(some 5), .mov (.t 16), none, []⟩] false))))
/-- beadle/beadleplain.Texts -/
def code_plain_Texts : AFunc := ⟨26, [.tmp 4],
  .seq (.region 0 [
    ⟨(some 4), .mov (.c (.d (.bool false))), none, []⟩] false)
  (.seq (.seq (.region 1 [
    ⟨(some 6), .mov (.t 0), none, []⟩,
    ⟨(some 7), .len .sl (.t 6), none, []⟩,
    ⟨(some 8), .mov (.t 1), none, []⟩,
    ⟨(some 9), .len .sl (.t 8), none, []⟩,
    ⟨(some 10), .bin .neq (.t 7) (.t 9), none, []⟩] false)
  (.cond (.t 10)
    (.seq (.region 2 [
      ⟨(some 4), .mov (.c (.d (.bool false))), none, []⟩] false)
    (.mask ⟨[4], []⟩ (.ret)))
    (.skip)))
  (.mask ⟨[0, 1], []⟩ (.seq (.seq (.region 3 [
    ⟨(some 5), .mov (.c (.d (.int .i64 (0)))), none, []⟩] false)
  (.block 0 (.loop mask_plain_Texts_0 body_plain_Texts_0)))
  (.mask ⟨[], []⟩ (.seq (.region 8 [
    ⟨(some 4), .mov (.c (.d (.bool true))), none, []⟩] false)
  (.mask ⟨[4], []⟩ (.ret)))))))⟩
/-- beadle/roles.Has -/
def code_roles_Has : AFunc := ⟨12, [.tmp 6],
  .seq (.region 0 [
    ⟨(some 6), .mov (.c (.d (.bool false))), none, []⟩] false)
  (.seq (.region 1 [
    ⟨(some 7), .mov (.t 0), none, []⟩,
    ⟨(some 8), .mov (.t 1), none, []⟩,
    ⟨(some 9), .call (.c (.fn F_roles_Reach [])) [(.t 7), (.t 8)], none, []⟩,
    ⟨(some 10), .mov (.t 2), none, []⟩,
    ⟨(some 11), .call (.c (.fn F_slices_Contains_string_string [])) [(.t 9), (.t 10)], none, []⟩,
    ⟨(some 6), .mov (.t 11), none, []⟩] false)
  (.mask ⟨[6], []⟩ (.ret)))⟩
def mask_plain_In_0 : Mask := ⟨[0, 1, 5], []⟩
def body_plain_In_0 : ACode :=
  .seq (.seq (.region 2 [
    ⟨(some 6), .mov (.t 5), none, []⟩,
    ⟨(some 7), .mov (.t 0), none, []⟩,
    ⟨(some 8), .len .sl (.t 7), none, []⟩,
    ⟨(some 9), .bin .lss (.t 6) (.t 8), none, []⟩] false)
  (.cond (.t 9)
    (.skip)
    (.mask ⟨[], []⟩ (.exit 0))))
  (.mask ⟨[0, 1, 5], []⟩ (.seq (.block 1 (.seq (.region 4 [
    ⟨(some 12), .mov (.t 0), none, []⟩,
    ⟨(some 13), .mov (.t 5), none, []⟩,
    ⟨(some 14), .iaddr 1 (.t 12) (.t 13), none, []⟩,
    ⟨(some 15), .load 1 false (.t 14), none, []⟩,
    ⟨(some 16), .mov (.t 1), none, []⟩,
    ⟨(some 17), .bin .eql (.t 15) (.t 16), none, []⟩] false)
  (.cond (.t 17)
    (.seq (.region 5 [
      ⟨(some 4), .mov (.c (.d (.bool true))), none, []⟩] false)
    (.mask ⟨[4], []⟩ (.ret)))
    (.skip))))
  (.mask ⟨[0, 1, 5], []⟩ (.region 3 [
    ⟨(some 10), .mov (.t 5), none, []⟩,
    ⟨(some 11), .bin .add (.t 10) (.c (.d (.int .i64 (1)))), none, []⟩,
    ⟨(some 5), .mov (.t 11), none, []⟩] false))))
/-- beadle/beadleplain.In -/
def code_plain_In : AFunc := ⟨18, [.tmp 4],
  .seq (.region 0 [
    ⟨(some 4), .mov (.c (.d (.bool false))), none, []⟩] false)
  (.seq (.seq (.region 1 [
    ⟨(some 5), .mov (.c (.d (.int .i64 (0)))), none, []⟩] false)
  (.block 0 (.loop mask_plain_In_0 body_plain_In_0)))
  (.mask ⟨[], []⟩ (.seq (.region 6 [
    ⟨(some 4), .mov (.c (.d (.bool false))), none, []⟩] false)
  (.mask ⟨[4], []⟩ (.ret)))))⟩
/-- beadle/roles.Check -/
def code_roles_Check : AFunc := ⟨13, [.tmp 2],
  .seq (.region 0 [
    ⟨(some 2), .mov (.c (.d (.int .i64 (0)))), none, []⟩] false)
  (.seq (.block 0 (.seq (.region 1 [
    ⟨(some 4), .mov (.t 0), none, []⟩,
    ⟨(some 5), .len .sl (.t 4), none, []⟩,
    ⟨(some 6), .bin .gtr (.t 5) (.c (.d (.int .i64 (64)))), none, []⟩,
    ⟨(some 3), .mov (.t 6), none, []⟩] false)
  (.cond (.t 3)
    (.seq (.region 2 [
      ⟨(some 2), .mov (.c (.d (.int .i64 (3)))), none, []⟩] false)
    (.mask ⟨[2], []⟩ (.ret)))
    (.seq (.region 3 [
      ⟨(some 8), .mov (.t 0), none, []⟩,
      ⟨(some 9), .call (.c (.fn F_slices_ContainsFunc_roles_Pair_roles_Pair [])) [(.t 8), (.c (.fn F_roles_Check_1 []))], none, []⟩,
      ⟨(some 7), .mov (.t 9), none, []⟩] false)
    (.cond (.t 7)
      (.seq (.region 4 [
        ⟨(some 2), .mov (.c (.d (.int .i64 (16)))), none, []⟩] false)
      (.mask ⟨[2], []⟩ (.ret)))
      (.seq (.region 5 [
        ⟨(some 11), .mov (.t 0), none, []⟩,
        ⟨(some 12), .call (.c (.fn F_roles_ring [])) [(.t 11)], none, []⟩,
        ⟨(some 10), .mov (.t 12), none, []⟩] false)
      (.cond (.t 10)
        (.seq (.region 6 [
          ⟨(some 2), .mov (.c (.d (.int .i64 (9)))), none, []⟩] false)
        (.mask ⟨[2], []⟩ (.ret)))
        (.skip))))))))
  (.mask ⟨[], []⟩ (.seq (.region 7 [
    ⟨(some 2), .mov (.c (.d (.int .i64 (0)))), none, []⟩] false)
  (.mask ⟨[2], []⟩ (.ret)))))⟩
def mask_law31_check_0 : Mask := ⟨[0, 3], []⟩
def body_law31_check_0 : ACode :=
  .seq (.seq (.region 4 [
    ⟨(some 7), .mov (.t 3), none, []⟩,
    ⟨(some 8), .mov (.t 0), none, []⟩,
    ⟨(some 9), .len .sl (.t 8), none, []⟩,
    ⟨(some 10), .bin .lss (.t 7) (.t 9), none, []⟩] false)
  (.cond (.t 10)
    (.skip)
    (.mask ⟨[0], []⟩ (.exit 0))))
  (.mask ⟨[0, 3], []⟩ (.seq (.block 1 (.seq (.region 6 [
    ⟨(some 13), .mov (.t 0), none, []⟩,
    ⟨(some 14), .mov (.t 3), none, []⟩,
    ⟨(some 15), .iaddr 2 (.t 13) (.t 14), none, []⟩,
    ⟨(some 16), .faddr 0 (.t 15), none, []⟩,
    ⟨(some 17), .load 1 false (.t 16), none, []⟩,
    ⟨(some 18), .call (.c (.fn F_ref06_Name [])) [(.t 17)], none, []⟩,
    ⟨(some 19), .un .not (.t 18), none, []⟩,
    ⟨(some 20), .mov (.t 19), none, []⟩,
    ⟨(some 21), .mov (.t 0), (some (20, false)), []⟩,
    ⟨(some 22), .mov (.t 3), (some (20, false)), []⟩,
    ⟨(some 23), .iaddr 2 (.t 21) (.t 22), (some (20, false)), []⟩,
    ⟨(some 24), .faddr 1 (.t 23), (some (20, false)), []⟩,
    ⟨(some 25), .load 1 false (.t 24), (some (20, false)), []⟩,
    ⟨(some 26), .call (.c (.fn F_ref06_Name [])) [(.t 25)], (some (20, false)), []⟩,
    ⟨(some 27), .un .not (.t 26), (some (20, false)), []⟩,
    ⟨(some 28), .pick (.t 20) (.c (.d (.bool true))) (.t 27), none, []⟩] false)
  (.mask ⟨[0, 3, 28], []⟩ (.cond (.t 28)
    (.seq (.region 7 [
      ⟨(some 2), .mov (.c (.d (.int .i64 (16)))), none, []⟩] false)
    (.mask ⟨[2], []⟩ (.ret)))
    (.skip)))))
  (.mask ⟨[0, 3], []⟩ (.region 5 [
    ⟨(some 11), .mov (.t 3), none, []⟩,
    ⟨(some 12), .bin .add (.t 11) (.c (.d (.int .i64 (1)))), none, []⟩,
    ⟨(some 3), .mov (.t 12), none, []⟩] false))))
/-- beadle/beadlelaw31.check -/
def code_law31_check : AFunc := ⟨31, [.tmp 2],
  .seq (.region 0 [
    ⟨(some 2), .mov (.c (.d (.int .i64 (0)))), none, []⟩] false)
  (.seq (.seq (.region 1 [
    ⟨(some 4), .mov (.t 0), none, []⟩,
    ⟨(some 5), .len .sl (.t 4), none, []⟩,
    ⟨(some 6), .bin .gtr (.t 5) (.c (.d (.int .i64 (64)))), none, []⟩] false)
  (.cond (.t 6)
    (.seq (.region 2 [
      ⟨(some 2), .mov (.c (.d (.int .i64 (3)))), none, []⟩] false)
    (.mask ⟨[2], []⟩ (.ret)))
    (.skip)))
  (.mask ⟨[0], []⟩ (.seq (.seq (.region 3 [
    ⟨(some 3), .mov (.c (.d (.int .i64 (0)))), none, []⟩] false)
  (.block 0 (.loop mask_law31_check_0 body_law31_check_0)))
  (.mask ⟨[0], []⟩ (.seq (.seq (.region 8 [
    ⟨(some 29), .mov (.t 0), none, []⟩,
    ⟨(some 30), .call (.c (.fn F_law31_ring [])) [(.t 29)], none, []⟩] false)
  (.cond (.t 30)
    (.seq (.region 9 [
      ⟨(some 2), .mov (.c (.d (.int .i64 (9)))), none, []⟩] false)
    (.mask ⟨[2], []⟩ (.ret)))
    (.skip)))
  (.mask ⟨[], []⟩ (.seq (.region 10 [
    ⟨(some 2), .mov (.c (.d (.int .i64 (0)))), none, []⟩] false)
  (.mask ⟨[2], []⟩ (.ret)))))))))⟩
/-- beadle/roles.Tops -/
def code_roles_Tops : AFunc := ⟨7, [.tmp 2],
  .seq (.region 0 [
    ⟨(some 1), .box 1 (.t 0), none, []⟩,
    ⟨(some 2), .mov (.c (.d (.vs true []))), none, []⟩] false)
  (.seq (.region 1 [
    ⟨(some 3), .load 1 false (.t 1), none, []⟩,
    ⟨(some 4), .call (.c (.fn F_roles_names [])) [(.t 3)], none, []⟩,
    ⟨(some 5), .mkfn F_roles_Tops_1 [(.t 1)], none, []⟩,
    ⟨(some 6), .call (.c (.fn F_slices_DeleteFunc_string_string [])) [(.t 4), (.t 5)], none, []⟩,
    ⟨(some 2), .mov (.t 6), none, []⟩] false)
  (.mask ⟨[2], []⟩ (.ret)))⟩
def mask_law31_ring_0 : Mask := ⟨[0, 3], []⟩
def body_law31_ring_0 : ACode :=
  .seq (.seq (.region 2 [
    ⟨(some 4), .mov (.t 3), none, []⟩,
    ⟨(some 5), .mov (.t 0), none, []⟩,
    ⟨(some 6), .len .sl (.t 5), none, []⟩,
    ⟨(some 7), .bin .lss (.t 4) (.t 6), none, []⟩] false)
  (.cond (.t 7)
    (.skip)
    (.mask ⟨[], []⟩ (.exit 0))))
  (.mask ⟨[0, 3], []⟩ (.seq (.block 1 (.seq (.region 4 [
    ⟨(some 10), .mov (.t 0), none, []⟩,
    ⟨(some 11), .mov (.t 0), none, []⟩,
    ⟨(some 12), .mov (.t 3), none, []⟩,
    ⟨(some 13), .iaddr 2 (.t 11) (.t 12), none, [1, 2]⟩,
    ⟨(some 14), .faddr 1 (.t 13), none, [1, 2, 3]⟩,
    ⟨(some 15), .load 1 false (.t 14), none, [1, 2, 3, 4]⟩,
    ⟨(some 16), .call (.c (.fn F_law31_reach [])) [(.t 10), (.t 15)], none, [0, 1, 2, 3, 4, 5]⟩,
    ⟨(some 17), .mov (.t 0), none, []⟩,
    ⟨(some 18), .mov (.t 3), none, []⟩,
    ⟨(some 19), .iaddr 2 (.t 17) (.t 18), none, [7, 8]⟩,
    ⟨(some 20), .faddr 0 (.t 19), none, [7, 8, 9]⟩,
    ⟨(some 21), .load 1 false (.t 20), none, [7, 8, 9, 10]⟩,
    ⟨(some 22), .call (.c (.fn F_plain_In [])) [(.t 16), (.t 21)], none, [0, 1, 2, 3, 4, 5, 6, 7, 8, 9, 10, 11]⟩] true)
  (.cond (.t 22)
    (.seq (.region 5 [
      ⟨(some 2), .mov (.c (.d (.bool true))), none, []⟩] false)
    (.mask ⟨[2], []⟩ (.ret)))
    (.skip))))
  (.mask ⟨[0, 3], []⟩ (.region 3 [
    ⟨(some 8), .mov (.t 3), none, []⟩,
    ⟨(some 9), .bin .add (.t 8) (.c (.d (.int .i64 (1)))), none, []⟩,
    ⟨(some 3), .mov (.t 9), none, []⟩] false))))
/-- beadle/beadlelaw31.ring -/
def code_law31_ring : AFunc := ⟨23, [.tmp 2],
  .seq (.region 0 [
    ⟨(some 2), .mov (.c (.d (.bool false))), none, []⟩] false)
  (.seq (.seq (.region 1 [
    ⟨(some 3), .mov (.c (.d (.int .i64 (0)))), none, []⟩] false)
  (.block 0 (.loop mask_law31_ring_0 body_law31_ring_0)))
  (.mask ⟨[], []⟩ (.seq (.region 6 [
    ⟨(some 2), .mov (.c (.d (.bool false))), none, []⟩] false)
  (.mask ⟨[2], []⟩ (.ret)))))⟩
/-- beadle/roles.Level -/
def code_roles_Level : AFunc := ⟨11, [.tmp 4],
  .seq (.region 0 [
    ⟨(some 4), .mov (.c (.d (.int .i64 (0)))), none, []⟩] false)
  (.seq (.seq (.region 1 [
    ⟨(some 5), .mov (.t 0), none, []⟩,
    ⟨(some 6), .call (.c (.fn F_roles_ring [])) [(.t 5)], none, []⟩] false)
  (.cond (.t 6)
    (.seq (.region 2 [
      ⟨(some 4), .mov (.c (.d (.int .i64 (-1)))), none, []⟩] false)
    (.mask ⟨[4], []⟩ (.ret)))
    (.skip)))
  (.mask ⟨[0, 1], []⟩ (.seq (.region 3 [
    ⟨(some 7), .mov (.t 0), none, []⟩,
    ⟨(some 8), .mov (.t 1), none, []⟩,
    ⟨(some 9), .mkmap false [.str], none, []⟩,
    ⟨(some 10), .call (.c (.fn F_roles_level [])) [(.t 7), (.t 8), (.t 9)], none, []⟩,
    ⟨(some 4), .mov (.t 10), none, []⟩] false)
  (.mask ⟨[4], []⟩ (.ret)))))⟩
/-- beadle/roles.Reduce -/
def code_roles_Reduce : AFunc := ⟨16, [.tmp 2],
  .seq (.region 0 [
    ⟨(some 1), .box 1 (.t 0), none, []⟩,
    ⟨(some 2), .mov (.c (.d (.vs true []))), none, []⟩] false)
  (.seq (.seq (.region 1 [
    ⟨(some 4), .load 1 false (.t 1), none, []⟩,
    ⟨(some 5), .call (.c (.fn F_roles_ring [])) [(.t 4)], none, []⟩] false)
  (.cond (.t 5)
    (.seq (.region 2 [
      ⟨(some 6), .load 1 false (.t 1), none, []⟩,
      ⟨(some 7), .call (.c (.fn F_slices_Clone_roles_Pair_roles_Pair [])) [(.t 6)], none, []⟩,
      ⟨(some 2), .mov (.t 7), none, []⟩] false)
    (.mask ⟨[2], []⟩ (.ret)))
    (.skip)))
  (.mask ⟨[1], []⟩ (.seq (.region 3 [
    ⟨(some 8), .load 1 false (.t 1), none, []⟩,
    ⟨(some 9), .call (.c (.fn F_slices_Clone_roles_Pair_roles_Pair [])) [(.t 8)], none, []⟩,
    ⟨(some 10), .mkfn F_roles_Reduce_1 [(.t 1)], none, []⟩,
    ⟨(some 11), .call (.c (.fn F_slices_DeleteFunc_roles_Pair_roles_Pair [])) [(.t 9), (.t 10)], none, []⟩,
    ⟨(some 3), .mov (.t 11), none, []⟩] false)
  (.seq (.region 4 [
    ⟨(some 12), .mov (.t 3), none, []⟩,
    ⟨(some 13), .call (.c (.fn F_slices_SortFunc_roles_Pair_roles_Pair [])) [(.t 12), (.c (.fn F_roles_Reduce_2 []))], none, []⟩] false)
  (.seq (.region 5 [
    ⟨(some 14), .mov (.t 3), none, []⟩,
    ⟨(some 15), .call (.c (.fn F_slices_Compact_roles_Pair_roles_Pair [])) [(.t 14)], none, []⟩,
    ⟨(some 2), .mov (.t 15), none, []⟩] false)
  (.mask ⟨[2], []⟩ (.ret)))))))⟩
/-- beadle/beadlelaw31.without -/
def code_law31_without : AFunc := ⟨18, [.tmp 4],
  .seq (.region 0 [
    ⟨(some 4), .mov (.c (.d (.vs true []))), none, []⟩] false)
  (.seq (.region 1 [
    ⟨(some 5), .mov (.c (.d (.vs true []))), none, []⟩] false)
  (.seq (.region 2 [
    ⟨(some 6), .mov (.t 5), none, []⟩,
    ⟨(some 7), .mov (.t 0), none, []⟩,
    ⟨(some 8), .mov (.t 1), none, []⟩,
    ⟨(some 9), .slice 2 (.t 7) none (some (.t 8)) none, none, []⟩,
    ⟨(some 10), .append 2 (.t 6) (.t 9), none, []⟩,
    ⟨(some 5), .mov (.t 10), none, []⟩] false)
  (.seq (.region 3 [
    ⟨(some 11), .mov (.t 5), none, []⟩,
    ⟨(some 12), .mov (.t 0), none, []⟩,
    ⟨(some 13), .mov (.t 1), none, []⟩,
    ⟨(some 14), .bin .add (.t 13) (.c (.d (.int .i64 (1)))), none, []⟩,
    ⟨(some 15), .slice 2 (.t 12) (some (.t 14)) none none, none, []⟩,
    ⟨(some 16), .append 2 (.t 11) (.t 15), none, []⟩,
    ⟨(some 5), .mov (.t 16), none, []⟩] false)
  (.seq (.region 4 [
    ⟨(some 17), .mov (.t 5), none, []⟩,
    ⟨(some 4), .mov (.t 17), none, []⟩] false)
  (.mask ⟨[4], [.slot 4 10000040 2]⟩ (.ret))))))⟩
def mask_roles_ups_0 : Mask := ⟨[1, 5, 8, 9, 10], [.slot 5 10000050 1]⟩
def body_roles_ups_0 : ACode :=
  .seq (.region 3 [
    ⟨(some 11), .bin .lss (.t 10) (.t 9), none, []⟩] false)
  (.seq (.cond (.t 11)
    (.skip)
    (.mask ⟨[5], [.slot 5 10000050 1]⟩ (.exit 0)))
  (.mask ⟨[1, 5, 8, 9, 10], [.slot 5 10000050 1]⟩ (.seq (.block 1 (.seq (.region 4 [
    ⟨(some 12), .iaddr 2 (.t 8) (.t 10), none, []⟩,
    ⟨(some 13), .load 2 true (.t 12), none, []⟩,
    ⟨(some 7), .box 2 (.c (.agg [(.d (.str [])), (.d (.str []))])), none, []⟩,
    ⟨none, .store 2 (.t 7) (.t 13), none, []⟩] false)
  (.seq (.region 5 [
    ⟨(some 14), .faddr 0 (.t 7), none, []⟩,
    ⟨(some 15), .load 1 false (.t 14), none, []⟩,
    ⟨(some 16), .mov (.t 1), none, []⟩,
    ⟨(some 17), .bin .eql (.t 15) (.t 16), none, []⟩] false)
  (.cond (.t 17)
    (.region 6 [
      ⟨(some 18), .mov (.t 5), none, []⟩,
      ⟨(some 19), .faddr 1 (.t 7), none, []⟩,
      ⟨(some 20), .load 1 false (.t 19), none, []⟩,
      ⟨(some 21), .buildSl 1 [(.str [])] 1 [(0, (.t 20))], none, []⟩,
      ⟨(some 22), .append 1 (.t 18) (.t 21), none, []⟩,
      ⟨(some 5), .mov (.t 22), none, []⟩] false)
    (.skip)))))
  (.mask ⟨[1, 5, 8, 9, 10], [.slot 5 10000050 1]⟩ (.region 7 [
    ⟨(some 23), .bin .add (.t 10) (.c (.d (.int .i64 (1)))), none, []⟩,
    ⟨(some 10), .mov (.t 23), none, []⟩] false)))))
/-- beadle/roles.ups -/
def code_roles_ups : AFunc := ⟨25, [.tmp 4],
  .seq (.region 0 [
    ⟨(some 4), .mov (.c (.d (.vs true []))), none, []⟩] false)
  (.seq (.region 1 [
    ⟨(some 5), .mov (.c (.d (.vs true []))), none, []⟩] false)
  (.seq (.seq (.region 2 [
    ⟨(some 8), .mov (.t 0), none, []⟩,
    ⟨(some 9), .len .sl (.t 8), none, []⟩,
    ⟨(some 10), .mov (.c (.d (.int .i64 (0)))), none, []⟩] false)
  (.block 0 (.loop mask_roles_ups_0 body_roles_ups_0)))
  (.mask ⟨[5], [.slot 5 10000050 1]⟩ (.seq (.region 8 [
    ⟨(some 24), .mov (.t 5), none, []⟩,
    ⟨(some 4), .mov (.t 24), none, []⟩] false)
  (.mask ⟨[4], [.slot 4 10000040 1]⟩ (.ret))))))⟩
/-- slices.Contains[[]string,string] -/
def code_slices_Contains_string_string : AFunc := ⟨9, [.tmp 4],
  .seq (.region 0 [
    ⟨(some 4), .mov (.c (.d (.bool false))), none, []⟩] false)
  (.seq (.region 1 [
    ⟨(some 5), .mov (.t 0), none, []⟩,
    ⟨(some 6), .mov (.t 1), none, []⟩,
    ⟨(some 7), .call (.c (.fn F_slices_Index_string_string [])) [(.t 5), (.t 6)], none, []⟩,
    ⟨(some 8), .bin .geq (.t 7) (.c (.d (.int .i64 (0)))), none, []⟩,
    ⟨(some 4), .mov (.t 8), none, []⟩] false)
  (.mask ⟨[4], []⟩ (.ret)))⟩
/-- slices.Sort[[]string,string] -/
def code_slices_Sort_string_string : AFunc := ⟨11, [],
  .seq (.region 0 [
    ⟨(some 3), .mov (.t 0), none, []⟩,
    ⟨(some 4), .len .sl (.t 3), none, []⟩,
    ⟨(some 2), .mov (.t 4), none, []⟩] false)
  (.region 1 [
    ⟨(some 5), .mov (.t 0), none, []⟩,
    ⟨(some 6), .mov (.t 2), none, []⟩,
    ⟨(some 7), .mov (.t 2), none, []⟩,
    ⟨(some 8), .toInt .u64 (.t 7), none, []⟩,
    ⟨(some 9), .call (.c (.fn F_math_bits_Len [])) [(.t 8)], none, []⟩,
    ⟨(some 10), .call (.c (.fn F_slices_pdqsortOrdered_string [])) [(.t 5), (.c (.d (.int .i64 (0)))), (.t 6), (.t 9)], none, []⟩] false)⟩
/-- slices.ContainsFunc[[]beadle/roles.Pair,beadle/roles.Pair] -/
def code_slices_ContainsFunc_roles_Pair_roles_Pair : AFunc := ⟨9, [.tmp 4],
  .seq (.region 0 [
    ⟨(some 4), .mov (.c (.d (.bool false))), none, []⟩] false)
  (.seq (.region 1 [
    ⟨(some 5), .mov (.t 0), none, []⟩,
    ⟨(some 6), .mov (.t 1), none, []⟩,
    ⟨(some 7), .call (.c (.fn F_slices_IndexFunc_roles_Pair_roles_Pair [])) [(.t 5), (.t 6)], none, []⟩,
    ⟨(some 8), .bin .geq (.t 7) (.c (.d (.int .i64 (0)))), none, []⟩,
    ⟨(some 4), .mov (.t 8), none, []⟩] false)
  (.mask ⟨[4], []⟩ (.ret)))⟩
/-- beadle/roles.Check$1 -/
def code_roles_Check_1 : AFunc := ⟨13, [.tmp 2],
  .seq (.region 0 [
    ⟨(some 1), .box 2 (.t 0), none, []⟩,
    ⟨(some 2), .mov (.c (.d (.bool false))), none, []⟩] false)
  (.seq (.region 1 [
    ⟨(some 3), .faddr 0 (.t 1), none, []⟩,
    ⟨(some 4), .load 1 false (.t 3), none, []⟩,
    ⟨(some 5), .call (.c (.fn F_lex_Name [])) [(.t 4)], none, []⟩,
    ⟨(some 6), .un .not (.t 5), none, []⟩,
    ⟨(some 7), .mov (.t 6), none, []⟩,
    ⟨(some 8), .faddr 1 (.t 1), (some (7, false)), []⟩,
    ⟨(some 9), .load 1 false (.t 8), (some (7, false)), []⟩,
    ⟨(some 10), .call (.c (.fn F_lex_Name [])) [(.t 9)], (some (7, false)), []⟩,
    ⟨(some 11), .un .not (.t 10), (some (7, false)), []⟩,
    ⟨(some 12), .pick (.t 7) (.c (.d (.bool true))) (.t 11), none, []⟩,
    ⟨(some 2), .mov (.t 12), none, []⟩] false)
  (.mask ⟨[2], []⟩ (.ret)))⟩
/-- beadle/roles.ring -/
def code_roles_ring : AFunc := ⟨6, [.tmp 2],
  .seq (.region 0 [
    ⟨(some 1), .box 1 (.t 0), none, []⟩,
    ⟨(some 2), .mov (.c (.d (.bool false))), none, []⟩] false)
  (.seq (.region 1 [
    ⟨(some 3), .load 1 false (.t 1), none, []⟩,
    ⟨(some 4), .mkfn F_roles_ring_1 [(.t 1)], none, []⟩,
    ⟨(some 5), .call (.c (.fn F_slices_ContainsFunc_roles_Pair_roles_Pair [])) [(.t 3), (.t 4)], none, []⟩,
    ⟨(some 2), .mov (.t 5), none, []⟩] false)
  (.mask ⟨[2], []⟩ (.ret)))⟩
def mask_ref06_Name_0 : Mask := ⟨[0, 3], []⟩
def body_ref06_Name_0 : ACode :=
  .seq (.seq (.region 4 [
    ⟨(some 17), .mov (.t 3), none, []⟩,
    ⟨(some 18), .mov (.t 0), none, []⟩,
    ⟨(some 19), .len .str (.t 18), none, []⟩,
    ⟨(some 20), .bin .lss (.t 17) (.t 19), none, []⟩] false)
  (.cond (.t 20)
    (.skip)
    (.mask ⟨[], []⟩ (.exit 0))))
  (.mask ⟨[0, 3], []⟩ (.seq (.block 1 (.seq (.region 6 [
    ⟨(some 23), .mov (.t 0), none, []⟩,
    ⟨(some 24), .mov (.t 3), none, []⟩,
    ⟨(some 25), .idx (.t 23) (.t 24), none, []⟩,
    ⟨(some 26), .call (.c (.fn F_ref06_tail [])) [(.t 25)], none, []⟩,
    ⟨(some 27), .un .not (.t 26), none, []⟩] false)
  (.cond (.t 27)
    (.seq (.region 7 [
      ⟨(some 2), .mov (.c (.d (.bool false))), none, []⟩] false)
    (.mask ⟨[2], []⟩ (.ret)))
    (.skip))))
  (.mask ⟨[0, 3], []⟩ (.region 5 [
    ⟨(some 21), .mov (.t 3), none, []⟩,
    ⟨(some 22), .bin .add (.t 21) (.c (.d (.int .i64 (1)))), none, []⟩,
    ⟨(some 3), .mov (.t 22), none, []⟩] false))))
/-- beadle/beadleref06.Name -/
def code_ref06_Name : AFunc := ⟨28, [.tmp 2],
  .seq (.region 0 [
    ⟨(some 2), .mov (.c (.d (.bool false))), none, []⟩] false)
  (.seq (.seq (.region 1 [
    ⟨(some 4), .mov (.t 0), none, []⟩,
    ⟨(some 5), .bin .eql (.t 4) (.c (.d (.str []))), none, []⟩,
    ⟨(some 6), .mov (.t 5), none, []⟩,
    ⟨(some 7), .mov (.t 0), (some (6, false)), []⟩,
    ⟨(some 8), .len .str (.t 7), (some (6, false)), []⟩,
    ⟨(some 9), .bin .gtr (.t 8) (.c (.d (.int .i64 (16)))), (some (6, false)), []⟩,
    ⟨(some 10), .pick (.t 6) (.c (.d (.bool true))) (.t 9), none, []⟩,
    ⟨(some 11), .mov (.t 10), none, []⟩,
    ⟨(some 12), .mov (.t 0), (some (11, false)), []⟩,
    ⟨(some 13), .idx (.t 12) (.c (.d (.int .i64 (0)))), (some (11, false)), []⟩,
    ⟨(some 14), .call (.c (.fn F_ref06_head [])) [(.t 13)], (some (11, false)), []⟩,
    ⟨(some 15), .un .not (.t 14), (some (11, false)), []⟩,
    ⟨(some 16), .pick (.t 11) (.c (.d (.bool true))) (.t 15), none, []⟩] false)
  (.mask ⟨[0, 16], []⟩ (.cond (.t 16)
    (.seq (.region 2 [
      ⟨(some 2), .mov (.c (.d (.bool false))), none, []⟩] false)
    (.mask ⟨[2], []⟩ (.ret)))
    (.skip))))
  (.mask ⟨[0], []⟩ (.seq (.seq (.region 3 [
    ⟨(some 3), .mov (.c (.d (.int .i64 (1)))), none, []⟩] false)
  (.block 0 (.loop mask_ref06_Name_0 body_ref06_Name_0)))
  (.mask ⟨[], []⟩ (.seq (.region 8 [
    ⟨(some 2), .mov (.c (.d (.bool true))), none, []⟩] false)
  (.mask ⟨[2], []⟩ (.ret)))))))⟩
def mask_roles_names_0 : Mask := ⟨[3, 6, 7, 8], [.slot 3 10000030 1]⟩
def body_roles_names_0 : ACode :=
  .seq (.region 3 [
    ⟨(some 9), .bin .lss (.t 8) (.t 7), none, []⟩] false)
  (.seq (.cond (.t 9)
    (.skip)
    (.mask ⟨[3], [.slot 3 10000030 1]⟩ (.exit 0)))
  (.mask ⟨[3, 6, 7, 8], [.slot 3 10000030 1]⟩ (.seq (.block 1 (.seq (.region 4 [
    ⟨(some 10), .iaddr 2 (.t 6) (.t 8), none, []⟩,
    ⟨(some 11), .load 2 true (.t 10), none, []⟩,
    ⟨(some 5), .box 2 (.c (.agg [(.d (.str [])), (.d (.str []))])), none, []⟩,
    ⟨none, .store 2 (.t 5) (.t 11), none, []⟩] false)
  (.region 5 [
    ⟨(some 12), .mov (.t 3), none, []⟩,
    ⟨(some 13), .faddr 0 (.t 5), none, []⟩,
    ⟨(some 14), .load 1 false (.t 13), none, []⟩,
    ⟨(some 15), .faddr 1 (.t 5), none, []⟩,
    ⟨(some 16), .load 1 false (.t 15), none, []⟩,
    ⟨(some 17), .buildSl 1 [(.str [])] 2 [(0, (.t 14)), (1, (.t 16))], none, []⟩,
    ⟨(some 18), .append 1 (.t 12) (.t 17), none, []⟩,
    ⟨(some 3), .mov (.t 18), none, []⟩] false)))
  (.mask ⟨[3, 6, 7, 8], [.slot 3 10000030 1]⟩ (.region 6 [
    ⟨(some 19), .bin .add (.t 8) (.c (.d (.int .i64 (1)))), none, []⟩,
    ⟨(some 8), .mov (.t 19), none, []⟩] false)))))
/-- beadle/roles.names -/
def code_roles_names : AFunc := ⟨24, [.tmp 2],
  .seq (.region 0 [
    ⟨(some 2), .mov (.c (.d (.vs true []))), none, []⟩] false)
  (.seq (.region 1 [
    ⟨(some 3), .mov (.c (.d (.vs true []))), none, []⟩] false)
  (.seq (.seq (.region 2 [
    ⟨(some 6), .mov (.t 0), none, []⟩,
    ⟨(some 7), .len .sl (.t 6), none, []⟩,
    ⟨(some 8), .mov (.c (.d (.int .i64 (0)))), none, []⟩] false)
  (.block 0 (.loop mask_roles_names_0 body_roles_names_0)))
  (.mask ⟨[3], [.slot 3 10000030 1]⟩ (.seq (.region 7 [
    ⟨(some 20), .mov (.t 3), none, []⟩,
    ⟨(some 21), .call (.c (.fn F_slices_Sort_string_string [])) [(.t 20)], none, []⟩] false)
  (.seq (.region 8 [
    ⟨(some 22), .mov (.t 3), none, []⟩,
    ⟨(some 23), .call (.c (.fn F_slices_Compact_string_string [])) [(.t 22)], none, []⟩,
    ⟨(some 2), .mov (.t 23), none, []⟩] false)
  (.mask ⟨[2], []⟩ (.ret)))))))⟩
/-- beadle/roles.Tops$1 -/
def code_roles_Tops_1 : AFunc := ⟨9, [.tmp 3],
  .seq (.region 0 [
    ⟨(some 3), .mov (.c (.d (.bool false))), none, []⟩] false)
  (.seq (.region 1 [
    ⟨(some 4), .load 1 false (.t 1), none, []⟩,
    ⟨(some 5), .mov (.t 0), none, []⟩,
    ⟨(some 6), .call (.c (.fn F_roles_ups [])) [(.t 4), (.t 5)], none, []⟩,
    ⟨(some 7), .len .sl (.t 6), none, []⟩,
    ⟨(some 8), .bin .gtr (.t 7) (.c (.d (.int .i64 (0)))), none, []⟩,
    ⟨(some 3), .mov (.t 8), none, []⟩] false)
  (.mask ⟨[3], []⟩ (.ret)))⟩
def mask_slices_DeleteFunc_string_string_0 : Mask := ⟨[0, 1, 5, 6], []⟩
def body_slices_DeleteFunc_string_string_0 : ACode :=
  .seq (.seq (.region 5 [
    ⟨(some 16), .mov (.t 6), none, []⟩,
    ⟨(some 17), .mov (.t 0), none, []⟩,
    ⟨(some 18), .len .sl (.t 17), none, []⟩,
    ⟨(some 19), .bin .lss (.t 16) (.t 18), none, []⟩] false)
  (.cond (.t 19)
    (.skip)
    (.mask ⟨[0, 5], []⟩ (.exit 0))))
  (.mask ⟨[0, 1, 5, 6], []⟩ (.seq (.block 1 (.seq (.region 7 [
    ⟨(some 22), .mov (.t 0), none, []⟩,
    ⟨(some 23), .mov (.t 6), none, []⟩,
    ⟨(some 24), .iaddr 1 (.t 22) (.t 23), none, []⟩,
    ⟨(some 25), .load 1 false (.t 24), none, []⟩,
    ⟨(some 7), .mov (.t 25), none, []⟩] false)
  (.seq (.region 8 [
    ⟨(some 26), .mov (.t 1), none, []⟩,
    ⟨(some 27), .mov (.t 7), none, []⟩,
    ⟨(some 28), .call (.t 26) [(.t 27)], none, []⟩,
    ⟨(some 29), .un .not (.t 28), none, []⟩] false)
  (.cond (.t 29)
    (.seq (.region 9 [
      ⟨(some 30), .mov (.t 0), none, []⟩,
      ⟨(some 31), .mov (.t 5), none, []⟩,
      ⟨(some 32), .mov (.t 7), none, []⟩,
      ⟨(some 33), .iaddr 1 (.t 30) (.t 31), none, []⟩,
      ⟨none, .store 1 (.t 33) (.t 32), none, []⟩] false)
    (.region 10 [
      ⟨(some 34), .mov (.t 5), none, []⟩,
      ⟨(some 35), .bin .add (.t 34) (.c (.d (.int .i64 (1)))), none, []⟩,
      ⟨(some 5), .mov (.t 35), none, []⟩] false))
    (.skip)))))
  (.mask ⟨[0, 1, 5, 6], []⟩ (.region 6 [
    ⟨(some 20), .mov (.t 6), none, []⟩,
    ⟨(some 21), .bin .add (.t 20) (.c (.d (.int .i64 (1)))), none, []⟩,
    ⟨(some 6), .mov (.t 21), none, []⟩] false))))
/-- slices.DeleteFunc[[]string,string] -/
def code_slices_DeleteFunc_string_string : AFunc := ⟨42, [.tmp 4],
  .seq (.region 0 [
    ⟨(some 4), .mov (.c (.d (.vs true []))), none, []⟩] false)
  (.seq (.region 1 [
    ⟨(some 8), .mov (.t 0), none, []⟩,
    ⟨(some 9), .mov (.t 1), none, []⟩,
    ⟨(some 10), .call (.c (.fn F_slices_IndexFunc_string_string [])) [(.t 8), (.t 9)], none, []⟩,
    ⟨(some 5), .mov (.t 10), none, []⟩] false)
  (.seq (.seq (.region 2 [
    ⟨(some 11), .mov (.t 5), none, []⟩,
    ⟨(some 12), .bin .eql (.t 11) (.c (.d (.int .i64 (-1)))), none, []⟩] false)
  (.cond (.t 12)
    (.seq (.region 3 [
      ⟨(some 13), .mov (.t 0), none, []⟩,
      ⟨(some 4), .mov (.t 13), none, []⟩] false)
    (.mask ⟨[4], []⟩ (.ret)))
    (.skip)))
  (.mask ⟨[0, 1, 5], []⟩ (.seq (.seq (.region 4 [
    ⟨(some 14), .mov (.t 5), none, []⟩,
    ⟨(some 15), .bin .add (.t 14) (.c (.d (.int .i64 (1)))), none, []⟩,
    ⟨(some 6), .mov (.t 15), none, []⟩] false)
  (.block 0 (.loop mask_slices_DeleteFunc_string_string_0 body_slices_DeleteFunc_string_string_0)))
  (.mask ⟨[0, 5], []⟩ (.seq (.region 11 [
    ⟨(some 36), .mov (.t 0), none, []⟩,
    ⟨(some 37), .mov (.t 5), none, []⟩,
    ⟨(some 38), .slice 1 (.t 36) (some (.t 37)) none none, none, []⟩,
    ⟨none, .clear [(.str [])] (.t 38), none, []⟩] false)
  (.seq (.region 12 [
    ⟨(some 39), .mov (.t 0), none, []⟩,
    ⟨(some 40), .mov (.t 5), none, []⟩,
    ⟨(some 41), .slice 1 (.t 39) none (some (.t 40)) none, none, []⟩,
    ⟨(some 4), .mov (.t 41), none, []⟩] false)
  (.mask ⟨[4], []⟩ (.ret)))))))))⟩
def mask_roles_level_0 : Mask := ⟨[0, 1, 2, 9, 22, 23, 24], []⟩
def body_roles_level_0 : ACode :=
  .seq (.region 6 [
    ⟨(some 25), .bin .lss (.t 24) (.t 23), none, []⟩] false)
  (.seq (.cond (.t 25)
    (.skip)
    (.mask ⟨[1, 2, 9], []⟩ (.exit 0)))
  (.mask ⟨[0, 1, 2, 9, 22, 23, 24], []⟩ (.seq (.block 1 (.seq (.region 7 [
    ⟨(some 26), .iaddr 1 (.t 22) (.t 24), none, []⟩,
    ⟨(some 27), .load 1 false (.t 26), none, []⟩,
    ⟨(some 11), .mov (.t 27), none, []⟩] false)
  (.region 8 [
    ⟨(some 28), .mov (.t 9), none, []⟩,
    ⟨(some 29), .mov (.t 0), none, []⟩,
    ⟨(some 30), .mov (.t 11), none, []⟩,
    ⟨(some 31), .mov (.t 2), none, []⟩,
    ⟨(some 32), .call (.c (.fn F_roles_level [])) [(.t 29), (.t 30), (.t 31)], none, []⟩,
    ⟨(some 33), .bin .add (.t 32) (.c (.d (.int .i64 (1)))), none, []⟩,
    ⟨(some 34), .best true [(.t 28), (.t 33)], none, []⟩,
    ⟨(some 9), .mov (.t 34), none, []⟩] false)))
  (.mask ⟨[0, 1, 2, 9, 22, 23, 24], []⟩ (.region 9 [
    ⟨(some 35), .bin .add (.t 24) (.c (.d (.int .i64 (1)))), none, []⟩,
    ⟨(some 24), .mov (.t 35), none, []⟩] false)))))
/-- beadle/roles.level -/
def code_roles_level : AFunc := ⟨40, [.tmp 6],
  .seq (.region 0 [
    ⟨(some 6), .mov (.c (.d (.int .i64 (0)))), none, []⟩] false)
  (.seq (.seq (.region 1 [
    ⟨(some 13), .mov (.t 2), none, []⟩,
    ⟨(some 14), .mov (.t 1), none, []⟩,
    ⟨(some 15), .lookup false [.str] (.d (.int .i64 (0))) (.t 13) (.t 14) true, none, []⟩,
    ⟨(some 12), .mov (.t 15), none, []⟩,
    ⟨(some 16), .extract (.t 12) 0, none, []⟩,
    ⟨(some 17), .extract (.t 12) 1, none, []⟩,
    ⟨(some 7), .mov (.t 16), none, []⟩,
    ⟨(some 8), .mov (.t 17), none, []⟩] false)
  (.seq (.region 2 [
    ⟨(some 18), .mov (.t 8), none, []⟩] false)
  (.cond (.t 18)
    (.seq (.region 3 [
      ⟨(some 19), .mov (.t 7), none, []⟩,
      ⟨(some 6), .mov (.t 19), none, []⟩] false)
    (.mask ⟨[6], []⟩ (.ret)))
    (.skip))))
  (.mask ⟨[0, 1, 2], []⟩ (.seq (.region 4 [
    ⟨(some 9), .mov (.c (.d (.int .i64 (0)))), none, []⟩] false)
  (.seq (.seq (.region 5 [
    ⟨(some 20), .mov (.t 0), none, []⟩,
    ⟨(some 21), .mov (.t 1), none, []⟩,
    ⟨(some 22), .call (.c (.fn F_roles_ups [])) [(.t 20), (.t 21)], none, []⟩,
    ⟨(some 23), .len .sl (.t 22), none, []⟩,
    ⟨(some 24), .mov (.c (.d (.int .i64 (0)))), none, []⟩] false)
  (.block 0 (.loop mask_roles_level_0 body_roles_level_0)))
  (.mask ⟨[1, 2, 9], []⟩ (.seq (.region 10 [
    ⟨(some 36), .mov (.t 2), none, []⟩,
    ⟨(some 37), .mov (.t 1), none, []⟩,
    ⟨(some 38), .mov (.t 9), none, []⟩,
    ⟨none, .mapupd false [.str] (.t 36) (.t 37) (.t 38), none, []⟩] false)
  (.seq (.region 11 [
    ⟨(some 39), .mov (.t 9), none, []⟩,
    ⟨(some 6), .mov (.t 39), none, []⟩] false)
  (.mask ⟨[6], []⟩ (.ret)))))))))⟩
/-- slices.Clone[[]beadle/roles.Pair,beadle/roles.Pair] -/
def code_slices_Clone_roles_Pair_roles_Pair : AFunc := ⟨8, [.tmp 2],
  .seq (.region 0 [
    ⟨(some 2), .mov (.c (.d (.vs true []))), none, []⟩] false)
  (.guard (.region 1 [
    ⟨(some 3), .mov (.t 0), none, []⟩,
    ⟨(some 4), .isnil .s false (.t 3), none, []⟩] false) (.t 4)
    (.seq (.region 2 [
      ⟨(some 2), .mov (.c (.d (.vs true []))), none, []⟩] false)
    (.mask ⟨[2], [.slot 2 10000020 2]⟩ (.ret)))
  (.mask ⟨[0], []⟩ (.seq (.region 3 [
    ⟨(some 5), .buildSl 2 [(.str []), (.str [])] 0 [], none, []⟩,
    ⟨(some 6), .mov (.t 0), none, []⟩,
    ⟨(some 7), .append 2 (.t 5) (.t 6), none, []⟩,
    ⟨(some 2), .mov (.t 7), none, []⟩] false)
  (.mask ⟨[2], [.slot 2 10000020 2]⟩ (.ret)))))⟩
/-- beadle/roles.Reduce$1 -/
def code_roles_Reduce_1 : AFunc := ⟨7, [.tmp 3],
  .seq (.region 0 [
    ⟨(some 2), .box 2 (.t 0), none, []⟩,
    ⟨(some 3), .mov (.c (.d (.bool false))), none, []⟩] false)
  (.seq (.region 1 [
    ⟨(some 4), .load 1 false (.t 1), none, []⟩,
    ⟨(some 5), .load 2 true (.t 2), none, []⟩,
    ⟨(some 6), .call (.c (.fn F_roles_long [])) [(.t 4), (.t 5)], none, []⟩,
    ⟨(some 3), .mov (.t 6), none, []⟩] false)
  (.mask ⟨[3], []⟩ (.ret)))⟩
def mask_slices_DeleteFunc_roles_Pair_roles_Pair_0 : Mask := ⟨[0, 1, 5, 6], []⟩
def body_slices_DeleteFunc_roles_Pair_roles_Pair_0 : ACode :=
  .seq (.seq (.region 5 [
    ⟨(some 16), .mov (.t 6), none, []⟩,
    ⟨(some 17), .mov (.t 0), none, []⟩,
    ⟨(some 18), .len .sl (.t 17), none, []⟩,
    ⟨(some 19), .bin .lss (.t 16) (.t 18), none, []⟩] false)
  (.cond (.t 19)
    (.skip)
    (.mask ⟨[0, 5], []⟩ (.exit 0))))
  (.mask ⟨[0, 1, 5, 6], []⟩ (.seq (.block 1 (.seq (.region 7 [
    ⟨(some 22), .mov (.t 0), none, []⟩,
    ⟨(some 23), .mov (.t 6), none, []⟩,
    ⟨(some 24), .iaddr 2 (.t 22) (.t 23), none, []⟩,
    ⟨(some 25), .load 2 true (.t 24), none, []⟩,
    ⟨(some 7), .box 2 (.c (.agg [(.d (.str [])), (.d (.str []))])), none, []⟩,
    ⟨none, .store 2 (.t 7) (.t 25), none, []⟩] false)
  (.seq (.region 8 [
    ⟨(some 26), .mov (.t 1), none, []⟩,
    ⟨(some 27), .load 2 true (.t 7), none, []⟩,
    ⟨(some 28), .call (.t 26) [(.t 27)], none, []⟩,
    ⟨(some 29), .un .not (.t 28), none, []⟩] false)
  (.cond (.t 29)
    (.seq (.region 9 [
      ⟨(some 30), .mov (.t 0), none, []⟩,
      ⟨(some 31), .mov (.t 5), none, []⟩,
      ⟨(some 32), .load 2 true (.t 7), none, []⟩,
      ⟨(some 33), .iaddr 2 (.t 30) (.t 31), none, []⟩,
      ⟨none, .store 2 (.t 33) (.t 32), none, []⟩] false)
    (.region 10 [
      ⟨(some 34), .mov (.t 5), none, []⟩,
      ⟨(some 35), .bin .add (.t 34) (.c (.d (.int .i64 (1)))), none, []⟩,
      ⟨(some 5), .mov (.t 35), none, []⟩] false))
    (.skip)))))
  (.mask ⟨[0, 1, 5, 6], []⟩ (.region 6 [
    ⟨(some 20), .mov (.t 6), none, []⟩,
    ⟨(some 21), .bin .add (.t 20) (.c (.d (.int .i64 (1)))), none, []⟩,
    ⟨(some 6), .mov (.t 21), none, []⟩] false))))
/-- slices.DeleteFunc[[]beadle/roles.Pair,beadle/roles.Pair] -/
def code_slices_DeleteFunc_roles_Pair_roles_Pair : AFunc := ⟨42, [.tmp 4],
  .seq (.region 0 [
    ⟨(some 4), .mov (.c (.d (.vs true []))), none, []⟩] false)
  (.seq (.region 1 [
    ⟨(some 8), .mov (.t 0), none, []⟩,
    ⟨(some 9), .mov (.t 1), none, []⟩,
    ⟨(some 10), .call (.c (.fn F_slices_IndexFunc_roles_Pair_roles_Pair [])) [(.t 8), (.t 9)], none, []⟩,
    ⟨(some 5), .mov (.t 10), none, []⟩] false)
  (.seq (.seq (.region 2 [
    ⟨(some 11), .mov (.t 5), none, []⟩,
    ⟨(some 12), .bin .eql (.t 11) (.c (.d (.int .i64 (-1)))), none, []⟩] false)
  (.cond (.t 12)
    (.seq (.region 3 [
      ⟨(some 13), .mov (.t 0), none, []⟩,
      ⟨(some 4), .mov (.t 13), none, []⟩] false)
    (.mask ⟨[4], []⟩ (.ret)))
    (.skip)))
  (.mask ⟨[0, 1, 5], []⟩ (.seq (.seq (.region 4 [
    ⟨(some 14), .mov (.t 5), none, []⟩,
    ⟨(some 15), .bin .add (.t 14) (.c (.d (.int .i64 (1)))), none, []⟩,
    ⟨(some 6), .mov (.t 15), none, []⟩] false)
  (.block 0 (.loop mask_slices_DeleteFunc_roles_Pair_roles_Pair_0 body_slices_DeleteFunc_roles_Pair_roles_Pair_0)))
  (.mask ⟨[0, 5], []⟩ (.seq (.region 11 [
    ⟨(some 36), .mov (.t 0), none, []⟩,
    ⟨(some 37), .mov (.t 5), none, []⟩,
    ⟨(some 38), .slice 2 (.t 36) (some (.t 37)) none none, none, []⟩,
    ⟨none, .clear [(.str []), (.str [])] (.t 38), none, []⟩] false)
  (.seq (.region 12 [
    ⟨(some 39), .mov (.t 0), none, []⟩,
    ⟨(some 40), .mov (.t 5), none, []⟩,
    ⟨(some 41), .slice 2 (.t 39) none (some (.t 40)) none, none, []⟩,
    ⟨(some 4), .mov (.t 41), none, []⟩] false)
  (.mask ⟨[4], []⟩ (.ret)))))))))⟩
/-- slices.SortFunc[[]beadle/roles.Pair,beadle/roles.Pair] -/
def code_slices_SortFunc_roles_Pair_roles_Pair : AFunc := ⟨14, [],
  .seq (.region 0 [
    ⟨(some 5), .mov (.t 0), none, []⟩,
    ⟨(some 6), .len .sl (.t 5), none, []⟩,
    ⟨(some 4), .mov (.t 6), none, []⟩] false)
  (.region 1 [
    ⟨(some 7), .mov (.t 0), none, []⟩,
    ⟨(some 8), .mov (.t 4), none, []⟩,
    ⟨(some 9), .mov (.t 4), none, []⟩,
    ⟨(some 10), .toInt .u64 (.t 9), none, []⟩,
    ⟨(some 11), .call (.c (.fn F_math_bits_Len [])) [(.t 10)], none, []⟩,
    ⟨(some 12), .mov (.t 1), none, []⟩,
    ⟨(some 13), .call (.c (.fn F_slices_pdqsortCmpFunc_roles_Pair [])) [(.t 7), (.c (.d (.int .i64 (0)))), (.t 8), (.t 11), (.t 12)], none, []⟩] false)⟩
/-- beadle/roles.Reduce$2 -/
def code_roles_Reduce_2 : AFunc := ⟨17, [.tmp 4],
  .seq (.region 0 [
    ⟨(some 2), .box 2 (.t 0), none, []⟩,
    ⟨(some 3), .box 2 (.t 1), none, []⟩,
    ⟨(some 4), .mov (.c (.d (.int .i64 (0)))), none, []⟩] false)
  (.seq (.region 1 [
    ⟨(some 5), .faddr 0 (.t 2), none, []⟩,
    ⟨(some 6), .load 1 false (.t 5), none, [0]⟩,
    ⟨(some 7), .faddr 0 (.t 3), none, []⟩,
    ⟨(some 8), .load 1 false (.t 7), none, [2]⟩,
    ⟨(some 9), .call (.c (.fn F_cmp_Compare_string [])) [(.t 6), (.t 8)], none, [0, 1, 2, 3]⟩,
    ⟨(some 10), .faddr 1 (.t 2), none, []⟩,
    ⟨(some 11), .load 1 false (.t 10), none, [5]⟩,
    ⟨(some 12), .faddr 1 (.t 3), none, []⟩,
    ⟨(some 13), .load 1 false (.t 12), none, [7]⟩,
    ⟨(some 14), .call (.c (.fn F_cmp_Compare_string [])) [(.t 11), (.t 13)], none, [0, 1, 2, 3, 4, 5, 6, 7, 8]⟩,
    ⟨(some 15), .buildSl 1 [(.int .i64 (0))] 2 [(0, (.t 9)), (1, (.t 14))], none, [0, 1, 2, 3, 4, 5, 6, 7, 8, 9]⟩,
    ⟨(some 16), .call (.c (.fn F_cmp_Or_int [])) [(.t 15)], none, [0, 1, 2, 3, 4, 5, 6, 7, 8, 9, 10]⟩,
    ⟨(some 4), .mov (.t 16), none, [0, 1, 2, 3, 4, 5, 6, 7, 8, 9, 10, 11]⟩] true)
  (.mask ⟨[4], []⟩ (.ret)))⟩
def mask_slices_Compact_roles_Pair_roles_Pair_0 : Mask := ⟨[0, 3, 4, 5], []⟩
def body_slices_Compact_roles_Pair_roles_Pair_0 : ACode :=
  .seq (.seq (.region 9 [
    ⟨(some 29), .mov (.t 5), none, []⟩,
    ⟨(some 30), .mov (.t 4), none, []⟩,
    ⟨(some 31), .len .sl (.t 30), none, []⟩,
    ⟨(some 32), .bin .lss (.t 29) (.t 31), none, []⟩] false)
  (.cond (.t 32)
    (.skip)
    (.mask ⟨[0, 3], []⟩ (.exit 2))))
  (.mask ⟨[0, 3, 4, 5], []⟩ (.seq (.block 3 (.seq (.region 11 [
    ⟨(some 35), .mov (.t 4), none, []⟩,
    ⟨(some 36), .mov (.t 5), none, []⟩,
    ⟨(some 37), .iaddr 2 (.t 35) (.t 36), none, [0, 1]⟩,
    ⟨(some 38), .load 2 true (.t 37), none, [0, 1, 2]⟩,
    ⟨(some 39), .mov (.t 4), none, []⟩,
    ⟨(some 40), .mov (.t 5), none, []⟩,
    ⟨(some 41), .bin .sub (.t 40) (.c (.d (.int .i64 (1)))), none, [5]⟩,
    ⟨(some 42), .iaddr 2 (.t 39) (.t 41), none, [4, 5, 6]⟩,
    ⟨(some 43), .load 2 true (.t 42), none, [4, 5, 6, 7]⟩,
    ⟨(some 44), .eqagg [.str, .str] true (.t 38) (.t 43), none, [0, 1, 2, 3, 4, 5, 6, 7, 8]⟩] true)
  (.cond (.t 44)
    (.seq (.region 12 [
      ⟨(some 45), .mov (.t 0), none, []⟩,
      ⟨(some 46), .mov (.t 3), none, []⟩,
      ⟨(some 47), .mov (.t 4), none, []⟩,
      ⟨(some 48), .mov (.t 5), none, []⟩,
      ⟨(some 49), .iaddr 2 (.t 47) (.t 48), none, []⟩,
      ⟨(some 50), .load 2 true (.t 49), none, []⟩,
      ⟨(some 51), .iaddr 2 (.t 45) (.t 46), none, []⟩,
      ⟨none, .store 2 (.t 51) (.t 50), none, []⟩] false)
    (.region 13 [
      ⟨(some 52), .mov (.t 3), none, []⟩,
      ⟨(some 53), .bin .add (.t 52) (.c (.d (.int .i64 (1)))), none, []⟩,
      ⟨(some 3), .mov (.t 53), none, []⟩] false))
    (.skip))))
  (.mask ⟨[0, 3, 4, 5], []⟩ (.region 10 [
    ⟨(some 33), .mov (.t 5), none, []⟩,
    ⟨(some 34), .bin .add (.t 33) (.c (.d (.int .i64 (1)))), none, []⟩,
    ⟨(some 5), .mov (.t 34), none, []⟩] false))))
def mask_slices_Compact_roles_Pair_roles_Pair_1 : Mask := ⟨[0, 3], []⟩
def body_slices_Compact_roles_Pair_roles_Pair_1 : ACode :=
  .seq (.seq (.region 4 [
    ⟨(some 10), .mov (.t 3), none, []⟩,
    ⟨(some 11), .mov (.t 0), none, []⟩,
    ⟨(some 12), .len .sl (.t 11), none, []⟩,
    ⟨(some 13), .bin .lss (.t 10) (.t 12), none, []⟩] false)
  (.cond (.t 13)
    (.skip)
    (.mask ⟨[0], []⟩ (.exit 0))))
  (.mask ⟨[0, 3], []⟩ (.seq (.block 1 (.seq (.region 6 [
    ⟨(some 16), .mov (.t 0), none, []⟩,
    ⟨(some 17), .mov (.t 3), none, []⟩,
    ⟨(some 18), .iaddr 2 (.t 16) (.t 17), none, [0, 1]⟩,
    ⟨(some 19), .load 2 true (.t 18), none, [0, 1, 2]⟩,
    ⟨(some 20), .mov (.t 0), none, []⟩,
    ⟨(some 21), .mov (.t 3), none, []⟩,
    ⟨(some 22), .bin .sub (.t 21) (.c (.d (.int .i64 (1)))), none, [5]⟩,
    ⟨(some 23), .iaddr 2 (.t 20) (.t 22), none, [4, 5, 6]⟩,
    ⟨(some 24), .load 2 true (.t 23), none, [4, 5, 6, 7]⟩,
    ⟨(some 25), .eqagg [.str, .str] false (.t 19) (.t 24), none, [0, 1, 2, 3, 4, 5, 6, 7, 8]⟩] true)
  (.cond (.t 25)
    (.seq (.region 7 [
      ⟨(some 26), .mov (.t 0), none, []⟩,
      ⟨(some 27), .mov (.t 3), none, []⟩,
      ⟨(some 28), .slice 2 (.t 26) (some (.t 27)) none none, none, []⟩,
      ⟨(some 4), .mov (.t 28), none, []⟩] false)
    (.seq (.seq (.region 8 [
      ⟨(some 5), .mov (.c (.d (.int .i64 (1)))), none, []⟩] false)
    (.block 2 (.loop mask_slices_Compact_roles_Pair_roles_Pair_0 body_slices_Compact_roles_Pair_roles_Pair_0)))
    (.mask ⟨[0, 3], []⟩ (.seq (.region 14 [
      ⟨(some 54), .mov (.t 0), none, []⟩,
      ⟨(some 55), .mov (.t 3), none, []⟩,
      ⟨(some 56), .slice 2 (.t 54) (some (.t 55)) none none, none, []⟩,
      ⟨none, .clear [(.str []), (.str [])] (.t 56), none, []⟩] false)
    (.seq (.region 15 [
      ⟨(some 57), .mov (.t 0), none, []⟩,
      ⟨(some 58), .mov (.t 3), none, []⟩,
      ⟨(some 59), .slice 2 (.t 57) none (some (.t 58)) none, none, []⟩,
      ⟨(some 2), .mov (.t 59), none, []⟩] false)
    (.mask ⟨[2], []⟩ (.ret)))))))
    (.skip))))
  (.mask ⟨[0, 3], []⟩ (.region 5 [
    ⟨(some 14), .mov (.t 3), none, []⟩,
    ⟨(some 15), .bin .add (.t 14) (.c (.d (.int .i64 (1)))), none, []⟩,
    ⟨(some 3), .mov (.t 15), none, []⟩] false))))
/-- slices.Compact[[]beadle/roles.Pair,beadle/roles.Pair] -/
def code_slices_Compact_roles_Pair_roles_Pair : AFunc := ⟨61, [.tmp 2],
  .seq (.region 0 [
    ⟨(some 2), .mov (.c (.d (.vs true []))), none, []⟩] false)
  (.seq (.seq (.region 1 [
    ⟨(some 6), .mov (.t 0), none, []⟩,
    ⟨(some 7), .len .sl (.t 6), none, []⟩,
    ⟨(some 8), .bin .lss (.t 7) (.c (.d (.int .i64 (2)))), none, []⟩] false)
  (.cond (.t 8)
    (.seq (.region 2 [
      ⟨(some 9), .mov (.t 0), none, []⟩,
      ⟨(some 2), .mov (.t 9), none, []⟩] false)
    (.mask ⟨[2], []⟩ (.ret)))
    (.skip)))
  (.mask ⟨[0], []⟩ (.seq (.seq (.region 3 [
    ⟨(some 3), .mov (.c (.d (.int .i64 (1)))), none, []⟩] false)
  (.block 0 (.loop mask_slices_Compact_roles_Pair_roles_Pair_1 body_slices_Compact_roles_Pair_roles_Pair_1)))
  (.mask ⟨[0], []⟩ (.seq (.region 16 [
    ⟨(some 60), .mov (.t 0), none, []⟩,
    ⟨(some 2), .mov (.t 60), none, []⟩] false)
  (.mask ⟨[2], []⟩ (.ret)))))))⟩
def mask_slices_Index_string_string_0 : Mask := ⟨[0, 1, 7, 8], []⟩
def body_slices_Index_string_string_0 : ACode :=
  .seq (.region 2 [
    ⟨(some 9), .bin .lss (.t 8) (.t 7), none, []⟩] false)
  (.seq (.cond (.t 9)
    (.skip)
    (.mask ⟨[], []⟩ (.exit 0)))
  (.mask ⟨[0, 1, 7, 8], []⟩ (.seq (.block 1 (.seq (.region 3 [
    ⟨(some 10), .mov (.t 8), none, []⟩,
    ⟨(some 5), .mov (.t 10), none, []⟩] false)
  (.seq (.region 4 [
    ⟨(some 11), .mov (.t 1), none, []⟩,
    ⟨(some 12), .mov (.t 0), none, []⟩,
    ⟨(some 13), .mov (.t 5), none, []⟩,
    ⟨(some 14), .iaddr 1 (.t 12) (.t 13), none, []⟩,
    ⟨(some 15), .load 1 false (.t 14), none, []⟩,
    ⟨(some 16), .bin .eql (.t 11) (.t 15), none, []⟩] false)
  (.cond (.t 16)
    (.seq (.region 5 [
      ⟨(some 17), .mov (.t 5), none, []⟩,
      ⟨(some 4), .mov (.t 17), none, []⟩] false)
    (.mask ⟨[4], []⟩ (.ret)))
    (.skip)))))
  (.mask ⟨[0, 1, 7, 8], []⟩ (.region 6 [
    ⟨(some 18), .bin .add (.t 8) (.c (.d (.int .i64 (1)))), none, []⟩,
    ⟨(some 8), .mov (.t 18), none, []⟩] false)))))
/-- slices.Index[[]string,string] -/
def code_slices_Index_string_string : AFunc := ⟨19, [.tmp 4],
  .seq (.region 0 [
    ⟨(some 4), .mov (.c (.d (.int .i64 (0)))), none, []⟩] false)
  (.seq (.seq (.region 1 [
    ⟨(some 6), .mov (.t 0), none, []⟩,
    ⟨(some 7), .len .sl (.t 6), none, []⟩,
    ⟨(some 8), .mov (.c (.d (.int .i64 (0)))), none, []⟩] false)
  (.block 0 (.loop mask_slices_Index_string_string_0 body_slices_Index_string_string_0)))
  (.mask ⟨[], []⟩ (.seq (.region 7 [
    ⟨(some 4), .mov (.c (.d (.int .i64 (-1)))), none, []⟩] false)
  (.mask ⟨[4], []⟩ (.ret)))))⟩
/-- math/bits.Len -/
def code_math_bits_Len : AFunc := ⟨8, [.tmp 2],
  .seq (.region 0 [
    ⟨(some 2), .mov (.c (.d (.int .i64 (0)))), none, []⟩] false)
  (.seq (.cond (.c (.d (.bool false)))
    (.seq (.region 1 [
      ⟨(some 3), .mov (.t 0), none, []⟩,
      ⟨(some 4), .toInt .u32 (.t 3), none, []⟩,
      ⟨(some 5), .call (.c (.fn F_math_bits_Len32 [])) [(.t 4)], none, []⟩,
      ⟨(some 2), .mov (.t 5), none, []⟩] false)
    (.mask ⟨[2], []⟩ (.ret)))
    (.skip))
  (.mask ⟨[0], []⟩ (.seq (.region 2 [
    ⟨(some 6), .mov (.t 0), none, []⟩,
    ⟨(some 7), .call (.c (.fn F_math_bits_Len64 [])) [(.t 6)], none, []⟩,
    ⟨(some 2), .mov (.t 7), none, []⟩] false)
  (.mask ⟨[2], []⟩ (.ret)))))⟩
def mask_slices_pdqsortOrdered_string_0 : Mask := ⟨[0, 1, 2, 3, 8, 9], []⟩
def body_slices_pdqsortOrdered_string_0 : ACode :=
  .block 1 (.seq (.region 2 [
    ⟨(some 19), .mov (.t 2), none, []⟩,
    ⟨(some 20), .mov (.t 1), none, []⟩,
    ⟨(some 21), .bin .sub (.t 19) (.t 20), none, []⟩,
    ⟨(some 10), .mov (.t 21), none, []⟩] false)
  (.seq (.seq (.region 3 [
    ⟨(some 22), .mov (.t 10), none, []⟩,
    ⟨(some 23), .bin .leq (.t 22) (.c (.d (.int .i64 (12)))), none, []⟩] false)
  (.cond (.t 23)
    (.seq (.region 4 [
      ⟨(some 24), .mov (.t 0), none, []⟩,
      ⟨(some 25), .mov (.t 1), none, []⟩,
      ⟨(some 26), .mov (.t 2), none, []⟩,
      ⟨(some 27), .call (.c (.fn F_slices_insertionSortOrdered_string [])) [(.t 24), (.t 25), (.t 26)], none, []⟩] false)
    (.mask ⟨[], []⟩ (.ret)))
    (.skip)))
  (.mask ⟨[0, 1, 2, 3, 8, 9, 10], []⟩ (.seq (.seq (.region 5 [
    ⟨(some 28), .mov (.t 3), none, []⟩,
    ⟨(some 29), .bin .eql (.t 28) (.c (.d (.int .i64 (0)))), none, []⟩] false)
  (.cond (.t 29)
    (.seq (.region 6 [
      ⟨(some 30), .mov (.t 0), none, []⟩,
      ⟨(some 31), .mov (.t 1), none, []⟩,
      ⟨(some 32), .mov (.t 2), none, []⟩,
      ⟨(some 33), .call (.c (.fn F_slices_heapSortOrdered_string [])) [(.t 30), (.t 31), (.t 32)], none, []⟩] false)
    (.mask ⟨[], []⟩ (.ret)))
    (.skip)))
  (.mask ⟨[0, 1, 2, 3, 8, 9, 10], []⟩ (.seq (.seq (.region 7 [
    ⟨(some 34), .mov (.t 8), none, []⟩,
    ⟨(some 35), .un .not (.t 34), none, []⟩] false)
  (.cond (.t 35)
    (.seq (.region 8 [
      ⟨(some 36), .mov (.t 0), none, []⟩,
      ⟨(some 37), .mov (.t 1), none, []⟩,
      ⟨(some 38), .mov (.t 2), none, []⟩,
      ⟨(some 39), .call (.c (.fn F_slices_breakPatternsOrdered_string [])) [(.t 36), (.t 37), (.t 38)], none, []⟩] false)
    (.region 9 [
      ⟨(some 40), .mov (.t 3), none, []⟩,
      ⟨(some 41), .bin .sub (.t 40) (.c (.d (.int .i64 (1)))), none, []⟩,
      ⟨(some 3), .mov (.t 41), none, []⟩] false))
    (.skip)))
  (.mask ⟨[0, 1, 2, 3, 8, 9, 10], []⟩ (.seq (.region 10 [
    ⟨(some 43), .mov (.t 0), none, []⟩,
    ⟨(some 44), .mov (.t 1), none, []⟩,
    ⟨(some 45), .mov (.t 2), none, []⟩,
    ⟨(some 46), .call (.c (.fn F_slices_choosePivotOrdered_string [])) [(.t 43), (.t 44), (.t 45)], none, []⟩,
    ⟨(some 42), .mov (.t 46), none, []⟩,
    ⟨(some 47), .extract (.t 42) 0, none, []⟩,
    ⟨(some 48), .extract (.t 42) 1, none, []⟩,
    ⟨(some 11), .mov (.t 47), none, []⟩,
    ⟨(some 12), .mov (.t 48), none, []⟩] false)
  (.seq (.seq (.region 11 [
    ⟨(some 49), .mov (.t 12), none, []⟩,
    ⟨(some 50), .bin .eql (.t 49) (.c (.d (.int .i64 (2)))), none, []⟩] false)
  (.cond (.t 50)
    (.seq (.region 12 [
      ⟨(some 51), .mov (.t 0), none, []⟩,
      ⟨(some 52), .mov (.t 1), none, []⟩,
      ⟨(some 53), .mov (.t 2), none, []⟩,
      ⟨(some 54), .call (.c (.fn F_slices_reverseRangeOrdered_string [])) [(.t 51), (.t 52), (.t 53)], none, []⟩] false)
    (.seq (.region 13 [
      ⟨(some 55), .mov (.t 2), none, []⟩,
      ⟨(some 56), .bin .sub (.t 55) (.c (.d (.int .i64 (1)))), none, []⟩,
      ⟨(some 57), .mov (.t 11), none, []⟩,
      ⟨(some 58), .mov (.t 1), none, []⟩,
      ⟨(some 59), .bin .sub (.t 57) (.t 58), none, []⟩,
      ⟨(some 60), .bin .sub (.t 56) (.t 59), none, []⟩,
      ⟨(some 11), .mov (.t 60), none, []⟩] false)
    (.region 14 [
      ⟨(some 12), .mov (.c (.d (.int .i64 (1)))), none, []⟩] false)))
    (.skip)))
  (.mask ⟨[0, 1, 2, 3, 8, 9, 10, 11, 12], []⟩ (.seq (.seq (.region 15 [
    ⟨(some 61), .mov (.t 8), none, []⟩,
    ⟨(some 62), .mov (.t 61), none, []⟩,
    ⟨(some 63), .mov (.t 9), (some (62, true)), []⟩,
    ⟨(some 64), .pick (.t 62) (.t 63) (.c (.d (.bool false))), none, []⟩,
    ⟨(some 65), .mov (.t 64), none, []⟩,
    ⟨(some 66), .mov (.t 12), (some (65, true)), []⟩,
    ⟨(some 67), .bin .eql (.t 66) (.c (.d (.int .i64 (1)))), (some (65, true)), []⟩,
    ⟨(some 68), .pick (.t 65) (.t 67) (.c (.d (.bool false))), none, []⟩] false)
  (.mask ⟨[0, 1, 2, 3, 8, 9, 10, 11, 68], []⟩ (.cond (.t 68)
    (.seq (.region 16 [
      ⟨(some 69), .mov (.t 0), none, []⟩,
      ⟨(some 70), .mov (.t 1), none, []⟩,
      ⟨(some 71), .mov (.t 2), none, []⟩,
      ⟨(some 72), .call (.c (.fn F_slices_partialInsertionSortOrdered_string [])) [(.t 69), (.t 70), (.t 71)], none, []⟩] false)
    (.cond (.t 72)
      (.mask ⟨[], []⟩ (.ret))
      (.skip)))
    (.skip))))
  (.mask ⟨[0, 1, 2, 3, 8, 9, 10, 11], []⟩ (.seq (.seq (.region 17 [
    ⟨(some 73), .mov (.t 1), none, []⟩,
    ⟨(some 74), .bin .gtr (.t 73) (.c (.d (.int .i64 (0)))), none, [0]⟩,
    ⟨(some 75), .mov (.t 74), none, [0, 1]⟩,
    ⟨(some 76), .mov (.t 0), (some (75, true)), [0, 1, 2]⟩,
    ⟨(some 77), .mov (.t 1), (some (75, true)), [0, 1, 2]⟩,
    ⟨(some 78), .bin .sub (.t 77) (.c (.d (.int .i64 (1)))), (some (75, true)), [0, 1, 2, 4]⟩,
    ⟨(some 79), .iaddr 1 (.t 76) (.t 78), (some (75, true)), [0, 1, 2, 3, 4, 5]⟩,
    ⟨(some 80), .load 1 false (.t 79), (some (75, true)), [0, 1, 2, 3, 4, 5, 6]⟩,
    ⟨(some 81), .mov (.t 0), (some (75, true)), [0, 1, 2]⟩,
    ⟨(some 82), .mov (.t 11), (some (75, true)), [0, 1, 2]⟩,
    ⟨(some 83), .iaddr 1 (.t 81) (.t 82), (some (75, true)), [0, 1, 2, 8, 9]⟩,
    ⟨(some 84), .load 1 false (.t 83), (some (75, true)), [0, 1, 2, 8, 9, 10]⟩,
    ⟨(some 85), .call (.c (.fn F_cmp_Less_string [])) [(.t 80), (.t 84)], (some (75, true)), [0, 1, 2, 3, 4, 5, 6, 7, 8, 9, 10, 11]⟩,
    ⟨(some 86), .un .not (.t 85), (some (75, true)), [0, 1, 2, 3, 4, 5, 6, 7, 8, 9, 10, 11, 12]⟩,
    ⟨(some 87), .pick (.t 75) (.t 86) (.c (.d (.bool false))), none, [0, 1, 2, 3, 4, 5, 6, 7, 8, 9, 10, 11, 12, 13]⟩] true)
  (.mask ⟨[0, 1, 2, 3, 8, 9, 10, 11, 87], []⟩ (.cond (.t 87)
    (.seq (.region 18 [
      ⟨(some 88), .mov (.t 0), none, []⟩,
      ⟨(some 89), .mov (.t 1), none, []⟩,
      ⟨(some 90), .mov (.t 2), none, []⟩,
      ⟨(some 91), .mov (.t 11), none, []⟩,
      ⟨(some 92), .call (.c (.fn F_slices_partitionEqualOrdered_string [])) [(.t 88), (.t 89), (.t 90), (.t 91)], none, []⟩,
      ⟨(some 13), .mov (.t 92), none, []⟩] false)
    (.seq (.region 19 [
      ⟨(some 93), .mov (.t 13), none, []⟩,
      ⟨(some 1), .mov (.t 93), none, []⟩] false)
    (.mask ⟨[0, 1, 2, 3, 8, 9], []⟩ (.exit 1))))
    (.skip))))
  (.mask ⟨[0, 1, 2, 3, 10, 11], []⟩ (.seq (.region 20 [
    ⟨(some 95), .mov (.t 0), none, []⟩,
    ⟨(some 96), .mov (.t 1), none, []⟩,
    ⟨(some 97), .mov (.t 2), none, []⟩,
    ⟨(some 98), .mov (.t 11), none, []⟩,
    ⟨(some 99), .call (.c (.fn F_slices_partitionOrdered_string [])) [(.t 95), (.t 96), (.t 97), (.t 98)], none, []⟩,
    ⟨(some 94), .mov (.t 99), none, []⟩,
    ⟨(some 100), .extract (.t 94) 0, none, []⟩,
    ⟨(some 101), .extract (.t 94) 1, none, []⟩,
    ⟨(some 14), .mov (.t 100), none, []⟩,
    ⟨(some 15), .mov (.t 101), none, []⟩] false)
  (.seq (.region 21 [
    ⟨(some 102), .mov (.t 15), none, []⟩,
    ⟨(some 9), .mov (.t 102), none, []⟩] false)
  (.seq (.region 22 [
    ⟨(some 103), .mov (.t 14), none, []⟩,
    ⟨(some 104), .mov (.t 1), none, []⟩,
    ⟨(some 105), .bin .sub (.t 103) (.t 104), none, []⟩,
    ⟨(some 106), .mov (.t 2), none, []⟩,
    ⟨(some 107), .mov (.t 14), none, []⟩,
    ⟨(some 108), .bin .sub (.t 106) (.t 107), none, []⟩,
    ⟨(some 16), .mov (.t 105), none, []⟩,
    ⟨(some 17), .mov (.t 108), none, []⟩] false)
  (.seq (.region 23 [
    ⟨(some 109), .mov (.t 10), none, []⟩,
    ⟨(some 110), .bin .quo (.t 109) (.c (.d (.int .i64 (8)))), none, []⟩,
    ⟨(some 18), .mov (.t 110), none, []⟩] false)
  (.seq (.region 24 [
    ⟨(some 111), .mov (.t 16), none, []⟩,
    ⟨(some 112), .mov (.t 17), none, []⟩,
    ⟨(some 113), .bin .lss (.t 111) (.t 112), none, []⟩] false)
  (.cond (.t 113)
    (.seq (.region 25 [
      ⟨(some 114), .mov (.t 16), none, []⟩,
      ⟨(some 115), .mov (.t 18), none, []⟩,
      ⟨(some 116), .bin .geq (.t 114) (.t 115), none, []⟩,
      ⟨(some 8), .mov (.t 116), none, []⟩] false)
    (.seq (.region 26 [
      ⟨(some 117), .mov (.t 0), none, []⟩,
      ⟨(some 118), .mov (.t 1), none, []⟩,
      ⟨(some 119), .mov (.t 14), none, []⟩,
      ⟨(some 120), .mov (.t 3), none, []⟩,
      ⟨(some 121), .call (.c (.fn F_slices_pdqsortOrdered_string [])) [(.t 117), (.t 118), (.t 119), (.t 120)], none, []⟩] false)
    (.region 27 [
      ⟨(some 122), .mov (.t 14), none, []⟩,
      ⟨(some 123), .bin .add (.t 122) (.c (.d (.int .i64 (1)))), none, []⟩,
      ⟨(some 1), .mov (.t 123), none, []⟩] false)))
    (.seq (.region 28 [
      ⟨(some 124), .mov (.t 17), none, []⟩,
      ⟨(some 125), .mov (.t 18), none, []⟩,
      ⟨(some 126), .bin .geq (.t 124) (.t 125), none, []⟩,
      ⟨(some 8), .mov (.t 126), none, []⟩] false)
    (.seq (.region 29 [
      ⟨(some 127), .mov (.t 0), none, []⟩,
      ⟨(some 128), .mov (.t 14), none, []⟩,
      ⟨(some 129), .bin .add (.t 128) (.c (.d (.int .i64 (1)))), none, []⟩,
      ⟨(some 130), .mov (.t 2), none, []⟩,
      ⟨(some 131), .mov (.t 3), none, []⟩,
      ⟨(some 132), .call (.c (.fn F_slices_pdqsortOrdered_string [])) [(.t 127), (.t 129), (.t 130), (.t 131)], none, []⟩] false)
    (.region 30 [
      ⟨(some 133), .mov (.t 14), none, []⟩,
      ⟨(some 2), .mov (.t 133), none, []⟩] false)))))))))))))))))))))))
/-- slices.pdqsortOrdered[string] -/
def code_slices_pdqsortOrdered_string : AFunc := ⟨134, [],
  .seq (.region 0 [
    ⟨(some 8), .mov (.c (.d (.bool true))), none, []⟩] false)
  (.seq (.region 1 [
    ⟨(some 9), .mov (.c (.d (.bool true))), none, []⟩] false)
  (.block 0 (.loop mask_slices_pdqsortOrdered_string_0 body_slices_pdqsortOrdered_string_0)))⟩
def mask_slices_IndexFunc_roles_Pair_roles_Pair_0 : Mask := ⟨[0, 1, 7, 8], []⟩
def body_slices_IndexFunc_roles_Pair_roles_Pair_0 : ACode :=
  .seq (.region 2 [
    ⟨(some 9), .bin .lss (.t 8) (.t 7), none, []⟩] false)
  (.seq (.cond (.t 9)
    (.skip)
    (.mask ⟨[], []⟩ (.exit 0)))
  (.mask ⟨[0, 1, 7, 8], []⟩ (.seq (.block 1 (.seq (.region 3 [
    ⟨(some 10), .mov (.t 8), none, []⟩,
    ⟨(some 5), .mov (.t 10), none, []⟩] false)
  (.seq (.region 4 [
    ⟨(some 11), .mov (.t 1), none, []⟩,
    ⟨(some 12), .mov (.t 0), none, []⟩,
    ⟨(some 13), .mov (.t 5), none, []⟩,
    ⟨(some 14), .iaddr 2 (.t 12) (.t 13), none, []⟩,
    ⟨(some 15), .load 2 true (.t 14), none, []⟩,
    ⟨(some 16), .call (.t 11) [(.t 15)], none, []⟩] false)
  (.cond (.t 16)
    (.seq (.region 5 [
      ⟨(some 17), .mov (.t 5), none, []⟩,
      ⟨(some 4), .mov (.t 17), none, []⟩] false)
    (.mask ⟨[4], []⟩ (.ret)))
    (.skip)))))
  (.mask ⟨[0, 1, 7, 8], []⟩ (.region 6 [
    ⟨(some 18), .bin .add (.t 8) (.c (.d (.int .i64 (1)))), none, []⟩,
    ⟨(some 8), .mov (.t 18), none, []⟩] false)))))
/-- slices.IndexFunc[[]beadle/roles.Pair,beadle/roles.Pair] -/
def code_slices_IndexFunc_roles_Pair_roles_Pair : AFunc := ⟨19, [.tmp 4],
  .seq (.region 0 [
    ⟨(some 4), .mov (.c (.d (.int .i64 (0)))), none, []⟩] false)
  (.seq (.seq (.region 1 [
    ⟨(some 6), .mov (.t 0), none, []⟩,
    ⟨(some 7), .len .sl (.t 6), none, []⟩,
    ⟨(some 8), .mov (.c (.d (.int .i64 (0)))), none, []⟩] false)
  (.block 0 (.loop mask_slices_IndexFunc_roles_Pair_roles_Pair_0 body_slices_IndexFunc_roles_Pair_roles_Pair_0)))
  (.mask ⟨[], []⟩ (.seq (.region 7 [
    ⟨(some 4), .mov (.c (.d (.int .i64 (-1)))), none, []⟩] false)
  (.mask ⟨[4], []⟩ (.ret)))))⟩
def mask_lex_Name_0 : Mask := ⟨[0, 5, 6], []⟩
def body_lex_Name_0 : ACode :=
  .seq (.region 2 [
    ⟨(some 7), .bin .lss (.t 6) (.t 5), none, []⟩] false)
  (.seq (.cond (.t 7)
    (.skip)
    (.mask ⟨[0], []⟩ (.exit 0)))
  (.mask ⟨[0, 5, 6], []⟩ (.seq (.block 1 (.seq (.region 3 [
    ⟨(some 8), .mov (.t 6), none, []⟩,
    ⟨(some 3), .mov (.t 8), none, []⟩] false)
  (.seq (.region 4 [
    ⟨(some 9), .mov (.t 0), none, []⟩,
    ⟨(some 10), .mov (.t 3), none, []⟩,
    ⟨(some 11), .idx (.t 9) (.t 10), none, []⟩,
    ⟨(some 12), .call (.c (.fn F_lex_letter [])) [(.t 11)], none, []⟩,
    ⟨(some 13), .un .not (.t 12), none, []⟩,
    ⟨(some 14), .mov (.t 13), none, []⟩,
    ⟨(some 15), .mov (.t 3), (some (14, true)), []⟩,
    ⟨(some 16), .bin .eql (.t 15) (.c (.d (.int .i64 (0)))), (some (14, true)), []⟩,
    ⟨(some 17), .mov (.t 16), (some (14, true)), []⟩,
    ⟨(some 18), .mov (.t 0), (some (17, false)), []⟩,
    ⟨(some 19), .mov (.t 3), (some (17, false)), []⟩,
    ⟨(some 20), .idx (.t 18) (.t 19), (some (17, false)), []⟩,
    ⟨(some 21), .call (.c (.fn F_lex_digit [])) [(.t 20)], (some (17, false)), []⟩,
    ⟨(some 22), .un .not (.t 21), (some (17, false)), []⟩,
    ⟨(some 23), .pick (.t 17) (.c (.d (.bool true))) (.t 22), (some (14, true)), []⟩,
    ⟨(some 24), .pick (.t 14) (.t 23) (.c (.d (.bool false))), none, []⟩] false)
  (.mask ⟨[0, 5, 6, 24], []⟩ (.cond (.t 24)
    (.seq (.region 5 [
      ⟨(some 2), .mov (.c (.d (.bool false))), none, []⟩] false)
    (.mask ⟨[2], []⟩ (.ret)))
    (.skip))))))
  (.mask ⟨[0, 5, 6], []⟩ (.region 6 [
    ⟨(some 25), .bin .add (.t 6) (.c (.d (.int .i64 (1)))), none, []⟩,
    ⟨(some 6), .mov (.t 25), none, []⟩] false)))))
/-- beadle/lex.Name -/
def code_lex_Name : AFunc := ⟨33, [.tmp 2],
  .seq (.region 0 [
    ⟨(some 2), .mov (.c (.d (.bool false))), none, []⟩] false)
  (.seq (.seq (.region 1 [
    ⟨(some 4), .mov (.t 0), none, []⟩,
    ⟨(some 5), .len .str (.t 4), none, []⟩,
    ⟨(some 6), .mov (.c (.d (.int .i64 (0)))), none, []⟩] false)
  (.block 0 (.loop mask_lex_Name_0 body_lex_Name_0)))
  (.mask ⟨[0], []⟩ (.seq (.region 7 [
    ⟨(some 26), .mov (.t 0), none, []⟩,
    ⟨(some 27), .bin .neq (.t 26) (.c (.d (.str []))), none, []⟩,
    ⟨(some 28), .mov (.t 27), none, []⟩,
    ⟨(some 29), .mov (.t 0), (some (28, true)), []⟩,
    ⟨(some 30), .len .str (.t 29), (some (28, true)), []⟩,
    ⟨(some 31), .bin .leq (.t 30) (.c (.d (.int .i64 (16)))), (some (28, true)), []⟩,
    ⟨(some 32), .pick (.t 28) (.t 31) (.c (.d (.bool false))), none, []⟩,
    ⟨(some 2), .mov (.t 32), none, []⟩] false)
  (.mask ⟨[2], []⟩ (.ret)))))⟩
/-- beadle/roles.ring$1 -/
def code_roles_ring_1 : AFunc := ⟨10, [.tmp 3],
  .seq (.region 0 [
    ⟨(some 2), .box 2 (.t 0), none, []⟩,
    ⟨(some 3), .mov (.c (.d (.bool false))), none, []⟩] false)
  (.seq (.region 1 [
    ⟨(some 4), .load 1 false (.t 1), none, []⟩,
    ⟨(some 5), .faddr 1 (.t 2), none, []⟩,
    ⟨(some 6), .load 1 false (.t 5), none, []⟩,
    ⟨(some 7), .faddr 0 (.t 2), none, []⟩,
    ⟨(some 8), .load 1 false (.t 7), none, []⟩,
    ⟨(some 9), .call (.c (.fn F_roles_Has [])) [(.t 4), (.t 6), (.t 8)], none, []⟩,
    ⟨(some 3), .mov (.t 9), none, []⟩] false)
  (.mask ⟨[3], []⟩ (.ret)))⟩
/-- beadle/beadleref06.head -/
def code_ref06_head : AFunc := ⟨21, [.tmp 2],
  .seq (.region 0 [
    ⟨(some 2), .mov (.c (.d (.bool false))), none, []⟩] false)
  (.seq (.region 1 [
    ⟨(some 3), .mov (.t 0), none, []⟩,
    ⟨(some 4), .bin .geq (.t 3) (.c (.d (.int .u8 (97)))), none, []⟩,
    ⟨(some 5), .mov (.t 4), none, []⟩,
    ⟨(some 6), .mov (.t 0), (some (5, true)), []⟩,
    ⟨(some 7), .bin .leq (.t 6) (.c (.d (.int .u8 (122)))), (some (5, true)), []⟩,
    ⟨(some 8), .pick (.t 5) (.t 7) (.c (.d (.bool false))), none, []⟩,
    ⟨(some 9), .mov (.t 8), none, []⟩,
    ⟨(some 10), .mov (.t 0), (some (9, false)), []⟩,
    ⟨(some 11), .bin .geq (.t 10) (.c (.d (.int .u8 (65)))), (some (9, false)), []⟩,
    ⟨(some 12), .mov (.t 11), (some (9, false)), []⟩,
    ⟨(some 13), .mov (.t 0), (some (12, true)), []⟩,
    ⟨(some 14), .bin .leq (.t 13) (.c (.d (.int .u8 (90)))), (some (12, true)), []⟩,
    ⟨(some 15), .pick (.t 12) (.t 14) (.c (.d (.bool false))), (some (9, false)), []⟩,
    ⟨(some 16), .pick (.t 9) (.c (.d (.bool true))) (.t 15), none, []⟩,
    ⟨(some 17), .mov (.t 16), none, []⟩,
    ⟨(some 18), .mov (.t 0), (some (17, false)), []⟩,
    ⟨(some 19), .bin .eql (.t 18) (.c (.d (.int .u8 (95)))), (some (17, false)), []⟩,
    ⟨(some 20), .pick (.t 17) (.c (.d (.bool true))) (.t 19), none, []⟩,
    ⟨(some 2), .mov (.t 20), none, []⟩] false)
  (.mask ⟨[2], []⟩ (.ret)))⟩
/-- beadle/beadleref06.tail -/
def code_ref06_tail : AFunc := ⟨13, [.tmp 2],
  .seq (.region 0 [
    ⟨(some 2), .mov (.c (.d (.bool false))), none, []⟩] false)
  (.seq (.region 1 [
    ⟨(some 3), .mov (.t 0), none, []⟩,
    ⟨(some 4), .call (.c (.fn F_ref06_head [])) [(.t 3)], none, []⟩,
    ⟨(some 5), .mov (.t 4), none, []⟩,
    ⟨(some 6), .mov (.t 0), (some (5, false)), []⟩,
    ⟨(some 7), .bin .geq (.t 6) (.c (.d (.int .u8 (48)))), (some (5, false)), []⟩,
    ⟨(some 8), .mov (.t 7), (some (5, false)), []⟩,
    ⟨(some 9), .mov (.t 0), (some (8, true)), []⟩,
    ⟨(some 10), .bin .leq (.t 9) (.c (.d (.int .u8 (57)))), (some (8, true)), []⟩,
    ⟨(some 11), .pick (.t 8) (.t 10) (.c (.d (.bool false))), (some (5, false)), []⟩,
    ⟨(some 12), .pick (.t 5) (.c (.d (.bool true))) (.t 11), none, []⟩,
    ⟨(some 2), .mov (.t 12), none, []⟩] false)
  (.mask ⟨[2], []⟩ (.ret)))⟩
def mask_slices_Compact_string_string_0 : Mask := ⟨[0, 3, 4, 5], []⟩
def body_slices_Compact_string_string_0 : ACode :=
  .seq (.seq (.region 9 [
    ⟨(some 29), .mov (.t 5), none, []⟩,
    ⟨(some 30), .mov (.t 4), none, []⟩,
    ⟨(some 31), .len .sl (.t 30), none, []⟩,
    ⟨(some 32), .bin .lss (.t 29) (.t 31), none, []⟩] false)
  (.cond (.t 32)
    (.skip)
    (.mask ⟨[0, 3], []⟩ (.exit 2))))
  (.mask ⟨[0, 3, 4, 5], []⟩ (.seq (.block 3 (.seq (.region 11 [
    ⟨(some 35), .mov (.t 4), none, []⟩,
    ⟨(some 36), .mov (.t 5), none, []⟩,
    ⟨(some 37), .iaddr 1 (.t 35) (.t 36), none, [0, 1]⟩,
    ⟨(some 38), .load 1 false (.t 37), none, [0, 1, 2]⟩,
    ⟨(some 39), .mov (.t 4), none, []⟩,
    ⟨(some 40), .mov (.t 5), none, []⟩,
    ⟨(some 41), .bin .sub (.t 40) (.c (.d (.int .i64 (1)))), none, [5]⟩,
    ⟨(some 42), .iaddr 1 (.t 39) (.t 41), none, [4, 5, 6]⟩,
    ⟨(some 43), .load 1 false (.t 42), none, [4, 5, 6, 7]⟩,
    ⟨(some 44), .bin .neq (.t 38) (.t 43), none, [0, 1, 2, 3, 4, 5, 6, 7, 8]⟩] true)
  (.cond (.t 44)
    (.seq (.region 12 [
      ⟨(some 45), .mov (.t 0), none, []⟩,
      ⟨(some 46), .mov (.t 3), none, []⟩,
      ⟨(some 47), .mov (.t 4), none, []⟩,
      ⟨(some 48), .mov (.t 5), none, []⟩,
      ⟨(some 49), .iaddr 1 (.t 47) (.t 48), none, []⟩,
      ⟨(some 50), .load 1 false (.t 49), none, []⟩,
      ⟨(some 51), .iaddr 1 (.t 45) (.t 46), none, []⟩,
      ⟨none, .store 1 (.t 51) (.t 50), none, []⟩] false)
    (.region 13 [
      ⟨(some 52), .mov (.t 3), none, []⟩,
      ⟨(some 53), .bin .add (.t 52) (.c (.d (.int .i64 (1)))), none, []⟩,
      ⟨(some 3), .mov (.t 53), none, []⟩] false))
    (.skip))))
  (.mask ⟨[0, 3, 4, 5], []⟩ (.region 10 [
    ⟨(some 33), .mov (.t 5), none, []⟩,
    ⟨(some 34), .bin .add (.t 33) (.c (.d (.int .i64 (1)))), none, []⟩,
    ⟨(some 5), .mov (.t 34), none, []⟩] false))))
def mask_slices_Compact_string_string_1 : Mask := ⟨[0, 3], []⟩
def body_slices_Compact_string_string_1 : ACode :=
  .seq (.seq (.region 4 [
    ⟨(some 10), .mov (.t 3), none, []⟩,
    ⟨(some 11), .mov (.t 0), none, []⟩,
    ⟨(some 12), .len .sl (.t 11), none, []⟩,
    ⟨(some 13), .bin .lss (.t 10) (.t 12), none, []⟩] false)
  (.cond (.t 13)
    (.skip)
    (.mask ⟨[0], []⟩ (.exit 0))))
  (.mask ⟨[0, 3], []⟩ (.seq (.block 1 (.seq (.region 6 [
    ⟨(some 16), .mov (.t 0), none, []⟩,
    ⟨(some 17), .mov (.t 3), none, []⟩,
    ⟨(some 18), .iaddr 1 (.t 16) (.t 17), none, [0, 1]⟩,
    ⟨(some 19), .load 1 false (.t 18), none, [0, 1, 2]⟩,
    ⟨(some 20), .mov (.t 0), none, []⟩,
    ⟨(some 21), .mov (.t 3), none, []⟩,
    ⟨(some 22), .bin .sub (.t 21) (.c (.d (.int .i64 (1)))), none, [5]⟩,
    ⟨(some 23), .iaddr 1 (.t 20) (.t 22), none, [4, 5, 6]⟩,
    ⟨(some 24), .load 1 false (.t 23), none, [4, 5, 6, 7]⟩,
    ⟨(some 25), .bin .eql (.t 19) (.t 24), none, [0, 1, 2, 3, 4, 5, 6, 7, 8]⟩] true)
  (.cond (.t 25)
    (.seq (.region 7 [
      ⟨(some 26), .mov (.t 0), none, []⟩,
      ⟨(some 27), .mov (.t 3), none, []⟩,
      ⟨(some 28), .slice 1 (.t 26) (some (.t 27)) none none, none, []⟩,
      ⟨(some 4), .mov (.t 28), none, []⟩] false)
    (.seq (.seq (.region 8 [
      ⟨(some 5), .mov (.c (.d (.int .i64 (1)))), none, []⟩] false)
    (.block 2 (.loop mask_slices_Compact_string_string_0 body_slices_Compact_string_string_0)))
    (.mask ⟨[0, 3], []⟩ (.seq (.region 14 [
      ⟨(some 54), .mov (.t 0), none, []⟩,
      ⟨(some 55), .mov (.t 3), none, []⟩,
      ⟨(some 56), .slice 1 (.t 54) (some (.t 55)) none none, none, []⟩,
      ⟨none, .clear [(.str [])] (.t 56), none, []⟩] false)
    (.seq (.region 15 [
      ⟨(some 57), .mov (.t 0), none, []⟩,
      ⟨(some 58), .mov (.t 3), none, []⟩,
      ⟨(some 59), .slice 1 (.t 57) none (some (.t 58)) none, none, []⟩,
      ⟨(some 2), .mov (.t 59), none, []⟩] false)
    (.mask ⟨[2], []⟩ (.ret)))))))
    (.skip))))
  (.mask ⟨[0, 3], []⟩ (.region 5 [
    ⟨(some 14), .mov (.t 3), none, []⟩,
    ⟨(some 15), .bin .add (.t 14) (.c (.d (.int .i64 (1)))), none, []⟩,
    ⟨(some 3), .mov (.t 15), none, []⟩] false))))
/-- slices.Compact[[]string,string] -/
def code_slices_Compact_string_string : AFunc := ⟨61, [.tmp 2],
  .seq (.region 0 [
    ⟨(some 2), .mov (.c (.d (.vs true []))), none, []⟩] false)
  (.seq (.seq (.region 1 [
    ⟨(some 6), .mov (.t 0), none, []⟩,
    ⟨(some 7), .len .sl (.t 6), none, []⟩,
    ⟨(some 8), .bin .lss (.t 7) (.c (.d (.int .i64 (2)))), none, []⟩] false)
  (.cond (.t 8)
    (.seq (.region 2 [
      ⟨(some 9), .mov (.t 0), none, []⟩,
      ⟨(some 2), .mov (.t 9), none, []⟩] false)
    (.mask ⟨[2], []⟩ (.ret)))
    (.skip)))
  (.mask ⟨[0], []⟩ (.seq (.seq (.region 3 [
    ⟨(some 3), .mov (.c (.d (.int .i64 (1)))), none, []⟩] false)
  (.block 0 (.loop mask_slices_Compact_string_string_1 body_slices_Compact_string_string_1)))
  (.mask ⟨[0], []⟩ (.seq (.region 16 [
    ⟨(some 60), .mov (.t 0), none, []⟩,
    ⟨(some 2), .mov (.t 60), none, []⟩] false)
  (.mask ⟨[2], []⟩ (.ret)))))))⟩
def mask_slices_IndexFunc_string_string_0 : Mask := ⟨[0, 1, 7, 8], []⟩
def body_slices_IndexFunc_string_string_0 : ACode :=
  .seq (.region 2 [
    ⟨(some 9), .bin .lss (.t 8) (.t 7), none, []⟩] false)
  (.seq (.cond (.t 9)
    (.skip)
    (.mask ⟨[], []⟩ (.exit 0)))
  (.mask ⟨[0, 1, 7, 8], []⟩ (.seq (.block 1 (.seq (.region 3 [
    ⟨(some 10), .mov (.t 8), none, []⟩,
    ⟨(some 5), .mov (.t 10), none, []⟩] false)
  (.seq (.region 4 [
    ⟨(some 11), .mov (.t 1), none, []⟩,
    ⟨(some 12), .mov (.t 0), none, []⟩,
    ⟨(some 13), .mov (.t 5), none, []⟩,
    ⟨(some 14), .iaddr 1 (.t 12) (.t 13), none, []⟩,
    ⟨(some 15), .load 1 false (.t 14), none, []⟩,
    ⟨(some 16), .call (.t 11) [(.t 15)], none, []⟩] false)
  (.cond (.t 16)
    (.seq (.region 5 [
      ⟨(some 17), .mov (.t 5), none, []⟩,
      ⟨(some 4), .mov (.t 17), none, []⟩] false)
    (.mask ⟨[4], []⟩ (.ret)))
    (.skip)))))
  (.mask ⟨[0, 1, 7, 8], []⟩ (.region 6 [
    ⟨(some 18), .bin .add (.t 8) (.c (.d (.int .i64 (1)))), none, []⟩,
    ⟨(some 8), .mov (.t 18), none, []⟩] false)))))
/-- slices.IndexFunc[[]string,string] -/
def code_slices_IndexFunc_string_string : AFunc := ⟨19, [.tmp 4],
  .seq (.region 0 [
    ⟨(some 4), .mov (.c (.d (.int .i64 (0)))), none, []⟩] false)
  (.seq (.seq (.region 1 [
    ⟨(some 6), .mov (.t 0), none, []⟩,
    ⟨(some 7), .len .sl (.t 6), none, []⟩,
    ⟨(some 8), .mov (.c (.d (.int .i64 (0)))), none, []⟩] false)
  (.block 0 (.loop mask_slices_IndexFunc_string_string_0 body_slices_IndexFunc_string_string_0)))
  (.mask ⟨[], []⟩ (.seq (.region 7 [
    ⟨(some 4), .mov (.c (.d (.int .i64 (-1)))), none, []⟩] false)
  (.mask ⟨[4], []⟩ (.ret)))))⟩
/-- beadle/roles.long -/
def code_roles_long : AFunc := ⟨11, [.tmp 4],
  .seq (.region 0 [
    ⟨(some 2), .box 1 (.t 0), none, []⟩,
    ⟨(some 3), .box 2 (.t 1), none, []⟩,
    ⟨(some 4), .mov (.c (.d (.bool false))), none, []⟩] false)
  (.seq (.region 1 [
    ⟨(some 5), .load 1 false (.t 2), none, []⟩,
    ⟨(some 6), .faddr 0 (.t 3), none, []⟩,
    ⟨(some 7), .load 1 false (.t 6), none, []⟩,
    ⟨(some 8), .call (.c (.fn F_roles_ups [])) [(.t 5), (.t 7)], none, []⟩,
    ⟨(some 9), .mkfn F_roles_long_1 [(.t 3), (.t 2)], none, []⟩,
    ⟨(some 10), .call (.c (.fn F_slices_ContainsFunc_string_string [])) [(.t 8), (.t 9)], none, []⟩,
    ⟨(some 4), .mov (.t 10), none, []⟩] false)
  (.mask ⟨[4], []⟩ (.ret)))⟩
def mask_slices_pdqsortCmpFunc_roles_Pair_0 : Mask := ⟨[0, 1, 2, 3, 4, 10, 11], []⟩
def body_slices_pdqsortCmpFunc_roles_Pair_0 : ACode :=
  .block 1 (.seq (.region 2 [
    ⟨(some 21), .mov (.t 2), none, []⟩,
    ⟨(some 22), .mov (.t 1), none, []⟩,
    ⟨(some 23), .bin .sub (.t 21) (.t 22), none, []⟩,
    ⟨(some 12), .mov (.t 23), none, []⟩] false)
  (.seq (.seq (.region 3 [
    ⟨(some 24), .mov (.t 12), none, []⟩,
    ⟨(some 25), .bin .leq (.t 24) (.c (.d (.int .i64 (12)))), none, []⟩] false)
  (.cond (.t 25)
    (.seq (.region 4 [
      ⟨(some 26), .mov (.t 0), none, []⟩,
      ⟨(some 27), .mov (.t 1), none, []⟩,
      ⟨(some 28), .mov (.t 2), none, []⟩,
      ⟨(some 29), .mov (.t 4), none, []⟩,
      ⟨(some 30), .call (.c (.fn F_slices_insertionSortCmpFunc_roles_Pair [])) [(.t 26), (.t 27), (.t 28), (.t 29)], none, []⟩] false)
    (.mask ⟨[], []⟩ (.ret)))
    (.skip)))
  (.mask ⟨[0, 1, 2, 3, 4, 10, 11, 12], []⟩ (.seq (.seq (.region 5 [
    ⟨(some 31), .mov (.t 3), none, []⟩,
    ⟨(some 32), .bin .eql (.t 31) (.c (.d (.int .i64 (0)))), none, []⟩] false)
  (.cond (.t 32)
    (.seq (.region 6 [
      ⟨(some 33), .mov (.t 0), none, []⟩,
      ⟨(some 34), .mov (.t 1), none, []⟩,
      ⟨(some 35), .mov (.t 2), none, []⟩,
      ⟨(some 36), .mov (.t 4), none, []⟩,
      ⟨(some 37), .call (.c (.fn F_slices_heapSortCmpFunc_roles_Pair [])) [(.t 33), (.t 34), (.t 35), (.t 36)], none, []⟩] false)
    (.mask ⟨[], []⟩ (.ret)))
    (.skip)))
  (.mask ⟨[0, 1, 2, 3, 4, 10, 11, 12], []⟩ (.seq (.seq (.region 7 [
    ⟨(some 38), .mov (.t 10), none, []⟩,
    ⟨(some 39), .un .not (.t 38), none, []⟩] false)
  (.cond (.t 39)
    (.seq (.region 8 [
      ⟨(some 40), .mov (.t 0), none, []⟩,
      ⟨(some 41), .mov (.t 1), none, []⟩,
      ⟨(some 42), .mov (.t 2), none, []⟩,
      ⟨(some 43), .mov (.t 4), none, []⟩,
      ⟨(some 44), .call (.c (.fn F_slices_breakPatternsCmpFunc_roles_Pair [])) [(.t 40), (.t 41), (.t 42), (.t 43)], none, []⟩] false)
    (.region 9 [
      ⟨(some 45), .mov (.t 3), none, []⟩,
      ⟨(some 46), .bin .sub (.t 45) (.c (.d (.int .i64 (1)))), none, []⟩,
      ⟨(some 3), .mov (.t 46), none, []⟩] false))
    (.skip)))
  (.mask ⟨[0, 1, 2, 3, 4, 10, 11, 12], []⟩ (.seq (.region 10 [
    ⟨(some 48), .mov (.t 0), none, []⟩,
    ⟨(some 49), .mov (.t 1), none, []⟩,
    ⟨(some 50), .mov (.t 2), none, []⟩,
    ⟨(some 51), .mov (.t 4), none, []⟩,
    ⟨(some 52), .call (.c (.fn F_slices_choosePivotCmpFunc_roles_Pair [])) [(.t 48), (.t 49), (.t 50), (.t 51)], none, []⟩,
    ⟨(some 47), .mov (.t 52), none, []⟩,
    ⟨(some 53), .extract (.t 47) 0, none, []⟩,
    ⟨(some 54), .extract (.t 47) 1, none, []⟩,
    ⟨(some 13), .mov (.t 53), none, []⟩,
    ⟨(some 14), .mov (.t 54), none, []⟩] false)
  (.seq (.seq (.region 11 [
    ⟨(some 55), .mov (.t 14), none, []⟩,
    ⟨(some 56), .bin .eql (.t 55) (.c (.d (.int .i64 (2)))), none, []⟩] false)
  (.cond (.t 56)
    (.seq (.region 12 [
      ⟨(some 57), .mov (.t 0), none, []⟩,
      ⟨(some 58), .mov (.t 1), none, []⟩,
      ⟨(some 59), .mov (.t 2), none, []⟩,
      ⟨(some 60), .mov (.t 4), none, []⟩,
      ⟨(some 61), .call (.c (.fn F_slices_reverseRangeCmpFunc_roles_Pair [])) [(.t 57), (.t 58), (.t 59), (.t 60)], none, []⟩] false)
    (.seq (.region 13 [
      ⟨(some 62), .mov (.t 2), none, []⟩,
      ⟨(some 63), .bin .sub (.t 62) (.c (.d (.int .i64 (1)))), none, []⟩,
      ⟨(some 64), .mov (.t 13), none, []⟩,
      ⟨(some 65), .mov (.t 1), none, []⟩,
      ⟨(some 66), .bin .sub (.t 64) (.t 65), none, []⟩,
      ⟨(some 67), .bin .sub (.t 63) (.t 66), none, []⟩,
      ⟨(some 13), .mov (.t 67), none, []⟩] false)
    (.region 14 [
      ⟨(some 14), .mov (.c (.d (.int .i64 (1)))), none, []⟩] false)))
    (.skip)))
  (.mask ⟨[0, 1, 2, 3, 4, 10, 11, 12, 13, 14], []⟩ (.seq (.seq (.region 15 [
    ⟨(some 68), .mov (.t 10), none, []⟩,
    ⟨(some 69), .mov (.t 68), none, []⟩,
    ⟨(some 70), .mov (.t 11), (some (69, true)), []⟩,
    ⟨(some 71), .pick (.t 69) (.t 70) (.c (.d (.bool false))), none, []⟩,
    ⟨(some 72), .mov (.t 71), none, []⟩,
    ⟨(some 73), .mov (.t 14), (some (72, true)), []⟩,
    ⟨(some 74), .bin .eql (.t 73) (.c (.d (.int .i64 (1)))), (some (72, true)), []⟩,
    ⟨(some 75), .pick (.t 72) (.t 74) (.c (.d (.bool false))), none, []⟩] false)
  (.mask ⟨[0, 1, 2, 3, 4, 10, 11, 12, 13, 75], []⟩ (.cond (.t 75)
    (.seq (.region 16 [
      ⟨(some 76), .mov (.t 0), none, []⟩,
      ⟨(some 77), .mov (.t 1), none, []⟩,
      ⟨(some 78), .mov (.t 2), none, []⟩,
      ⟨(some 79), .mov (.t 4), none, []⟩,
      ⟨(some 80), .call (.c (.fn F_slices_partialInsertionSortCmpFunc_roles_Pair [])) [(.t 76), (.t 77), (.t 78), (.t 79)], none, []⟩] false)
    (.cond (.t 80)
      (.mask ⟨[], []⟩ (.ret))
      (.skip)))
    (.skip))))
  (.mask ⟨[0, 1, 2, 3, 4, 10, 11, 12, 13], []⟩ (.seq (.seq (.region 17 [
    ⟨(some 81), .mov (.t 1), none, []⟩,
    ⟨(some 82), .bin .gtr (.t 81) (.c (.d (.int .i64 (0)))), none, [0]⟩,
    ⟨(some 83), .mov (.t 82), none, [0, 1]⟩,
    ⟨(some 84), .mov (.t 4), (some (83, true)), [0, 1, 2]⟩,
    ⟨(some 85), .mov (.t 0), (some (83, true)), [0, 1, 2]⟩,
    ⟨(some 86), .mov (.t 1), (some (83, true)), [0, 1, 2]⟩,
    ⟨(some 87), .bin .sub (.t 86) (.c (.d (.int .i64 (1)))), (some (83, true)), [0, 1, 2, 5]⟩,
    ⟨(some 88), .iaddr 2 (.t 85) (.t 87), (some (83, true)), [0, 1, 2, 4, 5, 6]⟩,
    ⟨(some 89), .load 2 true (.t 88), (some (83, true)), [0, 1, 2, 4, 5, 6, 7]⟩,
    ⟨(some 90), .mov (.t 0), (some (83, true)), [0, 1, 2]⟩,
    ⟨(some 91), .mov (.t 13), (some (83, true)), [0, 1, 2]⟩,
    ⟨(some 92), .iaddr 2 (.t 90) (.t 91), (some (83, true)), [0, 1, 2, 9, 10]⟩,
    ⟨(some 93), .load 2 true (.t 92), (some (83, true)), [0, 1, 2, 9, 10, 11]⟩,
    ⟨(some 94), .call (.t 84) [(.t 89), (.t 93)], (some (83, true)), [0, 1, 2, 3, 4, 5, 6, 7, 8, 9, 10, 11, 12]⟩,
    ⟨(some 95), .bin .lss (.t 94) (.c (.d (.int .i64 (0)))), (some (83, true)), [0, 1, 2, 3, 4, 5, 6, 7, 8, 9, 10, 11, 12, 13]⟩,
    ⟨(some 96), .un .not (.t 95), (some (83, true)), [0, 1, 2, 3, 4, 5, 6, 7, 8, 9, 10, 11, 12, 13, 14]⟩,
    ⟨(some 97), .pick (.t 83) (.t 96) (.c (.d (.bool false))), none, [0, 1, 2, 3, 4, 5, 6, 7, 8, 9, 10, 11, 12, 13, 14, 15]⟩] true)
  (.mask ⟨[0, 1, 2, 3, 4, 10, 11, 12, 13, 97], []⟩ (.cond (.t 97)
    (.seq (.region 18 [
      ⟨(some 98), .mov (.t 0), none, []⟩,
      ⟨(some 99), .mov (.t 1), none, []⟩,
      ⟨(some 100), .mov (.t 2), none, []⟩,
      ⟨(some 101), .mov (.t 13), none, []⟩,
      ⟨(some 102), .mov (.t 4), none, []⟩,
      ⟨(some 103), .call (.c (.fn F_slices_partitionEqualCmpFunc_roles_Pair [])) [(.t 98), (.t 99), (.t 100), (.t 101), (.t 102)], none, []⟩,
      ⟨(some 15), .mov (.t 103), none, []⟩] false)
    (.seq (.region 19 [
      ⟨(some 104), .mov (.t 15), none, []⟩,
      ⟨(some 1), .mov (.t 104), none, []⟩] false)
    (.mask ⟨[0, 1, 2, 3, 4, 10, 11], []⟩ (.exit 1))))
    (.skip))))
  (.mask ⟨[0, 1, 2, 3, 4, 12, 13], []⟩ (.seq (.region 20 [
    ⟨(some 106), .mov (.t 0), none, []⟩,
    ⟨(some 107), .mov (.t 1), none, []⟩,
    ⟨(some 108), .mov (.t 2), none, []⟩,
    ⟨(some 109), .mov (.t 13), none, []⟩,
    ⟨(some 110), .mov (.t 4), none, []⟩,
    ⟨(some 111), .call (.c (.fn F_slices_partitionCmpFunc_roles_Pair [])) [(.t 106), (.t 107), (.t 108), (.t 109), (.t 110)], none, []⟩,
    ⟨(some 105), .mov (.t 111), none, []⟩,
    ⟨(some 112), .extract (.t 105) 0, none, []⟩,
    ⟨(some 113), .extract (.t 105) 1, none, []⟩,
    ⟨(some 16), .mov (.t 112), none, []⟩,
    ⟨(some 17), .mov (.t 113), none, []⟩] false)
  (.seq (.region 21 [
    ⟨(some 114), .mov (.t 17), none, []⟩,
    ⟨(some 11), .mov (.t 114), none, []⟩] false)
  (.seq (.region 22 [
    ⟨(some 115), .mov (.t 16), none, []⟩,
    ⟨(some 116), .mov (.t 1), none, []⟩,
    ⟨(some 117), .bin .sub (.t 115) (.t 116), none, []⟩,
    ⟨(some 118), .mov (.t 2), none, []⟩,
    ⟨(some 119), .mov (.t 16), none, []⟩,
    ⟨(some 120), .bin .sub (.t 118) (.t 119), none, []⟩,
    ⟨(some 18), .mov (.t 117), none, []⟩,
    ⟨(some 19), .mov (.t 120), none, []⟩] false)
  (.seq (.region 23 [
    ⟨(some 121), .mov (.t 12), none, []⟩,
    ⟨(some 122), .bin .quo (.t 121) (.c (.d (.int .i64 (8)))), none, []⟩,
    ⟨(some 20), .mov (.t 122), none, []⟩] false)
  (.seq (.region 24 [
    ⟨(some 123), .mov (.t 18), none, []⟩,
    ⟨(some 124), .mov (.t 19), none, []⟩,
    ⟨(some 125), .bin .lss (.t 123) (.t 124), none, []⟩] false)
  (.cond (.t 125)
    (.seq (.region 25 [
      ⟨(some 126), .mov (.t 18), none, []⟩,
      ⟨(some 127), .mov (.t 20), none, []⟩,
      ⟨(some 128), .bin .geq (.t 126) (.t 127), none, []⟩,
      ⟨(some 10), .mov (.t 128), none, []⟩] false)
    (.seq (.region 26 [
      ⟨(some 129), .mov (.t 0), none, []⟩,
      ⟨(some 130), .mov (.t 1), none, []⟩,
      ⟨(some 131), .mov (.t 16), none, []⟩,
      ⟨(some 132), .mov (.t 3), none, []⟩,
      ⟨(some 133), .mov (.t 4), none, []⟩,
      ⟨(some 134), .call (.c (.fn F_slices_pdqsortCmpFunc_roles_Pair [])) [(.t 129), (.t 130), (.t 131), (.t 132), (.t 133)], none, []⟩] false)
    (.region 27 [
      ⟨(some 135), .mov (.t 16), none, []⟩,
      ⟨(some 136), .bin .add (.t 135) (.c (.d (.int .i64 (1)))), none, []⟩,
      ⟨(some 1), .mov (.t 136), none, []⟩] false)))
    (.seq (.region 28 [
      ⟨(some 137), .mov (.t 19), none, []⟩,
      ⟨(some 138), .mov (.t 20), none, []⟩,
      ⟨(some 139), .bin .geq (.t 137) (.t 138), none, []⟩,
      ⟨(some 10), .mov (.t 139), none, []⟩] false)
    (.seq (.region 29 [
      ⟨(some 140), .mov (.t 0), none, []⟩,
      ⟨(some 141), .mov (.t 16), none, []⟩,
      ⟨(some 142), .bin .add (.t 141) (.c (.d (.int .i64 (1)))), none, []⟩,
      ⟨(some 143), .mov (.t 2), none, []⟩,
      ⟨(some 144), .mov (.t 3), none, []⟩,
      ⟨(some 145), .mov (.t 4), none, []⟩,
      ⟨(some 146), .call (.c (.fn F_slices_pdqsortCmpFunc_roles_Pair [])) [(.t 140), (.t 142), (.t 143), (.t 144), (.t 145)], none, []⟩] false)
    (.region 30 [
      ⟨(some 147), .mov (.t 16), none, []⟩,
      ⟨(some 2), .mov (.t 147), none, []⟩] false)))))))))))))))))))))))
/-- slices.pdqsortCmpFunc[beadle/roles.Pair] -/
def code_slices_pdqsortCmpFunc_roles_Pair : AFunc := ⟨148, [],
  .seq (.region 0 [
    ⟨(some 10), .mov (.c (.d (.bool true))), none, []⟩] false)
  (.seq (.region 1 [
    ⟨(some 11), .mov (.c (.d (.bool true))), none, []⟩] false)
  (.block 0 (.loop mask_slices_pdqsortCmpFunc_roles_Pair_0 body_slices_pdqsortCmpFunc_roles_Pair_0)))⟩
/-- cmp.Compare[string] -/
def code_cmp_Compare_string : AFunc := ⟨20, [.tmp 4],
  .seq (.region 0 [
    ⟨(some 4), .mov (.c (.d (.int .i64 (0)))), none, []⟩] false)
  (.seq (.region 1 [
    ⟨(some 7), .mov (.t 0), none, []⟩,
    ⟨(some 8), .call (.c (.fn F_cmp_isNaN_string [])) [(.t 7)], none, []⟩,
    ⟨(some 5), .mov (.t 8), none, []⟩] false)
  (.seq (.region 2 [
    ⟨(some 9), .mov (.t 1), none, []⟩,
    ⟨(some 10), .call (.c (.fn F_cmp_isNaN_string [])) [(.t 9)], none, []⟩,
    ⟨(some 6), .mov (.t 10), none, []⟩] false)
  (.seq (.seq (.region 3 [
    ⟨(some 11), .mov (.t 5), none, []⟩] false)
  (.cond (.t 11)
    (.seq (.seq (.region 4 [
      ⟨(some 12), .mov (.t 6), none, []⟩] false)
    (.cond (.t 12)
      (.seq (.region 5 [
        ⟨(some 4), .mov (.c (.d (.int .i64 (0)))), none, []⟩] false)
      (.mask ⟨[4], []⟩ (.ret)))
      (.skip)))
    (.mask ⟨[], []⟩ (.seq (.region 6 [
      ⟨(some 4), .mov (.c (.d (.int .i64 (-1)))), none, []⟩] false)
    (.mask ⟨[4], []⟩ (.ret)))))
    (.skip)))
  (.mask ⟨[0, 1, 6], []⟩ (.seq (.seq (.region 7 [
    ⟨(some 13), .mov (.t 6), none, []⟩] false)
  (.cond (.t 13)
    (.seq (.region 8 [
      ⟨(some 4), .mov (.c (.d (.int .i64 (1)))), none, []⟩] false)
    (.mask ⟨[4], []⟩ (.ret)))
    (.skip)))
  (.mask ⟨[0, 1], []⟩ (.seq (.seq (.region 9 [
    ⟨(some 14), .mov (.t 0), none, []⟩,
    ⟨(some 15), .mov (.t 1), none, []⟩,
    ⟨(some 16), .bin .lss (.t 14) (.t 15), none, []⟩] false)
  (.cond (.t 16)
    (.seq (.region 10 [
      ⟨(some 4), .mov (.c (.d (.int .i64 (-1)))), none, []⟩] false)
    (.mask ⟨[4], []⟩ (.ret)))
    (.skip)))
  (.mask ⟨[0, 1], []⟩ (.seq (.seq (.region 11 [
    ⟨(some 17), .mov (.t 0), none, []⟩,
    ⟨(some 18), .mov (.t 1), none, []⟩,
    ⟨(some 19), .bin .gtr (.t 17) (.t 18), none, []⟩] false)
  (.cond (.t 19)
    (.seq (.region 12 [
      ⟨(some 4), .mov (.c (.d (.int .i64 (1)))), none, []⟩] false)
    (.mask ⟨[4], []⟩ (.ret)))
    (.skip)))
  (.mask ⟨[], []⟩ (.seq (.region 13 [
    ⟨(some 4), .mov (.c (.d (.int .i64 (0)))), none, []⟩] false)
  (.mask ⟨[4], []⟩ (.ret)))))))))))))⟩
def mask_cmp_Or_int_0 : Mask := ⟨[3, 6, 7, 8], []⟩
def body_cmp_Or_int_0 : ACode :=
  .seq (.region 3 [
    ⟨(some 9), .bin .lss (.t 8) (.t 7), none, []⟩] false)
  (.seq (.cond (.t 9)
    (.skip)
    (.mask ⟨[3], []⟩ (.exit 0)))
  (.mask ⟨[3, 6, 7, 8], []⟩ (.seq (.block 1 (.seq (.region 4 [
    ⟨(some 10), .iaddr 1 (.t 6) (.t 8), none, []⟩,
    ⟨(some 11), .load 1 false (.t 10), none, []⟩,
    ⟨(some 5), .mov (.t 11), none, []⟩] false)
  (.seq (.region 5 [
    ⟨(some 12), .mov (.t 5), none, []⟩,
    ⟨(some 13), .mov (.t 3), none, []⟩,
    ⟨(some 14), .bin .neq (.t 12) (.t 13), none, []⟩] false)
  (.cond (.t 14)
    (.seq (.region 6 [
      ⟨(some 15), .mov (.t 5), none, []⟩,
      ⟨(some 2), .mov (.t 15), none, []⟩] false)
    (.mask ⟨[2], []⟩ (.ret)))
    (.skip)))))
  (.mask ⟨[3, 6, 7, 8], []⟩ (.region 7 [
    ⟨(some 16), .bin .add (.t 8) (.c (.d (.int .i64 (1)))), none, []⟩,
    ⟨(some 8), .mov (.t 16), none, []⟩] false)))))
/-- cmp.Or[int] -/
def code_cmp_Or_int : AFunc := ⟨18, [.tmp 2],
  .seq (.region 0 [
    ⟨(some 2), .mov (.c (.d (.int .i64 (0)))), none, []⟩] false)
  (.seq (.region 1 [
    ⟨(some 3), .mov (.c (.d (.int .i64 (0)))), none, []⟩] false)
  (.seq (.seq (.region 2 [
    ⟨(some 6), .mov (.t 0), none, []⟩,
    ⟨(some 7), .len .sl (.t 6), none, []⟩,
    ⟨(some 8), .mov (.c (.d (.int .i64 (0)))), none, []⟩] false)
  (.block 0 (.loop mask_cmp_Or_int_0 body_cmp_Or_int_0)))
  (.mask ⟨[3], []⟩ (.seq (.region 8 [
    ⟨(some 17), .mov (.t 3), none, []⟩,
    ⟨(some 2), .mov (.t 17), none, []⟩] false)
  (.mask ⟨[2], []⟩ (.ret))))))⟩
/-- math/bits.Len32 -/
def code_math_bits_Len32 : AFunc := ⟨19, [.tmp 2],
  .seq (.region 0 [
    ⟨(some 2), .mov (.c (.d (.int .i64 (0)))), none, []⟩] false)
  (.seq (.seq (.region 1 [
    ⟨(some 3), .mov (.t 0), none, []⟩,
    ⟨(some 4), .bin .geq (.t 3) (.c (.d (.int .u32 (65536)))), none, []⟩] false)
  (.cond (.t 4)
    (.seq (.region 2 [
      ⟨(some 5), .mov (.t 0), none, []⟩,
      ⟨(some 6), .bin .shr (.t 5) (.c (.d (.int .u64 (16)))), none, []⟩,
      ⟨(some 0), .mov (.t 6), none, []⟩] false)
    (.region 3 [
      ⟨(some 2), .mov (.c (.d (.int .i64 (16)))), none, []⟩] false))
    (.skip)))
  (.mask ⟨[0, 2], []⟩ (.seq (.seq (.region 4 [
    ⟨(some 7), .mov (.t 0), none, []⟩,
    ⟨(some 8), .bin .geq (.t 7) (.c (.d (.int .u32 (256)))), none, []⟩] false)
  (.cond (.t 8)
    (.seq (.region 5 [
      ⟨(some 9), .mov (.t 0), none, []⟩,
      ⟨(some 10), .bin .shr (.t 9) (.c (.d (.int .u64 (8)))), none, []⟩,
      ⟨(some 0), .mov (.t 10), none, []⟩] false)
    (.region 6 [
      ⟨(some 11), .mov (.t 2), none, []⟩,
      ⟨(some 12), .bin .add (.t 11) (.c (.d (.int .i64 (8)))), none, []⟩,
      ⟨(some 2), .mov (.t 12), none, []⟩] false))
    (.skip)))
  (.mask ⟨[0, 2], []⟩ (.seq (.region 7 [
    ⟨(some 13), .mov (.t 2), none, []⟩,
    ⟨(some 14), .mov (.t 0), none, []⟩,
    ⟨(some 15), .toInt .u8 (.t 14), none, []⟩,
    ⟨(some 16), .idx (.c (.d (.str [0, 1, 2, 2, 3, 3, 3, 3, 4, 4, 4, 4, 4, 4, 4, 4, 5, 5, 5, 5, 5, 5, 5, 5, 5, 5, 5, 5, 5, 5, 5, 5, 6, 6, 6, 6, 6, 6, 6, 6, 6, 6, 6, 6, 6, 6, 6, 6, 6, 6, 6, 6, 6, 6, 6, 6, 6, 6, 6, 6, 6, 6, 6, 6, 7, 7, 7, 7, 7, 7, 7, 7, 7, 7, 7, 7, 7, 7, 7, 7, 7, 7, 7, 7, 7, 7, 7, 7, 7, 7, 7, 7, 7, 7, 7, 7, 7, 7, 7, 7, 7, 7, 7, 7, 7, 7, 7, 7, 7, 7, 7, 7, 7, 7, 7, 7, 7, 7, 7, 7, 7, 7, 7, 7, 7, 7, 7, 7, 8, 8, 8, 8, 8, 8, 8, 8, 8, 8, 8, 8, 8, 8, 8, 8, 8, 8, 8, 8, 8, 8, 8, 8, 8, 8, 8, 8, 8, 8, 8, 8, 8, 8, 8, 8, 8, 8, 8, 8, 8, 8, 8, 8, 8, 8, 8, 8, 8, 8, 8, 8, 8, 8, 8, 8, 8, 8, 8, 8, 8, 8, 8, 8, 8, 8, 8, 8, 8, 8, 8, 8, 8, 8, 8, 8, 8, 8, 8, 8, 8, 8, 8, 8, 8, 8, 8, 8, 8, 8, 8, 8, 8, 8, 8, 8, 8, 8, 8, 8, 8, 8, 8, 8, 8, 8, 8, 8, 8, 8, 8, 8, 8, 8, 8, 8, 8, 8, 8, 8, 8, 8, 8, 8, 8, 8, 8, 8]))) (.t 15), none, []⟩,
    ⟨(some 17), .toInt .i64 (.t 16), none, []⟩,
    ⟨(some 18), .bin .add (.t 13) (.t 17), none, []⟩,
    ⟨(some 2), .mov (.t 18), none, []⟩] false)
  (.mask ⟨[2], []⟩ (.ret)))))))⟩
/-- math/bits.Len64 -/
def code_math_bits_Len64 : AFunc := ⟨25, [.tmp 2],
  .seq (.region 0 [
    ⟨(some 2), .mov (.c (.d (.int .i64 (0)))), none, []⟩] false)
  (.seq (.seq (.region 1 [
    ⟨(some 3), .mov (.t 0), none, []⟩,
    ⟨(some 4), .bin .geq (.t 3) (.c (.d (.int .u64 (4294967296)))), none, []⟩] false)
  (.cond (.t 4)
    (.seq (.region 2 [
      ⟨(some 5), .mov (.t 0), none, []⟩,
      ⟨(some 6), .bin .shr (.t 5) (.c (.d (.int .u64 (32)))), none, []⟩,
      ⟨(some 0), .mov (.t 6), none, []⟩] false)
    (.region 3 [
      ⟨(some 2), .mov (.c (.d (.int .i64 (32)))), none, []⟩] false))
    (.skip)))
  (.mask ⟨[0, 2], []⟩ (.seq (.seq (.region 4 [
    ⟨(some 7), .mov (.t 0), none, []⟩,
    ⟨(some 8), .bin .geq (.t 7) (.c (.d (.int .u64 (65536)))), none, []⟩] false)
  (.cond (.t 8)
    (.seq (.region 5 [
      ⟨(some 9), .mov (.t 0), none, []⟩,
      ⟨(some 10), .bin .shr (.t 9) (.c (.d (.int .u64 (16)))), none, []⟩,
      ⟨(some 0), .mov (.t 10), none, []⟩] false)
    (.region 6 [
      ⟨(some 11), .mov (.t 2), none, []⟩,
      ⟨(some 12), .bin .add (.t 11) (.c (.d (.int .i64 (16)))), none, []⟩,
      ⟨(some 2), .mov (.t 12), none, []⟩] false))
    (.skip)))
  (.mask ⟨[0, 2], []⟩ (.seq (.seq (.region 7 [
    ⟨(some 13), .mov (.t 0), none, []⟩,
    ⟨(some 14), .bin .geq (.t 13) (.c (.d (.int .u64 (256)))), none, []⟩] false)
  (.cond (.t 14)
    (.seq (.region 8 [
      ⟨(some 15), .mov (.t 0), none, []⟩,
      ⟨(some 16), .bin .shr (.t 15) (.c (.d (.int .u64 (8)))), none, []⟩,
      ⟨(some 0), .mov (.t 16), none, []⟩] false)
    (.region 9 [
      ⟨(some 17), .mov (.t 2), none, []⟩,
      ⟨(some 18), .bin .add (.t 17) (.c (.d (.int .i64 (8)))), none, []⟩,
      ⟨(some 2), .mov (.t 18), none, []⟩] false))
    (.skip)))
  (.mask ⟨[0, 2], []⟩ (.seq (.region 10 [
    ⟨(some 19), .mov (.t 2), none, []⟩,
    ⟨(some 20), .mov (.t 0), none, []⟩,
    ⟨(some 21), .toInt .u8 (.t 20), none, []⟩,
    ⟨(some 22), .idx (.c (.d (.str [0, 1, 2, 2, 3, 3, 3, 3, 4, 4, 4, 4, 4, 4, 4, 4, 5, 5, 5, 5, 5, 5, 5, 5, 5, 5, 5, 5, 5, 5, 5, 5, 6, 6, 6, 6, 6, 6, 6, 6, 6, 6, 6, 6, 6, 6, 6, 6, 6, 6, 6, 6, 6, 6, 6, 6, 6, 6, 6, 6, 6, 6, 6, 6, 7, 7, 7, 7, 7, 7, 7, 7, 7, 7, 7, 7, 7, 7, 7, 7, 7, 7, 7, 7, 7, 7, 7, 7, 7, 7, 7, 7, 7, 7, 7, 7, 7, 7, 7, 7, 7, 7, 7, 7, 7, 7, 7, 7, 7, 7, 7, 7, 7, 7, 7, 7, 7, 7, 7, 7, 7, 7, 7, 7, 7, 7, 7, 7, 8, 8, 8, 8, 8, 8, 8, 8, 8, 8, 8, 8, 8, 8, 8, 8, 8, 8, 8, 8, 8, 8, 8, 8, 8, 8, 8, 8, 8, 8, 8, 8, 8, 8, 8, 8, 8, 8, 8, 8, 8, 8, 8, 8, 8, 8, 8, 8, 8, 8, 8, 8, 8, 8, 8, 8, 8, 8, 8, 8, 8, 8, 8, 8, 8, 8, 8, 8, 8, 8, 8, 8, 8, 8, 8, 8, 8, 8, 8, 8, 8, 8, 8, 8, 8, 8, 8, 8, 8, 8, 8, 8, 8, 8, 8, 8, 8, 8, 8, 8, 8, 8, 8, 8, 8, 8, 8, 8, 8, 8, 8, 8, 8, 8, 8, 8, 8, 8, 8, 8, 8, 8, 8, 8, 8, 8, 8, 8]))) (.t 21), none, []⟩,
    ⟨(some 23), .toInt .i64 (.t 22), none, []⟩,
    ⟨(some 24), .bin .add (.t 19) (.t 23), none, []⟩,
    ⟨(some 2), .mov (.t 24), none, []⟩] false)
  (.mask ⟨[2], []⟩ (.ret)))))))))⟩
def mask_slices_insertionSortOrdered_string_0 : Mask := ⟨[0, 1, 2, 6, 7], []⟩
def body_slices_insertionSortOrdered_string_0 : ACode :=
  .seq (.seq (.region 4 [
    ⟨(some 16), .mov (.t 7), none, []⟩,
    ⟨(some 17), .mov (.t 1), none, []⟩,
    ⟨(some 18), .bin .gtr (.t 16) (.t 17), none, [0, 1]⟩,
    ⟨(some 19), .mov (.t 18), none, [0, 1, 2]⟩,
    ⟨(some 20), .mov (.t 0), (some (19, true)), [0, 1, 2, 3]⟩,
    ⟨(some 21), .mov (.t 7), (some (19, true)), [0, 1, 2, 3]⟩,
    ⟨(some 22), .iaddr 1 (.t 20) (.t 21), (some (19, true)), [0, 1, 2, 3, 4, 5]⟩,
    ⟨(some 23), .load 1 false (.t 22), (some (19, true)), [0, 1, 2, 3, 4, 5, 6]⟩,
    ⟨(some 24), .mov (.t 0), (some (19, true)), [0, 1, 2, 3]⟩,
    ⟨(some 25), .mov (.t 7), (some (19, true)), [0, 1, 2, 3]⟩,
    ⟨(some 26), .bin .sub (.t 25) (.c (.d (.int .i64 (1)))), (some (19, true)), [0, 1, 2, 3, 9]⟩,
    ⟨(some 27), .iaddr 1 (.t 24) (.t 26), (some (19, true)), [0, 1, 2, 3, 8, 9, 10]⟩,
    ⟨(some 28), .load 1 false (.t 27), (some (19, true)), [0, 1, 2, 3, 8, 9, 10, 11]⟩,
    ⟨(some 29), .call (.c (.fn F_cmp_Less_string [])) [(.t 23), (.t 28)], (some (19, true)), [0, 1, 2, 3, 4, 5, 6, 7, 8, 9, 10, 11, 12]⟩,
    ⟨(some 30), .pick (.t 19) (.t 29) (.c (.d (.bool false))), none, [0, 1, 2, 3, 4, 5, 6, 7, 8, 9, 10, 11, 12, 13]⟩] true)
  (.mask ⟨[0, 1, 2, 6, 7, 30], []⟩ (.cond (.t 30)
    (.skip)
    (.mask ⟨[0, 1, 2, 6], []⟩ (.exit 2)))))
  (.mask ⟨[0, 1, 2, 6, 7], []⟩ (.seq (.block 3 (.region 6 [
    ⟨(some 33), .mov (.t 0), none, []⟩,
    ⟨(some 34), .mov (.t 7), none, []⟩,
    ⟨(some 35), .mov (.t 0), none, []⟩,
    ⟨(some 36), .mov (.t 7), none, []⟩,
    ⟨(some 37), .bin .sub (.t 36) (.c (.d (.int .i64 (1)))), none, [3]⟩,
    ⟨(some 38), .mov (.t 0), none, []⟩,
    ⟨(some 39), .mov (.t 7), none, []⟩,
    ⟨(some 40), .bin .sub (.t 39) (.c (.d (.int .i64 (1)))), none, [6]⟩,
    ⟨(some 41), .iaddr 1 (.t 38) (.t 40), none, [5, 6, 7]⟩,
    ⟨(some 42), .load 1 false (.t 41), none, [5, 6, 7, 8]⟩,
    ⟨(some 43), .mov (.t 0), none, []⟩,
    ⟨(some 44), .mov (.t 7), none, []⟩,
    ⟨(some 45), .iaddr 1 (.t 43) (.t 44), none, [10, 11]⟩,
    ⟨(some 46), .load 1 false (.t 45), none, [10, 11, 12]⟩,
    ⟨(some 47), .iaddr 1 (.t 33) (.t 34), none, [0, 1, 5, 6, 7, 8, 9, 10, 11, 12, 13]⟩,
    ⟨none, .store 1 (.t 47) (.t 42), none, [0, 1, 5, 6, 7, 8, 9, 10, 11, 12, 13, 14]⟩,
    ⟨(some 48), .iaddr 1 (.t 35) (.t 37), none, [0, 1, 2, 3, 4, 5, 6, 7, 8, 9, 10, 11, 12, 13, 14, 15]⟩,
    ⟨none, .store 1 (.t 48) (.t 46), none, [0, 1, 2, 3, 4, 5, 6, 7, 8, 9, 10, 11, 12, 13, 14, 15, 16]⟩] true))
  (.mask ⟨[0, 1, 2, 6, 7], []⟩ (.region 5 [
    ⟨(some 31), .mov (.t 7), none, []⟩,
    ⟨(some 32), .bin .sub (.t 31) (.c (.d (.int .i64 (1)))), none, []⟩,
    ⟨(some 7), .mov (.t 32), none, []⟩] false))))
def mask_slices_insertionSortOrdered_string_1 : Mask := ⟨[0, 1, 2, 6], []⟩
def body_slices_insertionSortOrdered_string_1 : ACode :=
  .seq (.seq (.region 1 [
    ⟨(some 10), .mov (.t 6), none, []⟩,
    ⟨(some 11), .mov (.t 2), none, []⟩,
    ⟨(some 12), .bin .lss (.t 10) (.t 11), none, []⟩] false)
  (.cond (.t 12)
    (.skip)
    (.mask ⟨[], []⟩ (.exit 0))))
  (.mask ⟨[0, 1, 2, 6], []⟩ (.seq (.block 1 (.seq (.region 3 [
    ⟨(some 15), .mov (.t 6), none, []⟩,
    ⟨(some 7), .mov (.t 15), none, []⟩] false)
  (.block 2 (.loop mask_slices_insertionSortOrdered_string_0 body_slices_insertionSortOrdered_string_0))))
  (.mask ⟨[0, 1, 2, 6], []⟩ (.region 2 [
    ⟨(some 13), .mov (.t 6), none, []⟩,
    ⟨(some 14), .bin .add (.t 13) (.c (.d (.int .i64 (1)))), none, []⟩,
    ⟨(some 6), .mov (.t 14), none, []⟩] false))))
/-- slices.insertionSortOrdered[string] -/
def code_slices_insertionSortOrdered_string : AFunc := ⟨49, [],
  .seq (.region 0 [
    ⟨(some 8), .mov (.t 1), none, []⟩,
    ⟨(some 9), .bin .add (.t 8) (.c (.d (.int .i64 (1)))), none, []⟩,
    ⟨(some 6), .mov (.t 9), none, []⟩] false)
  (.block 0 (.loop mask_slices_insertionSortOrdered_string_1 body_slices_insertionSortOrdered_string_1))⟩
def mask_slices_heapSortOrdered_string_0 : Mask := ⟨[0, 6, 7, 8, 9], []⟩
def body_slices_heapSortOrdered_string_0 : ACode :=
  .seq (.seq (.region 4 [
    ⟨(some 18), .mov (.t 9), none, []⟩,
    ⟨(some 19), .bin .geq (.t 18) (.c (.d (.int .i64 (0)))), none, []⟩] false)
  (.cond (.t 19)
    (.skip)
    (.mask ⟨[0, 6, 7, 8], []⟩ (.exit 0))))
  (.mask ⟨[0, 6, 7, 8, 9], []⟩ (.seq (.block 1 (.region 6 [
    ⟨(some 22), .mov (.t 0), none, []⟩,
    ⟨(some 23), .mov (.t 9), none, []⟩,
    ⟨(some 24), .mov (.t 8), none, []⟩,
    ⟨(some 25), .mov (.t 6), none, []⟩,
    ⟨(some 26), .call (.c (.fn F_slices_siftDownOrdered_string [])) [(.t 22), (.t 23), (.t 24), (.t 25)], none, []⟩] false))
  (.mask ⟨[0, 6, 7, 8, 9], []⟩ (.region 5 [
    ⟨(some 20), .mov (.t 9), none, []⟩,
    ⟨(some 21), .bin .sub (.t 20) (.c (.d (.int .i64 (1)))), none, []⟩,
    ⟨(some 9), .mov (.t 21), none, []⟩] false))))
def mask_slices_heapSortOrdered_string_1 : Mask := ⟨[0, 6, 7, 10], []⟩
def body_slices_heapSortOrdered_string_1 : ACode :=
  .seq (.seq (.region 8 [
    ⟨(some 29), .mov (.t 10), none, []⟩,
    ⟨(some 30), .bin .geq (.t 29) (.c (.d (.int .i64 (0)))), none, []⟩] false)
  (.cond (.t 30)
    (.skip)
    (.mask ⟨[], []⟩ (.exit 2))))
  (.mask ⟨[0, 6, 7, 10], []⟩ (.seq (.block 3 (.seq (.region 10 [
    ⟨(some 33), .mov (.t 0), none, []⟩,
    ⟨(some 34), .mov (.t 6), none, []⟩,
    ⟨(some 35), .mov (.t 0), none, []⟩,
    ⟨(some 36), .mov (.t 6), none, []⟩,
    ⟨(some 37), .mov (.t 10), none, []⟩,
    ⟨(some 38), .bin .add (.t 36) (.t 37), none, [3, 4]⟩,
    ⟨(some 39), .mov (.t 0), none, []⟩,
    ⟨(some 40), .mov (.t 6), none, []⟩,
    ⟨(some 41), .mov (.t 10), none, []⟩,
    ⟨(some 42), .bin .add (.t 40) (.t 41), none, [7, 8]⟩,
    ⟨(some 43), .iaddr 1 (.t 39) (.t 42), none, [6, 7, 8, 9]⟩,
    ⟨(some 44), .load 1 false (.t 43), none, [6, 7, 8, 9, 10]⟩,
    ⟨(some 45), .mov (.t 0), none, []⟩,
    ⟨(some 46), .mov (.t 6), none, []⟩,
    ⟨(some 47), .iaddr 1 (.t 45) (.t 46), none, [12, 13]⟩,
    ⟨(some 48), .load 1 false (.t 47), none, [12, 13, 14]⟩,
    ⟨(some 49), .iaddr 1 (.t 33) (.t 34), none, [0, 1, 6, 7, 8, 9, 10, 11, 12, 13, 14, 15]⟩,
    ⟨none, .store 1 (.t 49) (.t 44), none, [0, 1, 6, 7, 8, 9, 10, 11, 12, 13, 14, 15, 16]⟩,
    ⟨(some 50), .iaddr 1 (.t 35) (.t 38), none, [0, 1, 2, 3, 4, 5, 6, 7, 8, 9, 10, 11, 12, 13, 14, 15, 16, 17]⟩,
    ⟨none, .store 1 (.t 50) (.t 48), none, [0, 1, 2, 3, 4, 5, 6, 7, 8, 9, 10, 11, 12, 13, 14, 15, 16, 17, 18]⟩] true)
  (.region 11 [
    ⟨(some 51), .mov (.t 0), none, []⟩,
    ⟨(some 52), .mov (.t 7), none, []⟩,
    ⟨(some 53), .mov (.t 10), none, []⟩,
    ⟨(some 54), .mov (.t 6), none, []⟩,
    ⟨(some 55), .call (.c (.fn F_slices_siftDownOrdered_string [])) [(.t 51), (.t 52), (.t 53), (.t 54)], none, []⟩] false)))
  (.mask ⟨[0, 6, 7, 10], []⟩ (.region 9 [
    ⟨(some 31), .mov (.t 10), none, []⟩,
    ⟨(some 32), .bin .sub (.t 31) (.c (.d (.int .i64 (1)))), none, []⟩,
    ⟨(some 10), .mov (.t 32), none, []⟩] false))))
/-- slices.heapSortOrdered[string] -/
def code_slices_heapSortOrdered_string : AFunc := ⟨56, [],
  .seq (.region 0 [
    ⟨(some 11), .mov (.t 1), none, []⟩,
    ⟨(some 6), .mov (.t 11), none, []⟩] false)
  (.seq (.region 1 [
    ⟨(some 7), .mov (.c (.d (.int .i64 (0)))), none, []⟩] false)
  (.seq (.region 2 [
    ⟨(some 12), .mov (.t 2), none, []⟩,
    ⟨(some 13), .mov (.t 1), none, []⟩,
    ⟨(some 14), .bin .sub (.t 12) (.t 13), none, []⟩,
    ⟨(some 8), .mov (.t 14), none, []⟩] false)
  (.seq (.seq (.region 3 [
    ⟨(some 15), .mov (.t 8), none, []⟩,
    ⟨(some 16), .bin .sub (.t 15) (.c (.d (.int .i64 (1)))), none, []⟩,
    ⟨(some 17), .bin .quo (.t 16) (.c (.d (.int .i64 (2)))), none, []⟩,
    ⟨(some 9), .mov (.t 17), none, []⟩] false)
  (.block 0 (.loop mask_slices_heapSortOrdered_string_0 body_slices_heapSortOrdered_string_0)))
  (.mask ⟨[0, 6, 7, 8], []⟩ (.seq (.region 7 [
    ⟨(some 27), .mov (.t 8), none, []⟩,
    ⟨(some 28), .bin .sub (.t 27) (.c (.d (.int .i64 (1)))), none, []⟩,
    ⟨(some 10), .mov (.t 28), none, []⟩] false)
  (.block 2 (.loop mask_slices_heapSortOrdered_string_1 body_slices_heapSortOrdered_string_1)))))))⟩
def mask_slices_breakPatternsOrdered_string_0 : Mask := ⟨[0, 1, 6, 7, 8, 9], []⟩
def body_slices_breakPatternsOrdered_string_0 : ACode :=
  .seq (.seq (.region 5 [
    ⟨(some 26), .mov (.t 9), none, []⟩,
    ⟨(some 27), .mov (.t 1), none, []⟩,
    ⟨(some 28), .mov (.t 6), none, []⟩,
    ⟨(some 29), .bin .quo (.t 28) (.c (.d (.int .i64 (4)))), none, []⟩,
    ⟨(some 30), .bin .mul (.t 29) (.c (.d (.int .i64 (2)))), none, []⟩,
    ⟨(some 31), .bin .add (.t 27) (.t 30), none, []⟩,
    ⟨(some 32), .bin .add (.t 31) (.c (.d (.int .i64 (1)))), none, []⟩,
    ⟨(some 33), .bin .leq (.t 26) (.t 32), none, []⟩] false)
  (.cond (.t 33)
    (.skip)
    (.mask ⟨[], []⟩ (.exit 0))))
  (.mask ⟨[0, 1, 6, 7, 8, 9], []⟩ (.seq (.block 1 (.seq (.region 7 [
    ⟨(some 36), .call (.c (.fn F_slices_xorshift_Next [])) [(.t 7)], none, []⟩,
    ⟨(some 37), .mov (.t 8), none, []⟩,
    ⟨(some 38), .bin .sub (.t 37) (.c (.d (.int .u64 (1)))), none, []⟩,
    ⟨(some 39), .bin .and (.t 36) (.t 38), none, []⟩,
    ⟨(some 40), .toInt .i64 (.t 39), none, []⟩,
    ⟨(some 10), .mov (.t 40), none, []⟩] false)
  (.seq (.seq (.region 8 [
    ⟨(some 41), .mov (.t 10), none, []⟩,
    ⟨(some 42), .mov (.t 6), none, []⟩,
    ⟨(some 43), .bin .geq (.t 41) (.t 42), none, []⟩] false)
  (.cond (.t 43)
    (.region 9 [
      ⟨(some 44), .mov (.t 10), none, []⟩,
      ⟨(some 45), .mov (.t 6), none, []⟩,
      ⟨(some 46), .bin .sub (.t 44) (.t 45), none, []⟩,
      ⟨(some 10), .mov (.t 46), none, []⟩] false)
    (.skip)))
  (.mask ⟨[0, 1, 6, 7, 8, 9, 10], []⟩ (.region 10 [
    ⟨(some 47), .mov (.t 0), none, []⟩,
    ⟨(some 48), .mov (.t 9), none, []⟩,
    ⟨(some 49), .mov (.t 0), none, []⟩,
    ⟨(some 50), .mov (.t 1), none, []⟩,
    ⟨(some 51), .mov (.t 10), none, []⟩,
    ⟨(some 52), .bin .add (.t 50) (.t 51), none, [3, 4]⟩,
    ⟨(some 53), .mov (.t 0), none, []⟩,
    ⟨(some 54), .mov (.t 1), none, []⟩,
    ⟨(some 55), .mov (.t 10), none, []⟩,
    ⟨(some 56), .bin .add (.t 54) (.t 55), none, [7, 8]⟩,
    ⟨(some 57), .iaddr 1 (.t 53) (.t 56), none, [6, 7, 8, 9]⟩,
    ⟨(some 58), .load 1 false (.t 57), none, [6, 7, 8, 9, 10]⟩,
    ⟨(some 59), .mov (.t 0), none, []⟩,
    ⟨(some 60), .mov (.t 9), none, []⟩,
    ⟨(some 61), .iaddr 1 (.t 59) (.t 60), none, [12, 13]⟩,
    ⟨(some 62), .load 1 false (.t 61), none, [12, 13, 14]⟩,
    ⟨(some 63), .iaddr 1 (.t 47) (.t 48), none, [0, 1, 6, 7, 8, 9, 10, 11, 12, 13, 14, 15]⟩,
    ⟨none, .store 1 (.t 63) (.t 58), none, [0, 1, 6, 7, 8, 9, 10, 11, 12, 13, 14, 15, 16]⟩,
    ⟨(some 64), .iaddr 1 (.t 49) (.t 52), none, [0, 1, 2, 3, 4, 5, 6, 7, 8, 9, 10, 11, 12, 13, 14, 15, 16, 17]⟩,
    ⟨none, .store 1 (.t 64) (.t 62), none, [0, 1, 2, 3, 4, 5, 6, 7, 8, 9, 10, 11, 12, 13, 14, 15, 16, 17, 18]⟩] true)))))
  (.mask ⟨[0, 1, 6, 7, 8, 9], []⟩ (.region 6 [
    ⟨(some 34), .mov (.t 9), none, []⟩,
    ⟨(some 35), .bin .add (.t 34) (.c (.d (.int .i64 (1)))), none, []⟩,
    ⟨(some 9), .mov (.t 35), none, []⟩] false))))
/-- slices.breakPatternsOrdered[string] -/
def code_slices_breakPatternsOrdered_string : AFunc := ⟨65, [],
  .seq (.region 0 [
    ⟨(some 11), .mov (.t 2), none, []⟩,
    ⟨(some 12), .mov (.t 1), none, []⟩,
    ⟨(some 13), .bin .sub (.t 11) (.t 12), none, []⟩,
    ⟨(some 6), .mov (.t 13), none, []⟩] false)
  (.seq (.region 1 [
    ⟨(some 14), .mov (.t 6), none, []⟩,
    ⟨(some 15), .bin .geq (.t 14) (.c (.d (.int .i64 (8)))), none, []⟩] false)
  (.cond (.t 15)
    (.seq (.region 2 [
      ⟨(some 16), .mov (.t 6), none, []⟩,
      ⟨(some 17), .toInt .u64 (.t 16), none, []⟩,
      ⟨(some 7), .box 1 (.c (.d (.int .u64 (0)))), none, []⟩,
      ⟨none, .store 1 (.t 7) (.t 17), none, []⟩] false)
    (.seq (.region 3 [
      ⟨(some 18), .mov (.t 6), none, []⟩,
      ⟨(some 19), .call (.c (.fn F_slices_nextPowerOfTwo [])) [(.t 18)], none, []⟩,
      ⟨(some 8), .mov (.t 19), none, []⟩] false)
    (.seq (.region 4 [
      ⟨(some 20), .mov (.t 1), none, []⟩,
      ⟨(some 21), .mov (.t 6), none, []⟩,
      ⟨(some 22), .bin .quo (.t 21) (.c (.d (.int .i64 (4)))), none, []⟩,
      ⟨(some 23), .bin .mul (.t 22) (.c (.d (.int .i64 (2)))), none, []⟩,
      ⟨(some 24), .bin .add (.t 20) (.t 23), none, []⟩,
      ⟨(some 25), .bin .sub (.t 24) (.c (.d (.int .i64 (1)))), none, []⟩,
      ⟨(some 9), .mov (.t 25), none, []⟩] false)
    (.block 0 (.loop mask_slices_breakPatternsOrdered_string_0 body_slices_breakPatternsOrdered_string_0)))))
    (.skip)))⟩
/-- slices.choosePivotOrdered[string] -/
def code_slices_choosePivotOrdered_string : AFunc := ⟨57, [.tmp 6, .tmp 7],
  .seq (.region 0 [
    ⟨(some 6), .mov (.c (.d (.int .i64 (0)))), none, []⟩,
    ⟨(some 7), .mov (.c (.d (.int .i64 (0)))), none, []⟩] false)
  (.seq (.region 1 [
    ⟨(some 13), .mov (.t 2), none, []⟩,
    ⟨(some 14), .mov (.t 1), none, []⟩,
    ⟨(some 15), .bin .sub (.t 13) (.t 14), none, []⟩,
    ⟨(some 8), .mov (.t 15), none, []⟩] false)
  (.seq (.region 2 [
    ⟨(some 9), .box 1 (.c (.d (.int .i64 (0)))), none, []⟩] false)
  (.seq (.region 3 [
    ⟨(some 16), .mov (.t 1), none, []⟩,
    ⟨(some 17), .mov (.t 8), none, []⟩,
    ⟨(some 18), .bin .quo (.t 17) (.c (.d (.int .i64 (4)))), none, []⟩,
    ⟨(some 19), .bin .mul (.t 18) (.c (.d (.int .i64 (1)))), none, []⟩,
    ⟨(some 20), .bin .add (.t 16) (.t 19), none, []⟩,
    ⟨(some 10), .mov (.t 20), none, []⟩] false)
  (.seq (.region 4 [
    ⟨(some 21), .mov (.t 1), none, []⟩,
    ⟨(some 22), .mov (.t 8), none, []⟩,
    ⟨(some 23), .bin .quo (.t 22) (.c (.d (.int .i64 (4)))), none, []⟩,
    ⟨(some 24), .bin .mul (.t 23) (.c (.d (.int .i64 (2)))), none, []⟩,
    ⟨(some 25), .bin .add (.t 21) (.t 24), none, []⟩,
    ⟨(some 11), .mov (.t 25), none, []⟩] false)
  (.seq (.region 5 [
    ⟨(some 26), .mov (.t 1), none, []⟩,
    ⟨(some 27), .mov (.t 8), none, []⟩,
    ⟨(some 28), .bin .quo (.t 27) (.c (.d (.int .i64 (4)))), none, []⟩,
    ⟨(some 29), .bin .mul (.t 28) (.c (.d (.int .i64 (3)))), none, []⟩,
    ⟨(some 30), .bin .add (.t 26) (.t 29), none, []⟩,
    ⟨(some 12), .mov (.t 30), none, []⟩] false)
  (.seq (.seq (.region 6 [
    ⟨(some 31), .mov (.t 8), none, []⟩,
    ⟨(some 32), .bin .geq (.t 31) (.c (.d (.int .i64 (8)))), none, []⟩] false)
  (.cond (.t 32)
    (.seq (.seq (.region 7 [
      ⟨(some 33), .mov (.t 8), none, []⟩,
      ⟨(some 34), .bin .geq (.t 33) (.c (.d (.int .i64 (50)))), none, []⟩] false)
    (.cond (.t 34)
      (.seq (.region 8 [
        ⟨(some 35), .mov (.t 0), none, []⟩,
        ⟨(some 36), .mov (.t 10), none, []⟩,
        ⟨(some 37), .call (.c (.fn F_slices_medianAdjacentOrdered_string [])) [(.t 35), (.t 36), (.t 9)], none, []⟩,
        ⟨(some 10), .mov (.t 37), none, []⟩] false)
      (.seq (.region 9 [
        ⟨(some 38), .mov (.t 0), none, []⟩,
        ⟨(some 39), .mov (.t 11), none, []⟩,
        ⟨(some 40), .call (.c (.fn F_slices_medianAdjacentOrdered_string [])) [(.t 38), (.t 39), (.t 9)], none, []⟩,
        ⟨(some 11), .mov (.t 40), none, []⟩] false)
      (.region 10 [
        ⟨(some 41), .mov (.t 0), none, []⟩,
        ⟨(some 42), .mov (.t 12), none, []⟩,
        ⟨(some 43), .call (.c (.fn F_slices_medianAdjacentOrdered_string [])) [(.t 41), (.t 42), (.t 9)], none, []⟩,
        ⟨(some 12), .mov (.t 43), none, []⟩] false)))
      (.skip)))
    (.mask ⟨[0, 9, 10, 11, 12], []⟩ (.region 11 [
      ⟨(some 44), .mov (.t 0), none, []⟩,
      ⟨(some 45), .mov (.t 10), none, []⟩,
      ⟨(some 46), .mov (.t 11), none, []⟩,
      ⟨(some 47), .mov (.t 12), none, []⟩,
      ⟨(some 48), .call (.c (.fn F_slices_medianOrdered_string [])) [(.t 44), (.t 45), (.t 46), (.t 47), (.t 9)], none, []⟩,
      ⟨(some 11), .mov (.t 48), none, []⟩] false)))
    (.skip)))
  (.mask ⟨[9, 11], []⟩ (.seq (.region 12 [
    ⟨(some 49), .load 1 false (.t 9), none, []⟩] false)
  (.block 0 (.seq (.region 14 [
    ⟨(some 52), .bin .eql (.t 49) (.c (.d (.int .i64 (0)))), none, []⟩,
    ⟨(some 51), .mov (.t 52), none, []⟩] false)
  (.cond (.t 51)
    (.seq (.region 15 [
      ⟨(some 53), .mov (.t 11), none, []⟩,
      ⟨(some 6), .mov (.t 53), none, []⟩,
      ⟨(some 7), .mov (.c (.d (.int .i64 (1)))), none, []⟩] false)
    (.mask ⟨[6, 7], []⟩ (.ret)))
    (.seq (.region 16 [
      ⟨(some 55), .bin .eql (.t 49) (.c (.d (.int .i64 (12)))), none, []⟩,
      ⟨(some 54), .mov (.t 55), none, []⟩] false)
    (.cond (.t 54)
      (.seq (.region 17 [
        ⟨(some 56), .mov (.t 11), none, []⟩,
        ⟨(some 6), .mov (.t 56), none, []⟩,
        ⟨(some 7), .mov (.c (.d (.int .i64 (2)))), none, []⟩] false)
      (.mask ⟨[6, 7], []⟩ (.ret)))
      (.seq (.region 13 [
        ⟨(some 50), .mov (.t 11), none, []⟩,
        ⟨(some 6), .mov (.t 50), none, []⟩,
        ⟨(some 7), .mov (.c (.d (.int .i64 (0)))), none, []⟩] false)
      (.mask ⟨[6, 7], []⟩ (.ret))))))))))))))))⟩
def mask_slices_reverseRangeOrdered_string_0 : Mask := ⟨[0, 6, 7], []⟩
def body_slices_reverseRangeOrdered_string_0 : ACode :=
  .seq (.seq (.region 2 [
    ⟨(some 11), .mov (.t 6), none, []⟩,
    ⟨(some 12), .mov (.t 7), none, []⟩,
    ⟨(some 13), .bin .lss (.t 11) (.t 12), none, []⟩] false)
  (.cond (.t 13)
    (.skip)
    (.mask ⟨[], []⟩ (.exit 0))))
  (.mask ⟨[0, 6, 7], []⟩ (.block 1 (.seq (.region 3 [
    ⟨(some 14), .mov (.t 0), none, []⟩,
    ⟨(some 15), .mov (.t 6), none, []⟩,
    ⟨(some 16), .mov (.t 0), none, []⟩,
    ⟨(some 17), .mov (.t 7), none, []⟩,
    ⟨(some 18), .mov (.t 0), none, []⟩,
    ⟨(some 19), .mov (.t 7), none, []⟩,
    ⟨(some 20), .iaddr 1 (.t 18) (.t 19), none, [4, 5]⟩,
    ⟨(some 21), .load 1 false (.t 20), none, [4, 5, 6]⟩,
    ⟨(some 22), .mov (.t 0), none, []⟩,
    ⟨(some 23), .mov (.t 6), none, []⟩,
    ⟨(some 24), .iaddr 1 (.t 22) (.t 23), none, [8, 9]⟩,
    ⟨(some 25), .load 1 false (.t 24), none, [8, 9, 10]⟩,
    ⟨(some 26), .iaddr 1 (.t 14) (.t 15), none, [0, 1, 4, 5, 6, 7, 8, 9, 10, 11]⟩,
    ⟨none, .store 1 (.t 26) (.t 21), none, [0, 1, 4, 5, 6, 7, 8, 9, 10, 11, 12]⟩,
    ⟨(some 27), .iaddr 1 (.t 16) (.t 17), none, [0, 1, 2, 3, 4, 5, 6, 7, 8, 9, 10, 11, 12, 13]⟩,
    ⟨none, .store 1 (.t 27) (.t 25), none, [0, 1, 2, 3, 4, 5, 6, 7, 8, 9, 10, 11, 12, 13, 14]⟩] true)
  (.seq (.region 4 [
    ⟨(some 28), .mov (.t 6), none, []⟩,
    ⟨(some 29), .bin .add (.t 28) (.c (.d (.int .i64 (1)))), none, []⟩,
    ⟨(some 6), .mov (.t 29), none, []⟩] false)
  (.region 5 [
    ⟨(some 30), .mov (.t 7), none, []⟩,
    ⟨(some 31), .bin .sub (.t 30) (.c (.d (.int .i64 (1)))), none, []⟩,
    ⟨(some 7), .mov (.t 31), none, []⟩] false)))))
/-- slices.reverseRangeOrdered[string] -/
def code_slices_reverseRangeOrdered_string : AFunc := ⟨32, [],
  .seq (.region 0 [
    ⟨(some 8), .mov (.t 1), none, []⟩,
    ⟨(some 6), .mov (.t 8), none, []⟩] false)
  (.seq (.region 1 [
    ⟨(some 9), .mov (.t 2), none, []⟩,
    ⟨(some 10), .bin .sub (.t 9) (.c (.d (.int .i64 (1)))), none, []⟩,
    ⟨(some 7), .mov (.t 10), none, []⟩] false)
  (.block 0 (.loop mask_slices_reverseRangeOrdered_string_0 body_slices_reverseRangeOrdered_string_0)))⟩
def mask_slices_partialInsertionSortOrdered_string_0 : Mask := ⟨[0, 1, 2, 7, 8], []⟩
def body_slices_partialInsertionSortOrdered_string_0 : ACode :=
  .seq (.seq (.region 5 [
    ⟨(some 17), .mov (.t 7), none, []⟩,
    ⟨(some 18), .mov (.t 2), none, []⟩,
    ⟨(some 19), .bin .lss (.t 17) (.t 18), none, [0, 1]⟩,
    ⟨(some 20), .mov (.t 19), none, [0, 1, 2]⟩,
    ⟨(some 21), .mov (.t 0), (some (20, true)), [0, 1, 2, 3]⟩,
    ⟨(some 22), .mov (.t 7), (some (20, true)), [0, 1, 2, 3]⟩,
    ⟨(some 23), .iaddr 1 (.t 21) (.t 22), (some (20, true)), [0, 1, 2, 3, 4, 5]⟩,
    ⟨(some 24), .load 1 false (.t 23), (some (20, true)), [0, 1, 2, 3, 4, 5, 6]⟩,
    ⟨(some 25), .mov (.t 0), (some (20, true)), [0, 1, 2, 3]⟩,
    ⟨(some 26), .mov (.t 7), (some (20, true)), [0, 1, 2, 3]⟩,
    ⟨(some 27), .bin .sub (.t 26) (.c (.d (.int .i64 (1)))), (some (20, true)), [0, 1, 2, 3, 9]⟩,
    ⟨(some 28), .iaddr 1 (.t 25) (.t 27), (some (20, true)), [0, 1, 2, 3, 8, 9, 10]⟩,
    ⟨(some 29), .load 1 false (.t 28), (some (20, true)), [0, 1, 2, 3, 8, 9, 10, 11]⟩,
    ⟨(some 30), .call (.c (.fn F_cmp_Less_string [])) [(.t 24), (.t 29)], (some (20, true)), [0, 1, 2, 3, 4, 5, 6, 7, 8, 9, 10, 11, 12]⟩,
    ⟨(some 31), .un .not (.t 30), (some (20, true)), [0, 1, 2, 3, 4, 5, 6, 7, 8, 9, 10, 11, 12, 13]⟩,
    ⟨(some 32), .pick (.t 20) (.t 31) (.c (.d (.bool false))), none, [0, 1, 2, 3, 4, 5, 6, 7, 8, 9, 10, 11, 12, 13, 14]⟩] true)
  (.mask ⟨[0, 1, 2, 7, 8, 32], []⟩ (.cond (.t 32)
    (.skip)
    (.mask ⟨[0, 1, 2, 7, 8], []⟩ (.exit 2)))))
  (.mask ⟨[0, 1, 2, 7, 8], []⟩ (.block 3 (.region 6 [
    ⟨(some 33), .mov (.t 7), none, []⟩,
    ⟨(some 34), .bin .add (.t 33) (.c (.d (.int .i64 (1)))), none, []⟩,
    ⟨(some 7), .mov (.t 34), none, []⟩] false)))
def mask_slices_partialInsertionSortOrdered_string_1 : Mask := ⟨[0, 1, 2, 7, 8, 9], []⟩
def body_slices_partialInsertionSortOrdered_string_1 : ACode :=
  .seq (.seq (.region 14 [
    ⟨(some 64), .mov (.t 9), none, []⟩,
    ⟨(some 65), .bin .geq (.t 64) (.c (.d (.int .i64 (1)))), none, []⟩] false)
  (.cond (.t 65)
    (.skip)
    (.mask ⟨[0, 1, 2, 7, 8], []⟩ (.exit 4))))
  (.mask ⟨[0, 1, 2, 7, 8, 9], []⟩ (.seq (.block 5 (.seq (.seq (.region 16 [
    ⟨(some 68), .mov (.t 0), none, []⟩,
    ⟨(some 69), .mov (.t 9), none, []⟩,
    ⟨(some 70), .iaddr 1 (.t 68) (.t 69), none, [0, 1]⟩,
    ⟨(some 71), .load 1 false (.t 70), none, [0, 1, 2]⟩,
    ⟨(some 72), .mov (.t 0), none, []⟩,
    ⟨(some 73), .mov (.t 9), none, []⟩,
    ⟨(some 74), .bin .sub (.t 73) (.c (.d (.int .i64 (1)))), none, [5]⟩,
    ⟨(some 75), .iaddr 1 (.t 72) (.t 74), none, [4, 5, 6]⟩,
    ⟨(some 76), .load 1 false (.t 75), none, [4, 5, 6, 7]⟩,
    ⟨(some 77), .call (.c (.fn F_cmp_Less_string [])) [(.t 71), (.t 76)], none, [0, 1, 2, 3, 4, 5, 6, 7, 8]⟩,
    ⟨(some 78), .un .not (.t 77), none, [0, 1, 2, 3, 4, 5, 6, 7, 8, 9]⟩] true)
  (.cond (.t 78)
    (.mask ⟨[0, 1, 2, 7, 8], []⟩ (.exit 4))
    (.skip)))
  (.mask ⟨[0, 1, 2, 7, 8, 9], []⟩ (.region 17 [
    ⟨(some 79), .mov (.t 0), none, []⟩,
    ⟨(some 80), .mov (.t 9), none, []⟩,
    ⟨(some 81), .mov (.t 0), none, []⟩,
    ⟨(some 82), .mov (.t 9), none, []⟩,
    ⟨(some 83), .bin .sub (.t 82) (.c (.d (.int .i64 (1)))), none, [3]⟩,
    ⟨(some 84), .mov (.t 0), none, []⟩,
    ⟨(some 85), .mov (.t 9), none, []⟩,
    ⟨(some 86), .bin .sub (.t 85) (.c (.d (.int .i64 (1)))), none, [6]⟩,
    ⟨(some 87), .iaddr 1 (.t 84) (.t 86), none, [5, 6, 7]⟩,
    ⟨(some 88), .load 1 false (.t 87), none, [5, 6, 7, 8]⟩,
    ⟨(some 89), .mov (.t 0), none, []⟩,
    ⟨(some 90), .mov (.t 9), none, []⟩,
    ⟨(some 91), .iaddr 1 (.t 89) (.t 90), none, [10, 11]⟩,
    ⟨(some 92), .load 1 false (.t 91), none, [10, 11, 12]⟩,
    ⟨(some 93), .iaddr 1 (.t 79) (.t 80), none, [0, 1, 5, 6, 7, 8, 9, 10, 11, 12, 13]⟩,
    ⟨none, .store 1 (.t 93) (.t 88), none, [0, 1, 5, 6, 7, 8, 9, 10, 11, 12, 13, 14]⟩,
    ⟨(some 94), .iaddr 1 (.t 81) (.t 83), none, [0, 1, 2, 3, 4, 5, 6, 7, 8, 9, 10, 11, 12, 13, 14, 15]⟩,
    ⟨none, .store 1 (.t 94) (.t 92), none, [0, 1, 2, 3, 4, 5, 6, 7, 8, 9, 10, 11, 12, 13, 14, 15, 16]⟩] true))))
  (.mask ⟨[0, 1, 2, 7, 8, 9], []⟩ (.region 15 [
    ⟨(some 66), .mov (.t 9), none, []⟩,
    ⟨(some 67), .bin .sub (.t 66) (.c (.d (.int .i64 (1)))), none, []⟩,
    ⟨(some 9), .mov (.t 67), none, []⟩] false))))
def mask_slices_partialInsertionSortOrdered_string_2 : Mask := ⟨[0, 1, 2, 7, 8, 10], []⟩
def body_slices_partialInsertionSortOrdered_string_2 : ACode :=
  .seq (.seq (.region 20 [
    ⟨(some 101), .mov (.t 10), none, []⟩,
    ⟨(some 102), .mov (.t 2), none, []⟩,
    ⟨(some 103), .bin .lss (.t 101) (.t 102), none, []⟩] false)
  (.cond (.t 103)
    (.skip)
    (.mask ⟨[0, 1, 2, 7, 8], []⟩ (.exit 6))))
  (.mask ⟨[0, 1, 2, 7, 8, 10], []⟩ (.seq (.block 7 (.seq (.seq (.region 22 [
    ⟨(some 106), .mov (.t 0), none, []⟩,
    ⟨(some 107), .mov (.t 10), none, []⟩,
    ⟨(some 108), .iaddr 1 (.t 106) (.t 107), none, [0, 1]⟩,
    ⟨(some 109), .load 1 false (.t 108), none, [0, 1, 2]⟩,
    ⟨(some 110), .mov (.t 0), none, []⟩,
    ⟨(some 111), .mov (.t 10), none, []⟩,
    ⟨(some 112), .bin .sub (.t 111) (.c (.d (.int .i64 (1)))), none, [5]⟩,
    ⟨(some 113), .iaddr 1 (.t 110) (.t 112), none, [4, 5, 6]⟩,
    ⟨(some 114), .load 1 false (.t 113), none, [4, 5, 6, 7]⟩,
    ⟨(some 115), .call (.c (.fn F_cmp_Less_string [])) [(.t 109), (.t 114)], none, [0, 1, 2, 3, 4, 5, 6, 7, 8]⟩,
    ⟨(some 116), .un .not (.t 115), none, [0, 1, 2, 3, 4, 5, 6, 7, 8, 9]⟩] true)
  (.cond (.t 116)
    (.mask ⟨[0, 1, 2, 7, 8], []⟩ (.exit 6))
    (.skip)))
  (.mask ⟨[0, 1, 2, 7, 8, 10], []⟩ (.region 23 [
    ⟨(some 117), .mov (.t 0), none, []⟩,
    ⟨(some 118), .mov (.t 10), none, []⟩,
    ⟨(some 119), .mov (.t 0), none, []⟩,
    ⟨(some 120), .mov (.t 10), none, []⟩,
    ⟨(some 121), .bin .sub (.t 120) (.c (.d (.int .i64 (1)))), none, [3]⟩,
    ⟨(some 122), .mov (.t 0), none, []⟩,
    ⟨(some 123), .mov (.t 10), none, []⟩,
    ⟨(some 124), .bin .sub (.t 123) (.c (.d (.int .i64 (1)))), none, [6]⟩,
    ⟨(some 125), .iaddr 1 (.t 122) (.t 124), none, [5, 6, 7]⟩,
    ⟨(some 126), .load 1 false (.t 125), none, [5, 6, 7, 8]⟩,
    ⟨(some 127), .mov (.t 0), none, []⟩,
    ⟨(some 128), .mov (.t 10), none, []⟩,
    ⟨(some 129), .iaddr 1 (.t 127) (.t 128), none, [10, 11]⟩,
    ⟨(some 130), .load 1 false (.t 129), none, [10, 11, 12]⟩,
    ⟨(some 131), .iaddr 1 (.t 117) (.t 118), none, [0, 1, 5, 6, 7, 8, 9, 10, 11, 12, 13]⟩,
    ⟨none, .store 1 (.t 131) (.t 126), none, [0, 1, 5, 6, 7, 8, 9, 10, 11, 12, 13, 14]⟩,
    ⟨(some 132), .iaddr 1 (.t 119) (.t 121), none, [0, 1, 2, 3, 4, 5, 6, 7, 8, 9, 10, 11, 12, 13, 14, 15]⟩,
    ⟨none, .store 1 (.t 132) (.t 130), none, [0, 1, 2, 3, 4, 5, 6, 7, 8, 9, 10, 11, 12, 13, 14, 15, 16]⟩] true))))
  (.mask ⟨[0, 1, 2, 7, 8, 10], []⟩ (.region 21 [
    ⟨(some 104), .mov (.t 10), none, []⟩,
    ⟨(some 105), .bin .add (.t 104) (.c (.d (.int .i64 (1)))), none, []⟩,
    ⟨(some 10), .mov (.t 105), none, []⟩] false))))
def mask_slices_partialInsertionSortOrdered_string_3 : Mask := ⟨[0, 1, 2, 7, 8], []⟩
def body_slices_partialInsertionSortOrdered_string_3 : ACode :=
  .seq (.seq (.region 3 [
    ⟨(some 13), .mov (.t 8), none, []⟩,
    ⟨(some 14), .bin .lss (.t 13) (.c (.d (.int .i64 (5)))), none, []⟩] false)
  (.cond (.t 14)
    (.skip)
    (.mask ⟨[], []⟩ (.exit 0))))
  (.mask ⟨[0, 1, 2, 7, 8], []⟩ (.seq (.block 1 (.seq (.block 2 (.loop mask_slices_partialInsertionSortOrdered_string_0 body_slices_partialInsertionSortOrdered_string_0))
  (.mask ⟨[0, 1, 2, 7, 8], []⟩ (.seq (.seq (.region 7 [
    ⟨(some 35), .mov (.t 7), none, []⟩,
    ⟨(some 36), .mov (.t 2), none, []⟩,
    ⟨(some 37), .bin .eql (.t 35) (.t 36), none, []⟩] false)
  (.cond (.t 37)
    (.seq (.region 8 [
      ⟨(some 6), .mov (.c (.d (.bool true))), none, []⟩] false)
    (.mask ⟨[6], []⟩ (.ret)))
    (.skip)))
  (.mask ⟨[0, 1, 2, 7, 8], []⟩ (.seq (.seq (.region 9 [
    ⟨(some 38), .mov (.t 2), none, []⟩,
    ⟨(some 39), .mov (.t 1), none, []⟩,
    ⟨(some 40), .bin .sub (.t 38) (.t 39), none, []⟩,
    ⟨(some 41), .bin .lss (.t 40) (.c (.d (.int .i64 (50)))), none, []⟩] false)
  (.cond (.t 41)
    (.seq (.region 10 [
      ⟨(some 6), .mov (.c (.d (.bool false))), none, []⟩] false)
    (.mask ⟨[6], []⟩ (.ret)))
    (.skip)))
  (.mask ⟨[0, 1, 2, 7, 8], []⟩ (.seq (.region 11 [
    ⟨(some 42), .mov (.t 0), none, []⟩,
    ⟨(some 43), .mov (.t 7), none, []⟩,
    ⟨(some 44), .mov (.t 0), none, []⟩,
    ⟨(some 45), .mov (.t 7), none, []⟩,
    ⟨(some 46), .bin .sub (.t 45) (.c (.d (.int .i64 (1)))), none, [3]⟩,
    ⟨(some 47), .mov (.t 0), none, []⟩,
    ⟨(some 48), .mov (.t 7), none, []⟩,
    ⟨(some 49), .bin .sub (.t 48) (.c (.d (.int .i64 (1)))), none, [6]⟩,
    ⟨(some 50), .iaddr 1 (.t 47) (.t 49), none, [5, 6, 7]⟩,
    ⟨(some 51), .load 1 false (.t 50), none, [5, 6, 7, 8]⟩,
    ⟨(some 52), .mov (.t 0), none, []⟩,
    ⟨(some 53), .mov (.t 7), none, []⟩,
    ⟨(some 54), .iaddr 1 (.t 52) (.t 53), none, [10, 11]⟩,
    ⟨(some 55), .load 1 false (.t 54), none, [10, 11, 12]⟩,
    ⟨(some 56), .iaddr 1 (.t 42) (.t 43), none, [0, 1, 5, 6, 7, 8, 9, 10, 11, 12, 13]⟩,
    ⟨none, .store 1 (.t 56) (.t 51), none, [0, 1, 5, 6, 7, 8, 9, 10, 11, 12, 13, 14]⟩,
    ⟨(some 57), .iaddr 1 (.t 44) (.t 46), none, [0, 1, 2, 3, 4, 5, 6, 7, 8, 9, 10, 11, 12, 13, 14, 15]⟩,
    ⟨none, .store 1 (.t 57) (.t 55), none, [0, 1, 2, 3, 4, 5, 6, 7, 8, 9, 10, 11, 12, 13, 14, 15, 16]⟩] true)
  (.seq (.seq (.region 12 [
    ⟨(some 58), .mov (.t 7), none, []⟩,
    ⟨(some 59), .mov (.t 1), none, []⟩,
    ⟨(some 60), .bin .sub (.t 58) (.t 59), none, []⟩,
    ⟨(some 61), .bin .geq (.t 60) (.c (.d (.int .i64 (2)))), none, []⟩] false)
  (.cond (.t 61)
    (.seq (.region 13 [
      ⟨(some 62), .mov (.t 7), none, []⟩,
      ⟨(some 63), .bin .sub (.t 62) (.c (.d (.int .i64 (1)))), none, []⟩,
      ⟨(some 9), .mov (.t 63), none, []⟩] false)
    (.block 4 (.loop mask_slices_partialInsertionSortOrdered_string_1 body_slices_partialInsertionSortOrdered_string_1)))
    (.skip)))
  (.mask ⟨[0, 1, 2, 7, 8], []⟩ (.seq (.region 18 [
    ⟨(some 95), .mov (.t 2), none, []⟩,
    ⟨(some 96), .mov (.t 7), none, []⟩,
    ⟨(some 97), .bin .sub (.t 95) (.t 96), none, []⟩,
    ⟨(some 98), .bin .geq (.t 97) (.c (.d (.int .i64 (2)))), none, []⟩] false)
  (.cond (.t 98)
    (.seq (.region 19 [
      ⟨(some 99), .mov (.t 7), none, []⟩,
      ⟨(some 100), .bin .add (.t 99) (.c (.d (.int .i64 (1)))), none, []⟩,
      ⟨(some 10), .mov (.t 100), none, []⟩] false)
    (.block 6 (.loop mask_slices_partialInsertionSortOrdered_string_2 body_slices_partialInsertionSortOrdered_string_2)))
    (.skip)))))))))))))
  (.mask ⟨[0, 1, 2, 7, 8], []⟩ (.region 4 [
    ⟨(some 15), .mov (.t 8), none, []⟩,
    ⟨(some 16), .bin .add (.t 15) (.c (.d (.int .i64 (1)))), none, []⟩,
    ⟨(some 8), .mov (.t 16), none, []⟩] false))))
/-- slices.partialInsertionSortOrdered[string] -/
def code_slices_partialInsertionSortOrdered_string : AFunc := ⟨133, [.tmp 6],
  .seq (.region 0 [
    ⟨(some 6), .mov (.c (.d (.bool false))), none, []⟩] false)
  (.seq (.region 1 [
    ⟨(some 11), .mov (.t 1), none, []⟩,
    ⟨(some 12), .bin .add (.t 11) (.c (.d (.int .i64 (1)))), none, []⟩,
    ⟨(some 7), .mov (.t 12), none, []⟩] false)
  (.seq (.seq (.region 2 [
    ⟨(some 8), .mov (.c (.d (.int .i64 (0)))), none, []⟩] false)
  (.block 0 (.loop mask_slices_partialInsertionSortOrdered_string_3 body_slices_partialInsertionSortOrdered_string_3)))
  (.mask ⟨[], []⟩ (.seq (.region 24 [
    ⟨(some 6), .mov (.c (.d (.bool false))), none, []⟩] false)
  (.mask ⟨[6], []⟩ (.ret))))))⟩
/-- cmp.Less[string] -/
def code_cmp_Less_string : AFunc := ⟨17, [.tmp 4],
  .seq (.region 0 [
    ⟨(some 4), .mov (.c (.d (.bool false))), none, []⟩] false)
  (.seq (.region 1 [
    ⟨(some 5), .mov (.t 0), none, []⟩,
    ⟨(some 6), .call (.c (.fn F_cmp_isNaN_string [])) [(.t 5)], none, []⟩,
    ⟨(some 7), .mov (.t 6), none, []⟩,
    ⟨(some 8), .mov (.t 1), (some (7, true)), []⟩,
    ⟨(some 9), .call (.c (.fn F_cmp_isNaN_string [])) [(.t 8)], (some (7, true)), []⟩,
    ⟨(some 10), .un .not (.t 9), (some (7, true)), []⟩,
    ⟨(some 11), .pick (.t 7) (.t 10) (.c (.d (.bool false))), none, []⟩,
    ⟨(some 12), .mov (.t 11), none, []⟩,
    ⟨(some 13), .mov (.t 0), (some (12, false)), []⟩,
    ⟨(some 14), .mov (.t 1), (some (12, false)), []⟩,
    ⟨(some 15), .bin .lss (.t 13) (.t 14), (some (12, false)), []⟩,
    ⟨(some 16), .pick (.t 12) (.c (.d (.bool true))) (.t 15), none, []⟩,
    ⟨(some 4), .mov (.t 16), none, []⟩] false)
  (.mask ⟨[4], []⟩ (.ret)))⟩
def mask_slices_partitionEqualOrdered_string_0 : Mask := ⟨[0, 1, 9, 10], []⟩
def body_slices_partitionEqualOrdered_string_0 : ACode :=
  .seq (.seq (.region 3 [
    ⟨(some 29), .mov (.t 9), none, []⟩,
    ⟨(some 30), .mov (.t 10), none, []⟩,
    ⟨(some 31), .bin .leq (.t 29) (.t 30), none, [0, 1]⟩,
    ⟨(some 32), .mov (.t 31), none, [0, 1, 2]⟩,
    ⟨(some 33), .mov (.t 0), (some (32, true)), [0, 1, 2, 3]⟩,
    ⟨(some 34), .mov (.t 1), (some (32, true)), [0, 1, 2, 3]⟩,
    ⟨(some 35), .iaddr 1 (.t 33) (.t 34), (some (32, true)), [0, 1, 2, 3, 4, 5]⟩,
    ⟨(some 36), .load 1 false (.t 35), (some (32, true)), [0, 1, 2, 3, 4, 5, 6]⟩,
    ⟨(some 37), .mov (.t 0), (some (32, true)), [0, 1, 2, 3]⟩,
    ⟨(some 38), .mov (.t 9), (some (32, true)), [0, 1, 2, 3]⟩,
    ⟨(some 39), .iaddr 1 (.t 37) (.t 38), (some (32, true)), [0, 1, 2, 3, 8, 9]⟩,
    ⟨(some 40), .load 1 false (.t 39), (some (32, true)), [0, 1, 2, 3, 8, 9, 10]⟩,
    ⟨(some 41), .call (.c (.fn F_cmp_Less_string [])) [(.t 36), (.t 40)], (some (32, true)), [0, 1, 2, 3, 4, 5, 6, 7, 8, 9, 10, 11]⟩,
    ⟨(some 42), .un .not (.t 41), (some (32, true)), [0, 1, 2, 3, 4, 5, 6, 7, 8, 9, 10, 11, 12]⟩,
    ⟨(some 43), .pick (.t 32) (.t 42) (.c (.d (.bool false))), none, [0, 1, 2, 3, 4, 5, 6, 7, 8, 9, 10, 11, 12, 13]⟩] true)
  (.mask ⟨[0, 1, 9, 10, 43], []⟩ (.cond (.t 43)
    (.skip)
    (.mask ⟨[0, 1, 9, 10], []⟩ (.exit 2)))))
  (.mask ⟨[0, 1, 9, 10], []⟩ (.block 3 (.region 4 [
    ⟨(some 44), .mov (.t 9), none, []⟩,
    ⟨(some 45), .bin .add (.t 44) (.c (.d (.int .i64 (1)))), none, []⟩,
    ⟨(some 9), .mov (.t 45), none, []⟩] false)))
def mask_slices_partitionEqualOrdered_string_1 : Mask := ⟨[0, 1, 9, 10], []⟩
def body_slices_partitionEqualOrdered_string_1 : ACode :=
  .seq (.seq (.region 5 [
    ⟨(some 46), .mov (.t 9), none, []⟩,
    ⟨(some 47), .mov (.t 10), none, []⟩,
    ⟨(some 48), .bin .leq (.t 46) (.t 47), none, [0, 1]⟩,
    ⟨(some 49), .mov (.t 48), none, [0, 1, 2]⟩,
    ⟨(some 50), .mov (.t 0), (some (49, true)), [0, 1, 2, 3]⟩,
    ⟨(some 51), .mov (.t 1), (some (49, true)), [0, 1, 2, 3]⟩,
    ⟨(some 52), .iaddr 1 (.t 50) (.t 51), (some (49, true)), [0, 1, 2, 3, 4, 5]⟩,
    ⟨(some 53), .load 1 false (.t 52), (some (49, true)), [0, 1, 2, 3, 4, 5, 6]⟩,
    ⟨(some 54), .mov (.t 0), (some (49, true)), [0, 1, 2, 3]⟩,
    ⟨(some 55), .mov (.t 10), (some (49, true)), [0, 1, 2, 3]⟩,
    ⟨(some 56), .iaddr 1 (.t 54) (.t 55), (some (49, true)), [0, 1, 2, 3, 8, 9]⟩,
    ⟨(some 57), .load 1 false (.t 56), (some (49, true)), [0, 1, 2, 3, 8, 9, 10]⟩,
    ⟨(some 58), .call (.c (.fn F_cmp_Less_string [])) [(.t 53), (.t 57)], (some (49, true)), [0, 1, 2, 3, 4, 5, 6, 7, 8, 9, 10, 11]⟩,
    ⟨(some 59), .pick (.t 49) (.t 58) (.c (.d (.bool false))), none, [0, 1, 2, 3, 4, 5, 6, 7, 8, 9, 10, 11, 12]⟩] true)
  (.mask ⟨[0, 1, 9, 10, 59], []⟩ (.cond (.t 59)
    (.skip)
    (.mask ⟨[0, 1, 9, 10], []⟩ (.exit 4)))))
  (.mask ⟨[0, 1, 9, 10], []⟩ (.block 5 (.region 6 [
    ⟨(some 60), .mov (.t 10), none, []⟩,
    ⟨(some 61), .bin .sub (.t 60) (.c (.d (.int .i64 (1)))), none, []⟩,
    ⟨(some 10), .mov (.t 61), none, []⟩] false)))
def mask_slices_partitionEqualOrdered_string_2 : Mask := ⟨[0, 1, 9, 10], []⟩
def body_slices_partitionEqualOrdered_string_2 : ACode :=
  .block 1 (.seq (.block 2 (.loop mask_slices_partitionEqualOrdered_string_0 body_slices_partitionEqualOrdered_string_0))
  (.mask ⟨[0, 1, 9, 10], []⟩ (.seq (.block 4 (.loop mask_slices_partitionEqualOrdered_string_1 body_slices_partitionEqualOrdered_string_1))
  (.mask ⟨[0, 1, 9, 10], []⟩ (.seq (.seq (.region 7 [
    ⟨(some 62), .mov (.t 9), none, []⟩,
    ⟨(some 63), .mov (.t 10), none, []⟩,
    ⟨(some 64), .bin .gtr (.t 62) (.t 63), none, []⟩] false)
  (.cond (.t 64)
    (.mask ⟨[9], []⟩ (.exit 0))
    (.skip)))
  (.mask ⟨[0, 1, 9, 10], []⟩ (.seq (.region 8 [
    ⟨(some 65), .mov (.t 0), none, []⟩,
    ⟨(some 66), .mov (.t 9), none, []⟩,
    ⟨(some 67), .mov (.t 0), none, []⟩,
    ⟨(some 68), .mov (.t 10), none, []⟩,
    ⟨(some 69), .mov (.t 0), none, []⟩,
    ⟨(some 70), .mov (.t 10), none, []⟩,
    ⟨(some 71), .iaddr 1 (.t 69) (.t 70), none, [4, 5]⟩,
    ⟨(some 72), .load 1 false (.t 71), none, [4, 5, 6]⟩,
    ⟨(some 73), .mov (.t 0), none, []⟩,
    ⟨(some 74), .mov (.t 9), none, []⟩,
    ⟨(some 75), .iaddr 1 (.t 73) (.t 74), none, [8, 9]⟩,
    ⟨(some 76), .load 1 false (.t 75), none, [8, 9, 10]⟩,
    ⟨(some 77), .iaddr 1 (.t 65) (.t 66), none, [0, 1, 4, 5, 6, 7, 8, 9, 10, 11]⟩,
    ⟨none, .store 1 (.t 77) (.t 72), none, [0, 1, 4, 5, 6, 7, 8, 9, 10, 11, 12]⟩,
    ⟨(some 78), .iaddr 1 (.t 67) (.t 68), none, [0, 1, 2, 3, 4, 5, 6, 7, 8, 9, 10, 11, 12, 13]⟩,
    ⟨none, .store 1 (.t 78) (.t 76), none, [0, 1, 2, 3, 4, 5, 6, 7, 8, 9, 10, 11, 12, 13, 14]⟩] true)
  (.seq (.region 9 [
    ⟨(some 79), .mov (.t 9), none, []⟩,
    ⟨(some 80), .bin .add (.t 79) (.c (.d (.int .i64 (1)))), none, []⟩,
    ⟨(some 9), .mov (.t 80), none, []⟩] false)
  (.region 10 [
    ⟨(some 81), .mov (.t 10), none, []⟩,
    ⟨(some 82), .bin .sub (.t 81) (.c (.d (.int .i64 (1)))), none, []⟩,
    ⟨(some 10), .mov (.t 82), none, []⟩] false)))))))))
/-- slices.partitionEqualOrdered[string] -/
def code_slices_partitionEqualOrdered_string : AFunc := ⟨84, [.tmp 8],
  .seq (.region 0 [
    ⟨(some 8), .mov (.c (.d (.int .i64 (0)))), none, []⟩] false)
  (.seq (.region 1 [
    ⟨(some 11), .mov (.t 0), none, []⟩,
    ⟨(some 12), .mov (.t 1), none, []⟩,
    ⟨(some 13), .mov (.t 0), none, []⟩,
    ⟨(some 14), .mov (.t 3), none, []⟩,
    ⟨(some 15), .mov (.t 0), none, []⟩,
    ⟨(some 16), .mov (.t 3), none, []⟩,
    ⟨(some 17), .iaddr 1 (.t 15) (.t 16), none, [4, 5]⟩,
    ⟨(some 18), .load 1 false (.t 17), none, [4, 5, 6]⟩,
    ⟨(some 19), .mov (.t 0), none, []⟩,
    ⟨(some 20), .mov (.t 1), none, []⟩,
    ⟨(some 21), .iaddr 1 (.t 19) (.t 20), none, [8, 9]⟩,
    ⟨(some 22), .load 1 false (.t 21), none, [8, 9, 10]⟩,
    ⟨(some 23), .iaddr 1 (.t 11) (.t 12), none, [0, 1, 4, 5, 6, 7, 8, 9, 10, 11]⟩,
    ⟨none, .store 1 (.t 23) (.t 18), none, [0, 1, 4, 5, 6, 7, 8, 9, 10, 11, 12]⟩,
    ⟨(some 24), .iaddr 1 (.t 13) (.t 14), none, [0, 1, 2, 3, 4, 5, 6, 7, 8, 9, 10, 11, 12, 13]⟩,
    ⟨none, .store 1 (.t 24) (.t 22), none, [0, 1, 2, 3, 4, 5, 6, 7, 8, 9, 10, 11, 12, 13, 14]⟩] true)
  (.seq (.region 2 [
    ⟨(some 25), .mov (.t 1), none, []⟩,
    ⟨(some 26), .bin .add (.t 25) (.c (.d (.int .i64 (1)))), none, []⟩,
    ⟨(some 27), .mov (.t 2), none, []⟩,
    ⟨(some 28), .bin .sub (.t 27) (.c (.d (.int .i64 (1)))), none, []⟩,
    ⟨(some 9), .mov (.t 26), none, []⟩,
    ⟨(some 10), .mov (.t 28), none, []⟩] false)
  (.seq (.block 0 (.loop mask_slices_partitionEqualOrdered_string_2 body_slices_partitionEqualOrdered_string_2))
  (.mask ⟨[9], []⟩ (.seq (.region 11 [
    ⟨(some 83), .mov (.t 9), none, []⟩,
    ⟨(some 8), .mov (.t 83), none, []⟩] false)
  (.mask ⟨[8], []⟩ (.ret)))))))⟩
def mask_slices_partitionOrdered_string_0 : Mask := ⟨[0, 1, 10, 11], []⟩
def body_slices_partitionOrdered_string_0 : ACode :=
  .seq (.seq (.region 3 [
    ⟨(some 30), .mov (.t 10), none, []⟩,
    ⟨(some 31), .mov (.t 11), none, []⟩,
    ⟨(some 32), .bin .leq (.t 30) (.t 31), none, [0, 1]⟩,
    ⟨(some 33), .mov (.t 32), none, [0, 1, 2]⟩,
    ⟨(some 34), .mov (.t 0), (some (33, true)), [0, 1, 2, 3]⟩,
    ⟨(some 35), .mov (.t 10), (some (33, true)), [0, 1, 2, 3]⟩,
    ⟨(some 36), .iaddr 1 (.t 34) (.t 35), (some (33, true)), [0, 1, 2, 3, 4, 5]⟩,
    ⟨(some 37), .load 1 false (.t 36), (some (33, true)), [0, 1, 2, 3, 4, 5, 6]⟩,
    ⟨(some 38), .mov (.t 0), (some (33, true)), [0, 1, 2, 3]⟩,
    ⟨(some 39), .mov (.t 1), (some (33, true)), [0, 1, 2, 3]⟩,
    ⟨(some 40), .iaddr 1 (.t 38) (.t 39), (some (33, true)), [0, 1, 2, 3, 8, 9]⟩,
    ⟨(some 41), .load 1 false (.t 40), (some (33, true)), [0, 1, 2, 3, 8, 9, 10]⟩,
    ⟨(some 42), .call (.c (.fn F_cmp_Less_string [])) [(.t 37), (.t 41)], (some (33, true)), [0, 1, 2, 3, 4, 5, 6, 7, 8, 9, 10, 11]⟩,
    ⟨(some 43), .pick (.t 33) (.t 42) (.c (.d (.bool false))), none, [0, 1, 2, 3, 4, 5, 6, 7, 8, 9, 10, 11, 12]⟩] true)
  (.mask ⟨[0, 1, 10, 11, 43], []⟩ (.cond (.t 43)
    (.skip)
    (.mask ⟨[0, 1, 10, 11], []⟩ (.exit 0)))))
  (.mask ⟨[0, 1, 10, 11], []⟩ (.block 1 (.region 4 [
    ⟨(some 44), .mov (.t 10), none, []⟩,
    ⟨(some 45), .bin .add (.t 44) (.c (.d (.int .i64 (1)))), none, []⟩,
    ⟨(some 10), .mov (.t 45), none, []⟩] false)))
def mask_slices_partitionOrdered_string_1 : Mask := ⟨[0, 1, 10, 11], []⟩
def body_slices_partitionOrdered_string_1 : ACode :=
  .seq (.seq (.region 5 [
    ⟨(some 46), .mov (.t 10), none, []⟩,
    ⟨(some 47), .mov (.t 11), none, []⟩,
    ⟨(some 48), .bin .leq (.t 46) (.t 47), none, [0, 1]⟩,
    ⟨(some 49), .mov (.t 48), none, [0, 1, 2]⟩,
    ⟨(some 50), .mov (.t 0), (some (49, true)), [0, 1, 2, 3]⟩,
    ⟨(some 51), .mov (.t 11), (some (49, true)), [0, 1, 2, 3]⟩,
    ⟨(some 52), .iaddr 1 (.t 50) (.t 51), (some (49, true)), [0, 1, 2, 3, 4, 5]⟩,
    ⟨(some 53), .load 1 false (.t 52), (some (49, true)), [0, 1, 2, 3, 4, 5, 6]⟩,
    ⟨(some 54), .mov (.t 0), (some (49, true)), [0, 1, 2, 3]⟩,
    ⟨(some 55), .mov (.t 1), (some (49, true)), [0, 1, 2, 3]⟩,
    ⟨(some 56), .iaddr 1 (.t 54) (.t 55), (some (49, true)), [0, 1, 2, 3, 8, 9]⟩,
    ⟨(some 57), .load 1 false (.t 56), (some (49, true)), [0, 1, 2, 3, 8, 9, 10]⟩,
    ⟨(some 58), .call (.c (.fn F_cmp_Less_string [])) [(.t 53), (.t 57)], (some (49, true)), [0, 1, 2, 3, 4, 5, 6, 7, 8, 9, 10, 11]⟩,
    ⟨(some 59), .un .not (.t 58), (some (49, true)), [0, 1, 2, 3, 4, 5, 6, 7, 8, 9, 10, 11, 12]⟩,
    ⟨(some 60), .pick (.t 49) (.t 59) (.c (.d (.bool false))), none, [0, 1, 2, 3, 4, 5, 6, 7, 8, 9, 10, 11, 12, 13]⟩] true)
  (.mask ⟨[0, 1, 10, 11, 60], []⟩ (.cond (.t 60)
    (.skip)
    (.mask ⟨[0, 1, 10, 11], []⟩ (.exit 2)))))
  (.mask ⟨[0, 1, 10, 11], []⟩ (.block 3 (.region 6 [
    ⟨(some 61), .mov (.t 11), none, []⟩,
    ⟨(some 62), .bin .sub (.t 61) (.c (.d (.int .i64 (1)))), none, []⟩,
    ⟨(some 11), .mov (.t 62), none, []⟩] false)))
def mask_slices_partitionOrdered_string_2 : Mask := ⟨[0, 1, 10, 11], []⟩
def body_slices_partitionOrdered_string_2 : ACode :=
  .seq (.seq (.region 13 [
    ⟨(some 99), .mov (.t 10), none, []⟩,
    ⟨(some 100), .mov (.t 11), none, []⟩,
    ⟨(some 101), .bin .leq (.t 99) (.t 100), none, [0, 1]⟩,
    ⟨(some 102), .mov (.t 101), none, [0, 1, 2]⟩,
    ⟨(some 103), .mov (.t 0), (some (102, true)), [0, 1, 2, 3]⟩,
    ⟨(some 104), .mov (.t 10), (some (102, true)), [0, 1, 2, 3]⟩,
    ⟨(some 105), .iaddr 1 (.t 103) (.t 104), (some (102, true)), [0, 1, 2, 3, 4, 5]⟩,
    ⟨(some 106), .load 1 false (.t 105), (some (102, true)), [0, 1, 2, 3, 4, 5, 6]⟩,
    ⟨(some 107), .mov (.t 0), (some (102, true)), [0, 1, 2, 3]⟩,
    ⟨(some 108), .mov (.t 1), (some (102, true)), [0, 1, 2, 3]⟩,
    ⟨(some 109), .iaddr 1 (.t 107) (.t 108), (some (102, true)), [0, 1, 2, 3, 8, 9]⟩,
    ⟨(some 110), .load 1 false (.t 109), (some (102, true)), [0, 1, 2, 3, 8, 9, 10]⟩,
    ⟨(some 111), .call (.c (.fn F_cmp_Less_string [])) [(.t 106), (.t 110)], (some (102, true)), [0, 1, 2, 3, 4, 5, 6, 7, 8, 9, 10, 11]⟩,
    ⟨(some 112), .pick (.t 102) (.t 111) (.c (.d (.bool false))), none, [0, 1, 2, 3, 4, 5, 6, 7, 8, 9, 10, 11, 12]⟩] true)
  (.mask ⟨[0, 1, 10, 11, 112], []⟩ (.cond (.t 112)
    (.skip)
    (.mask ⟨[0, 1, 10, 11], []⟩ (.exit 6)))))
  (.mask ⟨[0, 1, 10, 11], []⟩ (.block 7 (.region 14 [
    ⟨(some 113), .mov (.t 10), none, []⟩,
    ⟨(some 114), .bin .add (.t 113) (.c (.d (.int .i64 (1)))), none, []⟩,
    ⟨(some 10), .mov (.t 114), none, []⟩] false)))
def mask_slices_partitionOrdered_string_3 : Mask := ⟨[0, 1, 10, 11], []⟩
def body_slices_partitionOrdered_string_3 : ACode :=
  .seq (.seq (.region 15 [
    ⟨(some 115), .mov (.t 10), none, []⟩,
    ⟨(some 116), .mov (.t 11), none, []⟩,
    ⟨(some 117), .bin .leq (.t 115) (.t 116), none, [0, 1]⟩,
    ⟨(some 118), .mov (.t 117), none, [0, 1, 2]⟩,
    ⟨(some 119), .mov (.t 0), (some (118, true)), [0, 1, 2, 3]⟩,
    ⟨(some 120), .mov (.t 11), (some (118, true)), [0, 1, 2, 3]⟩,
    ⟨(some 121), .iaddr 1 (.t 119) (.t 120), (some (118, true)), [0, 1, 2, 3, 4, 5]⟩,
    ⟨(some 122), .load 1 false (.t 121), (some (118, true)), [0, 1, 2, 3, 4, 5, 6]⟩,
    ⟨(some 123), .mov (.t 0), (some (118, true)), [0, 1, 2, 3]⟩,
    ⟨(some 124), .mov (.t 1), (some (118, true)), [0, 1, 2, 3]⟩,
    ⟨(some 125), .iaddr 1 (.t 123) (.t 124), (some (118, true)), [0, 1, 2, 3, 8, 9]⟩,
    ⟨(some 126), .load 1 false (.t 125), (some (118, true)), [0, 1, 2, 3, 8, 9, 10]⟩,
    ⟨(some 127), .call (.c (.fn F_cmp_Less_string [])) [(.t 122), (.t 126)], (some (118, true)), [0, 1, 2, 3, 4, 5, 6, 7, 8, 9, 10, 11]⟩,
    ⟨(some 128), .un .not (.t 127), (some (118, true)), [0, 1, 2, 3, 4, 5, 6, 7, 8, 9, 10, 11, 12]⟩,
    ⟨(some 129), .pick (.t 118) (.t 128) (.c (.d (.bool false))), none, [0, 1, 2, 3, 4, 5, 6, 7, 8, 9, 10, 11, 12, 13]⟩] true)
  (.mask ⟨[0, 1, 10, 11, 129], []⟩ (.cond (.t 129)
    (.skip)
    (.mask ⟨[0, 1, 10, 11], []⟩ (.exit 8)))))
  (.mask ⟨[0, 1, 10, 11], []⟩ (.block 9 (.region 16 [
    ⟨(some 130), .mov (.t 11), none, []⟩,
    ⟨(some 131), .bin .sub (.t 130) (.c (.d (.int .i64 (1)))), none, []⟩,
    ⟨(some 11), .mov (.t 131), none, []⟩] false)))
def mask_slices_partitionOrdered_string_4 : Mask := ⟨[0, 1, 10, 11], []⟩
def body_slices_partitionOrdered_string_4 : ACode :=
  .block 5 (.seq (.block 6 (.loop mask_slices_partitionOrdered_string_2 body_slices_partitionOrdered_string_2))
  (.mask ⟨[0, 1, 10, 11], []⟩ (.seq (.block 8 (.loop mask_slices_partitionOrdered_string_3 body_slices_partitionOrdered_string_3))
  (.mask ⟨[0, 1, 10, 11], []⟩ (.seq (.seq (.region 17 [
    ⟨(some 132), .mov (.t 10), none, []⟩,
    ⟨(some 133), .mov (.t 11), none, []⟩,
    ⟨(some 134), .bin .gtr (.t 132) (.t 133), none, []⟩] false)
  (.cond (.t 134)
    (.mask ⟨[0, 1, 11], []⟩ (.exit 4))
    (.skip)))
  (.mask ⟨[0, 1, 10, 11], []⟩ (.seq (.region 18 [
    ⟨(some 135), .mov (.t 0), none, []⟩,
    ⟨(some 136), .mov (.t 10), none, []⟩,
    ⟨(some 137), .mov (.t 0), none, []⟩,
    ⟨(some 138), .mov (.t 11), none, []⟩,
    ⟨(some 139), .mov (.t 0), none, []⟩,
    ⟨(some 140), .mov (.t 11), none, []⟩,
    ⟨(some 141), .iaddr 1 (.t 139) (.t 140), none, [4, 5]⟩,
    ⟨(some 142), .load 1 false (.t 141), none, [4, 5, 6]⟩,
    ⟨(some 143), .mov (.t 0), none, []⟩,
    ⟨(some 144), .mov (.t 10), none, []⟩,
    ⟨(some 145), .iaddr 1 (.t 143) (.t 144), none, [8, 9]⟩,
    ⟨(some 146), .load 1 false (.t 145), none, [8, 9, 10]⟩,
    ⟨(some 147), .iaddr 1 (.t 135) (.t 136), none, [0, 1, 4, 5, 6, 7, 8, 9, 10, 11]⟩,
    ⟨none, .store 1 (.t 147) (.t 142), none, [0, 1, 4, 5, 6, 7, 8, 9, 10, 11, 12]⟩,
    ⟨(some 148), .iaddr 1 (.t 137) (.t 138), none, [0, 1, 2, 3, 4, 5, 6, 7, 8, 9, 10, 11, 12, 13]⟩,
    ⟨none, .store 1 (.t 148) (.t 146), none, [0, 1, 2, 3, 4, 5, 6, 7, 8, 9, 10, 11, 12, 13, 14]⟩] true)
  (.seq (.region 19 [
    ⟨(some 149), .mov (.t 10), none, []⟩,
    ⟨(some 150), .bin .add (.t 149) (.c (.d (.int .i64 (1)))), none, []⟩,
    ⟨(some 10), .mov (.t 150), none, []⟩] false)
  (.region 20 [
    ⟨(some 151), .mov (.t 11), none, []⟩,
    ⟨(some 152), .bin .sub (.t 151) (.c (.d (.int .i64 (1)))), none, []⟩,
    ⟨(some 11), .mov (.t 152), none, []⟩] false)))))))))
/-- slices.partitionOrdered[string] -/
def code_slices_partitionOrdered_string : AFunc := ⟨168, [.tmp 8, .tmp 9],
  .seq (.region 0 [
    ⟨(some 8), .mov (.c (.d (.int .i64 (0)))), none, []⟩,
    ⟨(some 9), .mov (.c (.d (.bool false))), none, []⟩] false)
  (.seq (.region 1 [
    ⟨(some 12), .mov (.t 0), none, []⟩,
    ⟨(some 13), .mov (.t 1), none, []⟩,
    ⟨(some 14), .mov (.t 0), none, []⟩,
    ⟨(some 15), .mov (.t 3), none, []⟩,
    ⟨(some 16), .mov (.t 0), none, []⟩,
    ⟨(some 17), .mov (.t 3), none, []⟩,
    ⟨(some 18), .iaddr 1 (.t 16) (.t 17), none, [4, 5]⟩,
    ⟨(some 19), .load 1 false (.t 18), none, [4, 5, 6]⟩,
    ⟨(some 20), .mov (.t 0), none, []⟩,
    ⟨(some 21), .mov (.t 1), none, []⟩,
    ⟨(some 22), .iaddr 1 (.t 20) (.t 21), none, [8, 9]⟩,
    ⟨(some 23), .load 1 false (.t 22), none, [8, 9, 10]⟩,
    ⟨(some 24), .iaddr 1 (.t 12) (.t 13), none, [0, 1, 4, 5, 6, 7, 8, 9, 10, 11]⟩,
    ⟨none, .store 1 (.t 24) (.t 19), none, [0, 1, 4, 5, 6, 7, 8, 9, 10, 11, 12]⟩,
    ⟨(some 25), .iaddr 1 (.t 14) (.t 15), none, [0, 1, 2, 3, 4, 5, 6, 7, 8, 9, 10, 11, 12, 13]⟩,
    ⟨none, .store 1 (.t 25) (.t 23), none, [0, 1, 2, 3, 4, 5, 6, 7, 8, 9, 10, 11, 12, 13, 14]⟩] true)
  (.seq (.region 2 [
    ⟨(some 26), .mov (.t 1), none, []⟩,
    ⟨(some 27), .bin .add (.t 26) (.c (.d (.int .i64 (1)))), none, []⟩,
    ⟨(some 28), .mov (.t 2), none, []⟩,
    ⟨(some 29), .bin .sub (.t 28) (.c (.d (.int .i64 (1)))), none, []⟩,
    ⟨(some 10), .mov (.t 27), none, []⟩,
    ⟨(some 11), .mov (.t 29), none, []⟩] false)
  (.seq (.block 0 (.loop mask_slices_partitionOrdered_string_0 body_slices_partitionOrdered_string_0))
  (.mask ⟨[0, 1, 10, 11], []⟩ (.seq (.block 2 (.loop mask_slices_partitionOrdered_string_1 body_slices_partitionOrdered_string_1))
  (.mask ⟨[0, 1, 10, 11], []⟩ (.seq (.seq (.region 7 [
    ⟨(some 63), .mov (.t 10), none, []⟩,
    ⟨(some 64), .mov (.t 11), none, []⟩,
    ⟨(some 65), .bin .gtr (.t 63) (.t 64), none, []⟩] false)
  (.cond (.t 65)
    (.seq (.region 8 [
      ⟨(some 66), .mov (.t 0), none, []⟩,
      ⟨(some 67), .mov (.t 11), none, []⟩,
      ⟨(some 68), .mov (.t 0), none, []⟩,
      ⟨(some 69), .mov (.t 1), none, []⟩,
      ⟨(some 70), .mov (.t 0), none, []⟩,
      ⟨(some 71), .mov (.t 1), none, []⟩,
      ⟨(some 72), .iaddr 1 (.t 70) (.t 71), none, [4, 5]⟩,
      ⟨(some 73), .load 1 false (.t 72), none, [4, 5, 6]⟩,
      ⟨(some 74), .mov (.t 0), none, []⟩,
      ⟨(some 75), .mov (.t 11), none, []⟩,
      ⟨(some 76), .iaddr 1 (.t 74) (.t 75), none, [8, 9]⟩,
      ⟨(some 77), .load 1 false (.t 76), none, [8, 9, 10]⟩,
      ⟨(some 78), .iaddr 1 (.t 66) (.t 67), none, [0, 1, 4, 5, 6, 7, 8, 9, 10, 11]⟩,
      ⟨none, .store 1 (.t 78) (.t 73), none, [0, 1, 4, 5, 6, 7, 8, 9, 10, 11, 12]⟩,
      ⟨(some 79), .iaddr 1 (.t 68) (.t 69), none, [0, 1, 2, 3, 4, 5, 6, 7, 8, 9, 10, 11, 12, 13]⟩,
      ⟨none, .store 1 (.t 79) (.t 77), none, [0, 1, 2, 3, 4, 5, 6, 7, 8, 9, 10, 11, 12, 13, 14]⟩] true)
    (.seq (.region 9 [
      ⟨(some 80), .mov (.t 11), none, []⟩,
      ⟨(some 8), .mov (.t 80), none, []⟩,
      ⟨(some 9), .mov (.c (.d (.bool true))), none, []⟩] false)
    (.mask ⟨[8, 9], []⟩ (.ret))))
    (.skip)))
  (.mask ⟨[0, 1, 10, 11], []⟩ (.seq (.region 10 [
    ⟨(some 81), .mov (.t 0), none, []⟩,
    ⟨(some 82), .mov (.t 10), none, []⟩,
    ⟨(some 83), .mov (.t 0), none, []⟩,
    ⟨(some 84), .mov (.t 11), none, []⟩,
    ⟨(some 85), .mov (.t 0), none, []⟩,
    ⟨(some 86), .mov (.t 11), none, []⟩,
    ⟨(some 87), .iaddr 1 (.t 85) (.t 86), none, [4, 5]⟩,
    ⟨(some 88), .load 1 false (.t 87), none, [4, 5, 6]⟩,
    ⟨(some 89), .mov (.t 0), none, []⟩,
    ⟨(some 90), .mov (.t 10), none, []⟩,
    ⟨(some 91), .iaddr 1 (.t 89) (.t 90), none, [8, 9]⟩,
    ⟨(some 92), .load 1 false (.t 91), none, [8, 9, 10]⟩,
    ⟨(some 93), .iaddr 1 (.t 81) (.t 82), none, [0, 1, 4, 5, 6, 7, 8, 9, 10, 11]⟩,
    ⟨none, .store 1 (.t 93) (.t 88), none, [0, 1, 4, 5, 6, 7, 8, 9, 10, 11, 12]⟩,
    ⟨(some 94), .iaddr 1 (.t 83) (.t 84), none, [0, 1, 2, 3, 4, 5, 6, 7, 8, 9, 10, 11, 12, 13]⟩,
    ⟨none, .store 1 (.t 94) (.t 92), none, [0, 1, 2, 3, 4, 5, 6, 7, 8, 9, 10, 11, 12, 13, 14]⟩] true)
  (.seq (.region 11 [
    ⟨(some 95), .mov (.t 10), none, []⟩,
    ⟨(some 96), .bin .add (.t 95) (.c (.d (.int .i64 (1)))), none, []⟩,
    ⟨(some 10), .mov (.t 96), none, []⟩] false)
  (.seq (.region 12 [
    ⟨(some 97), .mov (.t 11), none, []⟩,
    ⟨(some 98), .bin .sub (.t 97) (.c (.d (.int .i64 (1)))), none, []⟩,
    ⟨(some 11), .mov (.t 98), none, []⟩] false)
  (.seq (.block 4 (.loop mask_slices_partitionOrdered_string_4 body_slices_partitionOrdered_string_4))
  (.mask ⟨[0, 1, 11], []⟩ (.seq (.region 21 [
    ⟨(some 153), .mov (.t 0), none, []⟩,
    ⟨(some 154), .mov (.t 11), none, []⟩,
    ⟨(some 155), .mov (.t 0), none, []⟩,
    ⟨(some 156), .mov (.t 1), none, []⟩,
    ⟨(some 157), .mov (.t 0), none, []⟩,
    ⟨(some 158), .mov (.t 1), none, []⟩,
    ⟨(some 159), .iaddr 1 (.t 157) (.t 158), none, [4, 5]⟩,
    ⟨(some 160), .load 1 false (.t 159), none, [4, 5, 6]⟩,
    ⟨(some 161), .mov (.t 0), none, []⟩,
    ⟨(some 162), .mov (.t 11), none, []⟩,
    ⟨(some 163), .iaddr 1 (.t 161) (.t 162), none, [8, 9]⟩,
    ⟨(some 164), .load 1 false (.t 163), none, [8, 9, 10]⟩,
    ⟨(some 165), .iaddr 1 (.t 153) (.t 154), none, [0, 1, 4, 5, 6, 7, 8, 9, 10, 11]⟩,
    ⟨none, .store 1 (.t 165) (.t 160), none, [0, 1, 4, 5, 6, 7, 8, 9, 10, 11, 12]⟩,
    ⟨(some 166), .iaddr 1 (.t 155) (.t 156), none, [0, 1, 2, 3, 4, 5, 6, 7, 8, 9, 10, 11, 12, 13]⟩,
    ⟨none, .store 1 (.t 166) (.t 164), none, [0, 1, 2, 3, 4, 5, 6, 7, 8, 9, 10, 11, 12, 13, 14]⟩] true)
  (.seq (.region 22 [
    ⟨(some 167), .mov (.t 11), none, []⟩,
    ⟨(some 8), .mov (.t 167), none, []⟩,
    ⟨(some 9), .mov (.c (.d (.bool false))), none, []⟩] false)
  (.mask ⟨[8, 9], []⟩ (.ret)))))))))))))))))⟩
/-- beadle/lex.letter -/
def code_lex_letter : AFunc := ⟨15, [.tmp 2],
  .seq (.region 0 [
    ⟨(some 2), .mov (.c (.d (.bool false))), none, []⟩] false)
  (.seq (.region 1 [
    ⟨(some 3), .mov (.t 0), none, []⟩,
    ⟨(some 4), .bin .or (.t 3) (.c (.d (.int .u8 (32)))), none, []⟩,
    ⟨(some 5), .bin .geq (.t 4) (.c (.d (.int .u8 (97)))), none, []⟩,
    ⟨(some 6), .mov (.t 5), none, []⟩,
    ⟨(some 7), .mov (.t 0), (some (6, true)), []⟩,
    ⟨(some 8), .bin .or (.t 7) (.c (.d (.int .u8 (32)))), (some (6, true)), []⟩,
    ⟨(some 9), .bin .leq (.t 8) (.c (.d (.int .u8 (122)))), (some (6, true)), []⟩,
    ⟨(some 10), .pick (.t 6) (.t 9) (.c (.d (.bool false))), none, []⟩,
    ⟨(some 11), .mov (.t 10), none, []⟩,
    ⟨(some 12), .mov (.t 0), (some (11, false)), []⟩,
    ⟨(some 13), .bin .eql (.t 12) (.c (.d (.int .u8 (95)))), (some (11, false)), []⟩,
    ⟨(some 14), .pick (.t 11) (.c (.d (.bool true))) (.t 13), none, []⟩,
    ⟨(some 2), .mov (.t 14), none, []⟩] false)
  (.mask ⟨[2], []⟩ (.ret)))⟩
/-- beadle/lex.digit -/
def code_lex_digit : AFunc := ⟨9, [.tmp 2],
  .seq (.region 0 [
    ⟨(some 2), .mov (.c (.d (.bool false))), none, []⟩] false)
  (.seq (.region 1 [
    ⟨(some 3), .mov (.t 0), none, []⟩,
    ⟨(some 4), .bin .geq (.t 3) (.c (.d (.int .u8 (48)))), none, []⟩,
    ⟨(some 5), .mov (.t 4), none, []⟩,
    ⟨(some 6), .mov (.t 0), (some (5, true)), []⟩,
    ⟨(some 7), .bin .leq (.t 6) (.c (.d (.int .u8 (57)))), (some (5, true)), []⟩,
    ⟨(some 8), .pick (.t 5) (.t 7) (.c (.d (.bool false))), none, []⟩,
    ⟨(some 2), .mov (.t 8), none, []⟩] false)
  (.mask ⟨[2], []⟩ (.ret)))⟩
/-- beadle/roles.long$1 -/
def code_roles_long_1 : AFunc := ⟨16, [.tmp 4],
  .seq (.region 0 [
    ⟨(some 4), .mov (.c (.d (.bool false))), none, []⟩] false)
  (.seq (.region 1 [
    ⟨(some 5), .mov (.t 0), none, []⟩,
    ⟨(some 6), .faddr 1 (.t 1), none, []⟩,
    ⟨(some 7), .load 1 false (.t 6), none, []⟩,
    ⟨(some 8), .bin .neq (.t 5) (.t 7), none, []⟩,
    ⟨(some 9), .mov (.t 8), none, []⟩,
    ⟨(some 10), .load 1 false (.t 2), (some (9, true)), []⟩,
    ⟨(some 11), .mov (.t 0), (some (9, true)), []⟩,
    ⟨(some 12), .faddr 1 (.t 1), (some (9, true)), []⟩,
    ⟨(some 13), .load 1 false (.t 12), (some (9, true)), []⟩,
    ⟨(some 14), .call (.c (.fn F_roles_Has [])) [(.t 10), (.t 11), (.t 13)], (some (9, true)), []⟩,
    ⟨(some 15), .pick (.t 9) (.t 14) (.c (.d (.bool false))), none, []⟩,
    ⟨(some 4), .mov (.t 15), none, []⟩] false)
  (.mask ⟨[4], []⟩ (.ret)))⟩
/-- slices.ContainsFunc[[]string,string] -/
def code_slices_ContainsFunc_string_string : AFunc := ⟨9, [.tmp 4],
  .seq (.region 0 [
    ⟨(some 4), .mov (.c (.d (.bool false))), none, []⟩] false)
  (.seq (.region 1 [
    ⟨(some 5), .mov (.t 0), none, []⟩,
    ⟨(some 6), .mov (.t 1), none, []⟩,
    ⟨(some 7), .call (.c (.fn F_slices_IndexFunc_string_string [])) [(.t 5), (.t 6)], none, []⟩,
    ⟨(some 8), .bin .geq (.t 7) (.c (.d (.int .i64 (0)))), none, []⟩,
    ⟨(some 4), .mov (.t 8), none, []⟩] false)
  (.mask ⟨[4], []⟩ (.ret)))⟩
def mask_slices_insertionSortCmpFunc_roles_Pair_0 : Mask := ⟨[0, 1, 2, 3, 8, 9], []⟩
def body_slices_insertionSortCmpFunc_roles_Pair_0 : ACode :=
  .seq (.seq (.region 4 [
    ⟨(some 18), .mov (.t 9), none, []⟩,
    ⟨(some 19), .mov (.t 1), none, []⟩,
    ⟨(some 20), .bin .gtr (.t 18) (.t 19), none, [0, 1]⟩,
    ⟨(some 21), .mov (.t 20), none, [0, 1, 2]⟩,
    ⟨(some 22), .mov (.t 3), (some (21, true)), [0, 1, 2, 3]⟩,
    ⟨(some 23), .mov (.t 0), (some (21, true)), [0, 1, 2, 3]⟩,
    ⟨(some 24), .mov (.t 9), (some (21, true)), [0, 1, 2, 3]⟩,
    ⟨(some 25), .iaddr 2 (.t 23) (.t 24), (some (21, true)), [0, 1, 2, 3, 5, 6]⟩,
    ⟨(some 26), .load 2 true (.t 25), (some (21, true)), [0, 1, 2, 3, 5, 6, 7]⟩,
    ⟨(some 27), .mov (.t 0), (some (21, true)), [0, 1, 2, 3]⟩,
    ⟨(some 28), .mov (.t 9), (some (21, true)), [0, 1, 2, 3]⟩,
    ⟨(some 29), .bin .sub (.t 28) (.c (.d (.int .i64 (1)))), (some (21, true)), [0, 1, 2, 3, 10]⟩,
    ⟨(some 30), .iaddr 2 (.t 27) (.t 29), (some (21, true)), [0, 1, 2, 3, 9, 10, 11]⟩,
    ⟨(some 31), .load 2 true (.t 30), (some (21, true)), [0, 1, 2, 3, 9, 10, 11, 12]⟩,
    ⟨(some 32), .call (.t 22) [(.t 26), (.t 31)], (some (21, true)), [0, 1, 2, 3, 4, 5, 6, 7, 8, 9, 10, 11, 12, 13]⟩,
    ⟨(some 33), .bin .lss (.t 32) (.c (.d (.int .i64 (0)))), (some (21, true)), [0, 1, 2, 3, 4, 5, 6, 7, 8, 9, 10, 11, 12, 13, 14]⟩,
    ⟨(some 34), .pick (.t 21) (.t 33) (.c (.d (.bool false))), none, [0, 1, 2, 3, 4, 5, 6, 7, 8, 9, 10, 11, 12, 13, 14, 15]⟩] true)
  (.mask ⟨[0, 1, 2, 3, 8, 9, 34], []⟩ (.cond (.t 34)
    (.skip)
    (.mask ⟨[0, 1, 2, 3, 8], []⟩ (.exit 2)))))
  (.mask ⟨[0, 1, 2, 3, 8, 9], []⟩ (.seq (.block 3 (.region 6 [
    ⟨(some 37), .mov (.t 0), none, []⟩,
    ⟨(some 38), .mov (.t 9), none, []⟩,
    ⟨(some 39), .mov (.t 0), none, []⟩,
    ⟨(some 40), .mov (.t 9), none, []⟩,
    ⟨(some 41), .bin .sub (.t 40) (.c (.d (.int .i64 (1)))), none, [3]⟩,
    ⟨(some 42), .mov (.t 0), none, []⟩,
    ⟨(some 43), .mov (.t 9), none, []⟩,
    ⟨(some 44), .bin .sub (.t 43) (.c (.d (.int .i64 (1)))), none, [6]⟩,
    ⟨(some 45), .iaddr 2 (.t 42) (.t 44), none, [5, 6, 7]⟩,
    ⟨(some 46), .load 2 true (.t 45), none, [5, 6, 7, 8]⟩,
    ⟨(some 47), .mov (.t 0), none, []⟩,
    ⟨(some 48), .mov (.t 9), none, []⟩,
    ⟨(some 49), .iaddr 2 (.t 47) (.t 48), none, [10, 11]⟩,
    ⟨(some 50), .load 2 true (.t 49), none, [10, 11, 12]⟩,
    ⟨(some 51), .iaddr 2 (.t 37) (.t 38), none, [0, 1, 5, 6, 7, 8, 9, 10, 11, 12, 13]⟩,
    ⟨none, .store 2 (.t 51) (.t 46), none, [0, 1, 5, 6, 7, 8, 9, 10, 11, 12, 13, 14]⟩,
    ⟨(some 52), .iaddr 2 (.t 39) (.t 41), none, [0, 1, 2, 3, 4, 5, 6, 7, 8, 9, 10, 11, 12, 13, 14, 15]⟩,
    ⟨none, .store 2 (.t 52) (.t 50), none, [0, 1, 2, 3, 4, 5, 6, 7, 8, 9, 10, 11, 12, 13, 14, 15, 16]⟩] true))
  (.mask ⟨[0, 1, 2, 3, 8, 9], []⟩ (.region 5 [
    ⟨(some 35), .mov (.t 9), none, []⟩,
    ⟨(some 36), .bin .sub (.t 35) (.c (.d (.int .i64 (1)))), none, []⟩,
    ⟨(some 9), .mov (.t 36), none, []⟩] false))))
def mask_slices_insertionSortCmpFunc_roles_Pair_1 : Mask := ⟨[0, 1, 2, 3, 8], []⟩
def body_slices_insertionSortCmpFunc_roles_Pair_1 : ACode :=
  .seq (.seq (.region 1 [
    ⟨(some 12), .mov (.t 8), none, []⟩,
    ⟨(some 13), .mov (.t 2), none, []⟩,
    ⟨(some 14), .bin .lss (.t 12) (.t 13), none, []⟩] false)
  (.cond (.t 14)
    (.skip)
    (.mask ⟨[], []⟩ (.exit 0))))
  (.mask ⟨[0, 1, 2, 3, 8], []⟩ (.seq (.block 1 (.seq (.region 3 [
    ⟨(some 17), .mov (.t 8), none, []⟩,
    ⟨(some 9), .mov (.t 17), none, []⟩] false)
  (.block 2 (.loop mask_slices_insertionSortCmpFunc_roles_Pair_0 body_slices_insertionSortCmpFunc_roles_Pair_0))))
  (.mask ⟨[0, 1, 2, 3, 8], []⟩ (.region 2 [
    ⟨(some 15), .mov (.t 8), none, []⟩,
    ⟨(some 16), .bin .add (.t 15) (.c (.d (.int .i64 (1)))), none, []⟩,
    ⟨(some 8), .mov (.t 16), none, []⟩] false))))
/-- slices.insertionSortCmpFunc[beadle/roles.Pair] -/
def code_slices_insertionSortCmpFunc_roles_Pair : AFunc := ⟨53, [],
  .seq (.region 0 [
    ⟨(some 10), .mov (.t 1), none, []⟩,
    ⟨(some 11), .bin .add (.t 10) (.c (.d (.int .i64 (1)))), none, []⟩,
    ⟨(some 8), .mov (.t 11), none, []⟩] false)
  (.block 0 (.loop mask_slices_insertionSortCmpFunc_roles_Pair_1 body_slices_insertionSortCmpFunc_roles_Pair_1))⟩
def mask_slices_heapSortCmpFunc_roles_Pair_0 : Mask := ⟨[0, 3, 8, 9, 10, 11], []⟩
def body_slices_heapSortCmpFunc_roles_Pair_0 : ACode :=
  .seq (.seq (.region 4 [
    ⟨(some 20), .mov (.t 11), none, []⟩,
    ⟨(some 21), .bin .geq (.t 20) (.c (.d (.int .i64 (0)))), none, []⟩] false)
  (.cond (.t 21)
    (.skip)
    (.mask ⟨[0, 3, 8, 9, 10], []⟩ (.exit 0))))
  (.mask ⟨[0, 3, 8, 9, 10, 11], []⟩ (.seq (.block 1 (.region 6 [
    ⟨(some 24), .mov (.t 0), none, []⟩,
    ⟨(some 25), .mov (.t 11), none, []⟩,
    ⟨(some 26), .mov (.t 10), none, []⟩,
    ⟨(some 27), .mov (.t 8), none, []⟩,
    ⟨(some 28), .mov (.t 3), none, []⟩,
    ⟨(some 29), .call (.c (.fn F_slices_siftDownCmpFunc_roles_Pair [])) [(.t 24), (.t 25), (.t 26), (.t 27), (.t 28)], none, []⟩] false))
  (.mask ⟨[0, 3, 8, 9, 10, 11], []⟩ (.region 5 [
    ⟨(some 22), .mov (.t 11), none, []⟩,
    ⟨(some 23), .bin .sub (.t 22) (.c (.d (.int .i64 (1)))), none, []⟩,
    ⟨(some 11), .mov (.t 23), none, []⟩] false))))
def mask_slices_heapSortCmpFunc_roles_Pair_1 : Mask := ⟨[0, 3, 8, 9, 12], []⟩
def body_slices_heapSortCmpFunc_roles_Pair_1 : ACode :=
  .seq (.seq (.region 8 [
    ⟨(some 32), .mov (.t 12), none, []⟩,
    ⟨(some 33), .bin .geq (.t 32) (.c (.d (.int .i64 (0)))), none, []⟩] false)
  (.cond (.t 33)
    (.skip)
    (.mask ⟨[], []⟩ (.exit 2))))
  (.mask ⟨[0, 3, 8, 9, 12], []⟩ (.seq (.block 3 (.seq (.region 10 [
    ⟨(some 36), .mov (.t 0), none, []⟩,
    ⟨(some 37), .mov (.t 8), none, []⟩,
    ⟨(some 38), .mov (.t 0), none, []⟩,
    ⟨(some 39), .mov (.t 8), none, []⟩,
    ⟨(some 40), .mov (.t 12), none, []⟩,
    ⟨(some 41), .bin .add (.t 39) (.t 40), none, [3, 4]⟩,
    ⟨(some 42), .mov (.t 0), none, []⟩,
    ⟨(some 43), .mov (.t 8), none, []⟩,
    ⟨(some 44), .mov (.t 12), none, []⟩,
    ⟨(some 45), .bin .add (.t 43) (.t 44), none, [7, 8]⟩,
    ⟨(some 46), .iaddr 2 (.t 42) (.t 45), none, [6, 7, 8, 9]⟩,
    ⟨(some 47), .load 2 true (.t 46), none, [6, 7, 8, 9, 10]⟩,
    ⟨(some 48), .mov (.t 0), none, []⟩,
    ⟨(some 49), .mov (.t 8), none, []⟩,
    ⟨(some 50), .iaddr 2 (.t 48) (.t 49), none, [12, 13]⟩,
    ⟨(some 51), .load 2 true (.t 50), none, [12, 13, 14]⟩,
    ⟨(some 52), .iaddr 2 (.t 36) (.t 37), none, [0, 1, 6, 7, 8, 9, 10, 11, 12, 13, 14, 15]⟩,
    ⟨none, .store 2 (.t 52) (.t 47), none, [0, 1, 6, 7, 8, 9, 10, 11, 12, 13, 14, 15, 16]⟩,
    ⟨(some 53), .iaddr 2 (.t 38) (.t 41), none, [0, 1, 2, 3, 4, 5, 6, 7, 8, 9, 10, 11, 12, 13, 14, 15, 16, 17]⟩,
    ⟨none, .store 2 (.t 53) (.t 51), none, [0, 1, 2, 3, 4, 5, 6, 7, 8, 9, 10, 11, 12, 13, 14, 15, 16, 17, 18]⟩] true)
  (.region 11 [
    ⟨(some 54), .mov (.t 0), none, []⟩,
    ⟨(some 55), .mov (.t 9), none, []⟩,
    ⟨(some 56), .mov (.t 12), none, []⟩,
    ⟨(some 57), .mov (.t 8), none, []⟩,
    ⟨(some 58), .mov (.t 3), none, []⟩,
    ⟨(some 59), .call (.c (.fn F_slices_siftDownCmpFunc_roles_Pair [])) [(.t 54), (.t 55), (.t 56), (.t 57), (.t 58)], none, []⟩] false)))
  (.mask ⟨[0, 3, 8, 9, 12], []⟩ (.region 9 [
    ⟨(some 34), .mov (.t 12), none, []⟩,
    ⟨(some 35), .bin .sub (.t 34) (.c (.d (.int .i64 (1)))), none, []⟩,
    ⟨(some 12), .mov (.t 35), none, []⟩] false))))
/-- slices.heapSortCmpFunc[beadle/roles.Pair] -/
def code_slices_heapSortCmpFunc_roles_Pair : AFunc := ⟨60, [],
  .seq (.region 0 [
    ⟨(some 13), .mov (.t 1), none, []⟩,
    ⟨(some 8), .mov (.t 13), none, []⟩] false)
  (.seq (.region 1 [
    ⟨(some 9), .mov (.c (.d (.int .i64 (0)))), none, []⟩] false)
  (.seq (.region 2 [
    ⟨(some 14), .mov (.t 2), none, []⟩,
    ⟨(some 15), .mov (.t 1), none, []⟩,
    ⟨(some 16), .bin .sub (.t 14) (.t 15), none, []⟩,
    ⟨(some 10), .mov (.t 16), none, []⟩] false)
  (.seq (.seq (.region 3 [
    ⟨(some 17), .mov (.t 10), none, []⟩,
    ⟨(some 18), .bin .sub (.t 17) (.c (.d (.int .i64 (1)))), none, []⟩,
    ⟨(some 19), .bin .quo (.t 18) (.c (.d (.int .i64 (2)))), none, []⟩,
    ⟨(some 11), .mov (.t 19), none, []⟩] false)
  (.block 0 (.loop mask_slices_heapSortCmpFunc_roles_Pair_0 body_slices_heapSortCmpFunc_roles_Pair_0)))
  (.mask ⟨[0, 3, 8, 9, 10], []⟩ (.seq (.region 7 [
    ⟨(some 30), .mov (.t 10), none, []⟩,
    ⟨(some 31), .bin .sub (.t 30) (.c (.d (.int .i64 (1)))), none, []⟩,
    ⟨(some 12), .mov (.t 31), none, []⟩] false)
  (.block 2 (.loop mask_slices_heapSortCmpFunc_roles_Pair_1 body_slices_heapSortCmpFunc_roles_Pair_1)))))))⟩
def mask_slices_breakPatternsCmpFunc_roles_Pair_0 : Mask := ⟨[0, 1, 8, 9, 10, 11], []⟩
def body_slices_breakPatternsCmpFunc_roles_Pair_0 : ACode :=
  .seq (.seq (.region 5 [
    ⟨(some 28), .mov (.t 11), none, []⟩,
    ⟨(some 29), .mov (.t 1), none, []⟩,
    ⟨(some 30), .mov (.t 8), none, []⟩,
    ⟨(some 31), .bin .quo (.t 30) (.c (.d (.int .i64 (4)))), none, []⟩,
    ⟨(some 32), .bin .mul (.t 31) (.c (.d (.int .i64 (2)))), none, []⟩,
    ⟨(some 33), .bin .add (.t 29) (.t 32), none, []⟩,
    ⟨(some 34), .bin .add (.t 33) (.c (.d (.int .i64 (1)))), none, []⟩,
    ⟨(some 35), .bin .leq (.t 28) (.t 34), none, []⟩] false)
  (.cond (.t 35)
    (.skip)
    (.mask ⟨[], []⟩ (.exit 0))))
  (.mask ⟨[0, 1, 8, 9, 10, 11], []⟩ (.seq (.block 1 (.seq (.region 7 [
    ⟨(some 38), .call (.c (.fn F_slices_xorshift_Next [])) [(.t 9)], none, []⟩,
    ⟨(some 39), .mov (.t 10), none, []⟩,
    ⟨(some 40), .bin .sub (.t 39) (.c (.d (.int .u64 (1)))), none, []⟩,
    ⟨(some 41), .bin .and (.t 38) (.t 40), none, []⟩,
    ⟨(some 42), .toInt .i64 (.t 41), none, []⟩,
    ⟨(some 12), .mov (.t 42), none, []⟩] false)
  (.seq (.seq (.region 8 [
    ⟨(some 43), .mov (.t 12), none, []⟩,
    ⟨(some 44), .mov (.t 8), none, []⟩,
    ⟨(some 45), .bin .geq (.t 43) (.t 44), none, []⟩] false)
  (.cond (.t 45)
    (.region 9 [
      ⟨(some 46), .mov (.t 12), none, []⟩,
      ⟨(some 47), .mov (.t 8), none, []⟩,
      ⟨(some 48), .bin .sub (.t 46) (.t 47), none, []⟩,
      ⟨(some 12), .mov (.t 48), none, []⟩] false)
    (.skip)))
  (.mask ⟨[0, 1, 8, 9, 10, 11, 12], []⟩ (.region 10 [
    ⟨(some 49), .mov (.t 0), none, []⟩,
    ⟨(some 50), .mov (.t 11), none, []⟩,
    ⟨(some 51), .mov (.t 0), none, []⟩,
    ⟨(some 52), .mov (.t 1), none, []⟩,
    ⟨(some 53), .mov (.t 12), none, []⟩,
    ⟨(some 54), .bin .add (.t 52) (.t 53), none, [3, 4]⟩,
    ⟨(some 55), .mov (.t 0), none, []⟩,
    ⟨(some 56), .mov (.t 1), none, []⟩,
    ⟨(some 57), .mov (.t 12), none, []⟩,
    ⟨(some 58), .bin .add (.t 56) (.t 57), none, [7, 8]⟩,
    ⟨(some 59), .iaddr 2 (.t 55) (.t 58), none, [6, 7, 8, 9]⟩,
    ⟨(some 60), .load 2 true (.t 59), none, [6, 7, 8, 9, 10]⟩,
    ⟨(some 61), .mov (.t 0), none, []⟩,
    ⟨(some 62), .mov (.t 11), none, []⟩,
    ⟨(some 63), .iaddr 2 (.t 61) (.t 62), none, [12, 13]⟩,
    ⟨(some 64), .load 2 true (.t 63), none, [12, 13, 14]⟩,
    ⟨(some 65), .iaddr 2 (.t 49) (.t 50), none, [0, 1, 6, 7, 8, 9, 10, 11, 12, 13, 14, 15]⟩,
    ⟨none, .store 2 (.t 65) (.t 60), none, [0, 1, 6, 7, 8, 9, 10, 11, 12, 13, 14, 15, 16]⟩,
    ⟨(some 66), .iaddr 2 (.t 51) (.t 54), none, [0, 1, 2, 3, 4, 5, 6, 7, 8, 9, 10, 11, 12, 13, 14, 15, 16, 17]⟩,
    ⟨none, .store 2 (.t 66) (.t 64), none, [0, 1, 2, 3, 4, 5, 6, 7, 8, 9, 10, 11, 12, 13, 14, 15, 16, 17, 18]⟩] true)))))
  (.mask ⟨[0, 1, 8, 9, 10, 11], []⟩ (.region 6 [
    ⟨(some 36), .mov (.t 11), none, []⟩,
    ⟨(some 37), .bin .add (.t 36) (.c (.d (.int .i64 (1)))), none, []⟩,
    ⟨(some 11), .mov (.t 37), none, []⟩] false))))
/-- slices.breakPatternsCmpFunc[beadle/roles.Pair] -/
def code_slices_breakPatternsCmpFunc_roles_Pair : AFunc := ⟨67, [],
  .seq (.region 0 [
    ⟨(some 13), .mov (.t 2), none, []⟩,
    ⟨(some 14), .mov (.t 1), none, []⟩,
    ⟨(some 15), .bin .sub (.t 13) (.t 14), none, []⟩,
    ⟨(some 8), .mov (.t 15), none, []⟩] false)
  (.seq (.region 1 [
    ⟨(some 16), .mov (.t 8), none, []⟩,
    ⟨(some 17), .bin .geq (.t 16) (.c (.d (.int .i64 (8)))), none, []⟩] false)
  (.cond (.t 17)
    (.seq (.region 2 [
      ⟨(some 18), .mov (.t 8), none, []⟩,
      ⟨(some 19), .toInt .u64 (.t 18), none, []⟩,
      ⟨(some 9), .box 1 (.c (.d (.int .u64 (0)))), none, []⟩,
      ⟨none, .store 1 (.t 9) (.t 19), none, []⟩] false)
    (.seq (.region 3 [
      ⟨(some 20), .mov (.t 8), none, []⟩,
      ⟨(some 21), .call (.c (.fn F_slices_nextPowerOfTwo [])) [(.t 20)], none, []⟩,
      ⟨(some 10), .mov (.t 21), none, []⟩] false)
    (.seq (.region 4 [
      ⟨(some 22), .mov (.t 1), none, []⟩,
      ⟨(some 23), .mov (.t 8), none, []⟩,
      ⟨(some 24), .bin .quo (.t 23) (.c (.d (.int .i64 (4)))), none, []⟩,
      ⟨(some 25), .bin .mul (.t 24) (.c (.d (.int .i64 (2)))), none, []⟩,
      ⟨(some 26), .bin .add (.t 22) (.t 25), none, []⟩,
      ⟨(some 27), .bin .sub (.t 26) (.c (.d (.int .i64 (1)))), none, []⟩,
      ⟨(some 11), .mov (.t 27), none, []⟩] false)
    (.block 0 (.loop mask_slices_breakPatternsCmpFunc_roles_Pair_0 body_slices_breakPatternsCmpFunc_roles_Pair_0)))))
    (.skip)))⟩
/-- slices.choosePivotCmpFunc[beadle/roles.Pair] -/
def code_slices_choosePivotCmpFunc_roles_Pair : AFunc := ⟨63, [.tmp 8, .tmp 9],
  .seq (.region 0 [
    ⟨(some 8), .mov (.c (.d (.int .i64 (0)))), none, []⟩,
    ⟨(some 9), .mov (.c (.d (.int .i64 (0)))), none, []⟩] false)
  (.seq (.region 1 [
    ⟨(some 15), .mov (.t 2), none, []⟩,
    ⟨(some 16), .mov (.t 1), none, []⟩,
    ⟨(some 17), .bin .sub (.t 15) (.t 16), none, []⟩,
    ⟨(some 10), .mov (.t 17), none, []⟩] false)
  (.seq (.region 2 [
    ⟨(some 11), .box 1 (.c (.d (.int .i64 (0)))), none, []⟩] false)
  (.seq (.region 3 [
    ⟨(some 18), .mov (.t 1), none, []⟩,
    ⟨(some 19), .mov (.t 10), none, []⟩,
    ⟨(some 20), .bin .quo (.t 19) (.c (.d (.int .i64 (4)))), none, []⟩,
    ⟨(some 21), .bin .mul (.t 20) (.c (.d (.int .i64 (1)))), none, []⟩,
    ⟨(some 22), .bin .add (.t 18) (.t 21), none, []⟩,
    ⟨(some 12), .mov (.t 22), none, []⟩] false)
  (.seq (.region 4 [
    ⟨(some 23), .mov (.t 1), none, []⟩,
    ⟨(some 24), .mov (.t 10), none, []⟩,
    ⟨(some 25), .bin .quo (.t 24) (.c (.d (.int .i64 (4)))), none, []⟩,
    ⟨(some 26), .bin .mul (.t 25) (.c (.d (.int .i64 (2)))), none, []⟩,
    ⟨(some 27), .bin .add (.t 23) (.t 26), none, []⟩,
    ⟨(some 13), .mov (.t 27), none, []⟩] false)
  (.seq (.region 5 [
    ⟨(some 28), .mov (.t 1), none, []⟩,
    ⟨(some 29), .mov (.t 10), none, []⟩,
    ⟨(some 30), .bin .quo (.t 29) (.c (.d (.int .i64 (4)))), none, []⟩,
    ⟨(some 31), .bin .mul (.t 30) (.c (.d (.int .i64 (3)))), none, []⟩,
    ⟨(some 32), .bin .add (.t 28) (.t 31), none, []⟩,
    ⟨(some 14), .mov (.t 32), none, []⟩] false)
  (.seq (.seq (.region 6 [
    ⟨(some 33), .mov (.t 10), none, []⟩,
    ⟨(some 34), .bin .geq (.t 33) (.c (.d (.int .i64 (8)))), none, []⟩] false)
  (.cond (.t 34)
    (.seq (.seq (.region 7 [
      ⟨(some 35), .mov (.t 10), none, []⟩,
      ⟨(some 36), .bin .geq (.t 35) (.c (.d (.int .i64 (50)))), none, []⟩] false)
    (.cond (.t 36)
      (.seq (.region 8 [
        ⟨(some 37), .mov (.t 0), none, []⟩,
        ⟨(some 38), .mov (.t 12), none, []⟩,
        ⟨(some 39), .mov (.t 3), none, []⟩,
        ⟨(some 40), .call (.c (.fn F_slices_medianAdjacentCmpFunc_roles_Pair [])) [(.t 37), (.t 38), (.t 11), (.t 39)], none, []⟩,
        ⟨(some 12), .mov (.t 40), none, []⟩] false)
      (.seq (.region 9 [
        ⟨(some 41), .mov (.t 0), none, []⟩,
        ⟨(some 42), .mov (.t 13), none, []⟩,
        ⟨(some 43), .mov (.t 3), none, []⟩,
        ⟨(some 44), .call (.c (.fn F_slices_medianAdjacentCmpFunc_roles_Pair [])) [(.t 41), (.t 42), (.t 11), (.t 43)], none, []⟩,
        ⟨(some 13), .mov (.t 44), none, []⟩] false)
      (.region 10 [
        ⟨(some 45), .mov (.t 0), none, []⟩,
        ⟨(some 46), .mov (.t 14), none, []⟩,
        ⟨(some 47), .mov (.t 3), none, []⟩,
        ⟨(some 48), .call (.c (.fn F_slices_medianAdjacentCmpFunc_roles_Pair [])) [(.t 45), (.t 46), (.t 11), (.t 47)], none, []⟩,
        ⟨(some 14), .mov (.t 48), none, []⟩] false)))
      (.skip)))
    (.mask ⟨[0, 3, 11, 12, 13, 14], []⟩ (.region 11 [
      ⟨(some 49), .mov (.t 0), none, []⟩,
      ⟨(some 50), .mov (.t 12), none, []⟩,
      ⟨(some 51), .mov (.t 13), none, []⟩,
      ⟨(some 52), .mov (.t 14), none, []⟩,
      ⟨(some 53), .mov (.t 3), none, []⟩,
      ⟨(some 54), .call (.c (.fn F_slices_medianCmpFunc_roles_Pair [])) [(.t 49), (.t 50), (.t 51), (.t 52), (.t 11), (.t 53)], none, []⟩,
      ⟨(some 13), .mov (.t 54), none, []⟩] false)))
    (.skip)))
  (.mask ⟨[11, 13], []⟩ (.seq (.region 12 [
    ⟨(some 55), .load 1 false (.t 11), none, []⟩] false)
  (.block 0 (.seq (.region 14 [
    ⟨(some 58), .bin .eql (.t 55) (.c (.d (.int .i64 (0)))), none, []⟩,
    ⟨(some 57), .mov (.t 58), none, []⟩] false)
  (.cond (.t 57)
    (.seq (.region 15 [
      ⟨(some 59), .mov (.t 13), none, []⟩,
      ⟨(some 8), .mov (.t 59), none, []⟩,
      ⟨(some 9), .mov (.c (.d (.int .i64 (1)))), none, []⟩] false)
    (.mask ⟨[8, 9], []⟩ (.ret)))
    (.seq (.region 16 [
      ⟨(some 61), .bin .eql (.t 55) (.c (.d (.int .i64 (12)))), none, []⟩,
      ⟨(some 60), .mov (.t 61), none, []⟩] false)
    (.cond (.t 60)
      (.seq (.region 17 [
        ⟨(some 62), .mov (.t 13), none, []⟩,
        ⟨(some 8), .mov (.t 62), none, []⟩,
        ⟨(some 9), .mov (.c (.d (.int .i64 (2)))), none, []⟩] false)
      (.mask ⟨[8, 9], []⟩ (.ret)))
      (.seq (.region 13 [
        ⟨(some 56), .mov (.t 13), none, []⟩,
        ⟨(some 8), .mov (.t 56), none, []⟩,
        ⟨(some 9), .mov (.c (.d (.int .i64 (0)))), none, []⟩] false)
      (.mask ⟨[8, 9], []⟩ (.ret))))))))))))))))⟩
def mask_slices_reverseRangeCmpFunc_roles_Pair_0 : Mask := ⟨[0, 8, 9], []⟩
def body_slices_reverseRangeCmpFunc_roles_Pair_0 : ACode :=
  .seq (.seq (.region 2 [
    ⟨(some 13), .mov (.t 8), none, []⟩,
    ⟨(some 14), .mov (.t 9), none, []⟩,
    ⟨(some 15), .bin .lss (.t 13) (.t 14), none, []⟩] false)
  (.cond (.t 15)
    (.skip)
    (.mask ⟨[], []⟩ (.exit 0))))
  (.mask ⟨[0, 8, 9], []⟩ (.block 1 (.seq (.region 3 [
    ⟨(some 16), .mov (.t 0), none, []⟩,
    ⟨(some 17), .mov (.t 8), none, []⟩,
    ⟨(some 18), .mov (.t 0), none, []⟩,
    ⟨(some 19), .mov (.t 9), none, []⟩,
    ⟨(some 20), .mov (.t 0), none, []⟩,
    ⟨(some 21), .mov (.t 9), none, []⟩,
    ⟨(some 22), .iaddr 2 (.t 20) (.t 21), none, [4, 5]⟩,
    ⟨(some 23), .load 2 true (.t 22), none, [4, 5, 6]⟩,
    ⟨(some 24), .mov (.t 0), none, []⟩,
    ⟨(some 25), .mov (.t 8), none, []⟩,
    ⟨(some 26), .iaddr 2 (.t 24) (.t 25), none, [8, 9]⟩,
    ⟨(some 27), .load 2 true (.t 26), none, [8, 9, 10]⟩,
    ⟨(some 28), .iaddr 2 (.t 16) (.t 17), none, [0, 1, 4, 5, 6, 7, 8, 9, 10, 11]⟩,
    ⟨none, .store 2 (.t 28) (.t 23), none, [0, 1, 4, 5, 6, 7, 8, 9, 10, 11, 12]⟩,
    ⟨(some 29), .iaddr 2 (.t 18) (.t 19), none, [0, 1, 2, 3, 4, 5, 6, 7, 8, 9, 10, 11, 12, 13]⟩,
    ⟨none, .store 2 (.t 29) (.t 27), none, [0, 1, 2, 3, 4, 5, 6, 7, 8, 9, 10, 11, 12, 13, 14]⟩] true)
  (.seq (.region 4 [
    ⟨(some 30), .mov (.t 8), none, []⟩,
    ⟨(some 31), .bin .add (.t 30) (.c (.d (.int .i64 (1)))), none, []⟩,
    ⟨(some 8), .mov (.t 31), none, []⟩] false)
  (.region 5 [
    ⟨(some 32), .mov (.t 9), none, []⟩,
    ⟨(some 33), .bin .sub (.t 32) (.c (.d (.int .i64 (1)))), none, []⟩,
    ⟨(some 9), .mov (.t 33), none, []⟩] false)))))
/-- slices.reverseRangeCmpFunc[beadle/roles.Pair] -/
def code_slices_reverseRangeCmpFunc_roles_Pair : AFunc := ⟨34, [],
  .seq (.region 0 [
    ⟨(some 10), .mov (.t 1), none, []⟩,
    ⟨(some 8), .mov (.t 10), none, []⟩] false)
  (.seq (.region 1 [
    ⟨(some 11), .mov (.t 2), none, []⟩,
    ⟨(some 12), .bin .sub (.t 11) (.c (.d (.int .i64 (1)))), none, []⟩,
    ⟨(some 9), .mov (.t 12), none, []⟩] false)
  (.block 0 (.loop mask_slices_reverseRangeCmpFunc_roles_Pair_0 body_slices_reverseRangeCmpFunc_roles_Pair_0)))⟩
def mask_slices_partialInsertionSortCmpFunc_roles_Pair_0 : Mask := ⟨[0, 1, 2, 3, 9, 10], []⟩
def body_slices_partialInsertionSortCmpFunc_roles_Pair_0 : ACode :=
  .seq (.seq (.region 5 [
    ⟨(some 19), .mov (.t 9), none, []⟩,
    ⟨(some 20), .mov (.t 2), none, []⟩,
    ⟨(some 21), .bin .lss (.t 19) (.t 20), none, [0, 1]⟩,
    ⟨(some 22), .mov (.t 21), none, [0, 1, 2]⟩,
    ⟨(some 23), .mov (.t 3), (some (22, true)), [0, 1, 2, 3]⟩,
    ⟨(some 24), .mov (.t 0), (some (22, true)), [0, 1, 2, 3]⟩,
    ⟨(some 25), .mov (.t 9), (some (22, true)), [0, 1, 2, 3]⟩,
    ⟨(some 26), .iaddr 2 (.t 24) (.t 25), (some (22, true)), [0, 1, 2, 3, 5, 6]⟩,
    ⟨(some 27), .load 2 true (.t 26), (some (22, true)), [0, 1, 2, 3, 5, 6, 7]⟩,
    ⟨(some 28), .mov (.t 0), (some (22, true)), [0, 1, 2, 3]⟩,
    ⟨(some 29), .mov (.t 9), (some (22, true)), [0, 1, 2, 3]⟩,
    ⟨(some 30), .bin .sub (.t 29) (.c (.d (.int .i64 (1)))), (some (22, true)), [0, 1, 2, 3, 10]⟩,
    ⟨(some 31), .iaddr 2 (.t 28) (.t 30), (some (22, true)), [0, 1, 2, 3, 9, 10, 11]⟩,
    ⟨(some 32), .load 2 true (.t 31), (some (22, true)), [0, 1, 2, 3, 9, 10, 11, 12]⟩,
    ⟨(some 33), .call (.t 23) [(.t 27), (.t 32)], (some (22, true)), [0, 1, 2, 3, 4, 5, 6, 7, 8, 9, 10, 11, 12, 13]⟩,
    ⟨(some 34), .bin .lss (.t 33) (.c (.d (.int .i64 (0)))), (some (22, true)), [0, 1, 2, 3, 4, 5, 6, 7, 8, 9, 10, 11, 12, 13, 14]⟩,
    ⟨(some 35), .un .not (.t 34), (some (22, true)), [0, 1, 2, 3, 4, 5, 6, 7, 8, 9, 10, 11, 12, 13, 14, 15]⟩,
    ⟨(some 36), .pick (.t 22) (.t 35) (.c (.d (.bool false))), none, [0, 1, 2, 3, 4, 5, 6, 7, 8, 9, 10, 11, 12, 13, 14, 15, 16]⟩] true)
  (.mask ⟨[0, 1, 2, 3, 9, 10, 36], []⟩ (.cond (.t 36)
    (.skip)
    (.mask ⟨[0, 1, 2, 3, 9, 10], []⟩ (.exit 2)))))
  (.mask ⟨[0, 1, 2, 3, 9, 10], []⟩ (.block 3 (.region 6 [
    ⟨(some 37), .mov (.t 9), none, []⟩,
    ⟨(some 38), .bin .add (.t 37) (.c (.d (.int .i64 (1)))), none, []⟩,
    ⟨(some 9), .mov (.t 38), none, []⟩] false)))
def mask_slices_partialInsertionSortCmpFunc_roles_Pair_1 : Mask := ⟨[0, 1, 2, 3, 9, 10, 11], []⟩
def body_slices_partialInsertionSortCmpFunc_roles_Pair_1 : ACode :=
  .seq (.seq (.region 14 [
    ⟨(some 68), .mov (.t 11), none, []⟩,
    ⟨(some 69), .bin .geq (.t 68) (.c (.d (.int .i64 (1)))), none, []⟩] false)
  (.cond (.t 69)
    (.skip)
    (.mask ⟨[0, 1, 2, 3, 9, 10], []⟩ (.exit 4))))
  (.mask ⟨[0, 1, 2, 3, 9, 10, 11], []⟩ (.seq (.block 5 (.seq (.seq (.region 16 [
    ⟨(some 72), .mov (.t 3), none, []⟩,
    ⟨(some 73), .mov (.t 0), none, []⟩,
    ⟨(some 74), .mov (.t 11), none, []⟩,
    ⟨(some 75), .iaddr 2 (.t 73) (.t 74), none, [1, 2]⟩,
    ⟨(some 76), .load 2 true (.t 75), none, [1, 2, 3]⟩,
    ⟨(some 77), .mov (.t 0), none, []⟩,
    ⟨(some 78), .mov (.t 11), none, []⟩,
    ⟨(some 79), .bin .sub (.t 78) (.c (.d (.int .i64 (1)))), none, [6]⟩,
    ⟨(some 80), .iaddr 2 (.t 77) (.t 79), none, [5, 6, 7]⟩,
    ⟨(some 81), .load 2 true (.t 80), none, [5, 6, 7, 8]⟩,
    ⟨(some 82), .call (.t 72) [(.t 76), (.t 81)], none, [0, 1, 2, 3, 4, 5, 6, 7, 8, 9]⟩,
    ⟨(some 83), .bin .lss (.t 82) (.c (.d (.int .i64 (0)))), none, [0, 1, 2, 3, 4, 5, 6, 7, 8, 9, 10]⟩,
    ⟨(some 84), .un .not (.t 83), none, [0, 1, 2, 3, 4, 5, 6, 7, 8, 9, 10, 11]⟩] true)
  (.cond (.t 84)
    (.mask ⟨[0, 1, 2, 3, 9, 10], []⟩ (.exit 4))
    (.skip)))
  (.mask ⟨[0, 1, 2, 3, 9, 10, 11], []⟩ (.region 17 [
    ⟨(some 85), .mov (.t 0), none, []⟩,
    ⟨(some 86), .mov (.t 11), none, []⟩,
    ⟨(some 87), .mov (.t 0), none, []⟩,
    ⟨(some 88), .mov (.t 11), none, []⟩,
    ⟨(some 89), .bin .sub (.t 88) (.c (.d (.int .i64 (1)))), none, [3]⟩,
    ⟨(some 90), .mov (.t 0), none, []⟩,
    ⟨(some 91), .mov (.t 11), none, []⟩,
    ⟨(some 92), .bin .sub (.t 91) (.c (.d (.int .i64 (1)))), none, [6]⟩,
    ⟨(some 93), .iaddr 2 (.t 90) (.t 92), none, [5, 6, 7]⟩,
    ⟨(some 94), .load 2 true (.t 93), none, [5, 6, 7, 8]⟩,
    ⟨(some 95), .mov (.t 0), none, []⟩,
    ⟨(some 96), .mov (.t 11), none, []⟩,
    ⟨(some 97), .iaddr 2 (.t 95) (.t 96), none, [10, 11]⟩,
    ⟨(some 98), .load 2 true (.t 97), none, [10, 11, 12]⟩,
    ⟨(some 99), .iaddr 2 (.t 85) (.t 86), none, [0, 1, 5, 6, 7, 8, 9, 10, 11, 12, 13]⟩,
    ⟨none, .store 2 (.t 99) (.t 94), none, [0, 1, 5, 6, 7, 8, 9, 10, 11, 12, 13, 14]⟩,
    ⟨(some 100), .iaddr 2 (.t 87) (.t 89), none, [0, 1, 2, 3, 4, 5, 6, 7, 8, 9, 10, 11, 12, 13, 14, 15]⟩,
    ⟨none, .store 2 (.t 100) (.t 98), none, [0, 1, 2, 3, 4, 5, 6, 7, 8, 9, 10, 11, 12, 13, 14, 15, 16]⟩] true))))
  (.mask ⟨[0, 1, 2, 3, 9, 10, 11], []⟩ (.region 15 [
    ⟨(some 70), .mov (.t 11), none, []⟩,
    ⟨(some 71), .bin .sub (.t 70) (.c (.d (.int .i64 (1)))), none, []⟩,
    ⟨(some 11), .mov (.t 71), none, []⟩] false))))
def mask_slices_partialInsertionSortCmpFunc_roles_Pair_2 : Mask := ⟨[0, 1, 2, 3, 9, 10, 12], []⟩
def body_slices_partialInsertionSortCmpFunc_roles_Pair_2 : ACode :=
  .seq (.seq (.region 20 [
    ⟨(some 107), .mov (.t 12), none, []⟩,
    ⟨(some 108), .mov (.t 2), none, []⟩,
    ⟨(some 109), .bin .lss (.t 107) (.t 108), none, []⟩] false)
  (.cond (.t 109)
    (.skip)
    (.mask ⟨[0, 1, 2, 3, 9, 10], []⟩ (.exit 6))))
  (.mask ⟨[0, 1, 2, 3, 9, 10, 12], []⟩ (.seq (.block 7 (.seq (.seq (.region 22 [
    ⟨(some 112), .mov (.t 3), none, []⟩,
    ⟨(some 113), .mov (.t 0), none, []⟩,
    ⟨(some 114), .mov (.t 12), none, []⟩,
    ⟨(some 115), .iaddr 2 (.t 113) (.t 114), none, [1, 2]⟩,
    ⟨(some 116), .load 2 true (.t 115), none, [1, 2, 3]⟩,
    ⟨(some 117), .mov (.t 0), none, []⟩,
    ⟨(some 118), .mov (.t 12), none, []⟩,
    ⟨(some 119), .bin .sub (.t 118) (.c (.d (.int .i64 (1)))), none, [6]⟩,
    ⟨(some 120), .iaddr 2 (.t 117) (.t 119), none, [5, 6, 7]⟩,
    ⟨(some 121), .load 2 true (.t 120), none, [5, 6, 7, 8]⟩,
    ⟨(some 122), .call (.t 112) [(.t 116), (.t 121)], none, [0, 1, 2, 3, 4, 5, 6, 7, 8, 9]⟩,
    ⟨(some 123), .bin .lss (.t 122) (.c (.d (.int .i64 (0)))), none, [0, 1, 2, 3, 4, 5, 6, 7, 8, 9, 10]⟩,
    ⟨(some 124), .un .not (.t 123), none, [0, 1, 2, 3, 4, 5, 6, 7, 8, 9, 10, 11]⟩] true)
  (.cond (.t 124)
    (.mask ⟨[0, 1, 2, 3, 9, 10], []⟩ (.exit 6))
    (.skip)))
  (.mask ⟨[0, 1, 2, 3, 9, 10, 12], []⟩ (.region 23 [
    ⟨(some 125), .mov (.t 0), none, []⟩,
    ⟨(some 126), .mov (.t 12), none, []⟩,
    ⟨(some 127), .mov (.t 0), none, []⟩,
    ⟨(some 128), .mov (.t 12), none, []⟩,
    ⟨(some 129), .bin .sub (.t 128) (.c (.d (.int .i64 (1)))), none, [3]⟩,
    ⟨(some 130), .mov (.t 0), none, []⟩,
    ⟨(some 131), .mov (.t 12), none, []⟩,
    ⟨(some 132), .bin .sub (.t 131) (.c (.d (.int .i64 (1)))), none, [6]⟩,
    ⟨(some 133), .iaddr 2 (.t 130) (.t 132), none, [5, 6, 7]⟩,
    ⟨(some 134), .load 2 true (.t 133), none, [5, 6, 7, 8]⟩,
    ⟨(some 135), .mov (.t 0), none, []⟩,
    ⟨(some 136), .mov (.t 12), none, []⟩,
    ⟨(some 137), .iaddr 2 (.t 135) (.t 136), none, [10, 11]⟩,
    ⟨(some 138), .load 2 true (.t 137), none, [10, 11, 12]⟩,
    ⟨(some 139), .iaddr 2 (.t 125) (.t 126), none, [0, 1, 5, 6, 7, 8, 9, 10, 11, 12, 13]⟩,
    ⟨none, .store 2 (.t 139) (.t 134), none, [0, 1, 5, 6, 7, 8, 9, 10, 11, 12, 13, 14]⟩,
    ⟨(some 140), .iaddr 2 (.t 127) (.t 129), none, [0, 1, 2, 3, 4, 5, 6, 7, 8, 9, 10, 11, 12, 13, 14, 15]⟩,
    ⟨none, .store 2 (.t 140) (.t 138), none, [0, 1, 2, 3, 4, 5, 6, 7, 8, 9, 10, 11, 12, 13, 14, 15, 16]⟩] true))))
  (.mask ⟨[0, 1, 2, 3, 9, 10, 12], []⟩ (.region 21 [
    ⟨(some 110), .mov (.t 12), none, []⟩,
    ⟨(some 111), .bin .add (.t 110) (.c (.d (.int .i64 (1)))), none, []⟩,
    ⟨(some 12), .mov (.t 111), none, []⟩] false))))
def mask_slices_partialInsertionSortCmpFunc_roles_Pair_3 : Mask := ⟨[0, 1, 2, 3, 9, 10], []⟩
def body_slices_partialInsertionSortCmpFunc_roles_Pair_3 : ACode :=
  .seq (.seq (.region 3 [
    ⟨(some 15), .mov (.t 10), none, []⟩,
    ⟨(some 16), .bin .lss (.t 15) (.c (.d (.int .i64 (5)))), none, []⟩] false)
  (.cond (.t 16)
    (.skip)
    (.mask ⟨[], []⟩ (.exit 0))))
  (.mask ⟨[0, 1, 2, 3, 9, 10], []⟩ (.seq (.block 1 (.seq (.block 2 (.loop mask_slices_partialInsertionSortCmpFunc_roles_Pair_0 body_slices_partialInsertionSortCmpFunc_roles_Pair_0))
  (.mask ⟨[0, 1, 2, 3, 9, 10], []⟩ (.seq (.seq (.region 7 [
    ⟨(some 39), .mov (.t 9), none, []⟩,
    ⟨(some 40), .mov (.t 2), none, []⟩,
    ⟨(some 41), .bin .eql (.t 39) (.t 40), none, []⟩] false)
  (.cond (.t 41)
    (.seq (.region 8 [
      ⟨(some 8), .mov (.c (.d (.bool true))), none, []⟩] false)
    (.mask ⟨[8], []⟩ (.ret)))
    (.skip)))
  (.mask ⟨[0, 1, 2, 3, 9, 10], []⟩ (.seq (.seq (.region 9 [
    ⟨(some 42), .mov (.t 2), none, []⟩,
    ⟨(some 43), .mov (.t 1), none, []⟩,
    ⟨(some 44), .bin .sub (.t 42) (.t 43), none, []⟩,
    ⟨(some 45), .bin .lss (.t 44) (.c (.d (.int .i64 (50)))), none, []⟩] false)
  (.cond (.t 45)
    (.seq (.region 10 [
      ⟨(some 8), .mov (.c (.d (.bool false))), none, []⟩] false)
    (.mask ⟨[8], []⟩ (.ret)))
    (.skip)))
  (.mask ⟨[0, 1, 2, 3, 9, 10], []⟩ (.seq (.region 11 [
    ⟨(some 46), .mov (.t 0), none, []⟩,
    ⟨(some 47), .mov (.t 9), none, []⟩,
    ⟨(some 48), .mov (.t 0), none, []⟩,
    ⟨(some 49), .mov (.t 9), none, []⟩,
    ⟨(some 50), .bin .sub (.t 49) (.c (.d (.int .i64 (1)))), none, [3]⟩,
    ⟨(some 51), .mov (.t 0), none, []⟩,
    ⟨(some 52), .mov (.t 9), none, []⟩,
    ⟨(some 53), .bin .sub (.t 52) (.c (.d (.int .i64 (1)))), none, [6]⟩,
    ⟨(some 54), .iaddr 2 (.t 51) (.t 53), none, [5, 6, 7]⟩,
    ⟨(some 55), .load 2 true (.t 54), none, [5, 6, 7, 8]⟩,
    ⟨(some 56), .mov (.t 0), none, []⟩,
    ⟨(some 57), .mov (.t 9), none, []⟩,
    ⟨(some 58), .iaddr 2 (.t 56) (.t 57), none, [10, 11]⟩,
    ⟨(some 59), .load 2 true (.t 58), none, [10, 11, 12]⟩,
    ⟨(some 60), .iaddr 2 (.t 46) (.t 47), none, [0, 1, 5, 6, 7, 8, 9, 10, 11, 12, 13]⟩,
    ⟨none, .store 2 (.t 60) (.t 55), none, [0, 1, 5, 6, 7, 8, 9, 10, 11, 12, 13, 14]⟩,
    ⟨(some 61), .iaddr 2 (.t 48) (.t 50), none, [0, 1, 2, 3, 4, 5, 6, 7, 8, 9, 10, 11, 12, 13, 14, 15]⟩,
    ⟨none, .store 2 (.t 61) (.t 59), none, [0, 1, 2, 3, 4, 5, 6, 7, 8, 9, 10, 11, 12, 13, 14, 15, 16]⟩] true)
  (.seq (.seq (.region 12 [
    ⟨(some 62), .mov (.t 9), none, []⟩,
    ⟨(some 63), .mov (.t 1), none, []⟩,
    ⟨(some 64), .bin .sub (.t 62) (.t 63), none, []⟩,
    ⟨(some 65), .bin .geq (.t 64) (.c (.d (.int .i64 (2)))), none, []⟩] false)
  (.cond (.t 65)
    (.seq (.region 13 [
      ⟨(some 66), .mov (.t 9), none, []⟩,
      ⟨(some 67), .bin .sub (.t 66) (.c (.d (.int .i64 (1)))), none, []⟩,
      ⟨(some 11), .mov (.t 67), none, []⟩] false)
    (.block 4 (.loop mask_slices_partialInsertionSortCmpFunc_roles_Pair_1 body_slices_partialInsertionSortCmpFunc_roles_Pair_1)))
    (.skip)))
  (.mask ⟨[0, 1, 2, 3, 9, 10], []⟩ (.seq (.region 18 [
    ⟨(some 101), .mov (.t 2), none, []⟩,
    ⟨(some 102), .mov (.t 9), none, []⟩,
    ⟨(some 103), .bin .sub (.t 101) (.t 102), none, []⟩,
    ⟨(some 104), .bin .geq (.t 103) (.c (.d (.int .i64 (2)))), none, []⟩] false)
  (.cond (.t 104)
    (.seq (.region 19 [
      ⟨(some 105), .mov (.t 9), none, []⟩,
      ⟨(some 106), .bin .add (.t 105) (.c (.d (.int .i64 (1)))), none, []⟩,
      ⟨(some 12), .mov (.t 106), none, []⟩] false)
    (.block 6 (.loop mask_slices_partialInsertionSortCmpFunc_roles_Pair_2 body_slices_partialInsertionSortCmpFunc_roles_Pair_2)))
    (.skip)))))))))))))
  (.mask ⟨[0, 1, 2, 3, 9, 10], []⟩ (.region 4 [
    ⟨(some 17), .mov (.t 10), none, []⟩,
    ⟨(some 18), .bin .add (.t 17) (.c (.d (.int .i64 (1)))), none, []⟩,
    ⟨(some 10), .mov (.t 18), none, []⟩] false))))
/-- slices.partialInsertionSortCmpFunc[beadle/roles.Pair] -/
def code_slices_partialInsertionSortCmpFunc_roles_Pair : AFunc := ⟨141, [.tmp 8],
  .seq (.region 0 [
    ⟨(some 8), .mov (.c (.d (.bool false))), none, []⟩] false)
  (.seq (.region 1 [
    ⟨(some 13), .mov (.t 1), none, []⟩,
    ⟨(some 14), .bin .add (.t 13) (.c (.d (.int .i64 (1)))), none, []⟩,
    ⟨(some 9), .mov (.t 14), none, []⟩] false)
  (.seq (.seq (.region 2 [
    ⟨(some 10), .mov (.c (.d (.int .i64 (0)))), none, []⟩] false)
  (.block 0 (.loop mask_slices_partialInsertionSortCmpFunc_roles_Pair_3 body_slices_partialInsertionSortCmpFunc_roles_Pair_3)))
  (.mask ⟨[], []⟩ (.seq (.region 24 [
    ⟨(some 8), .mov (.c (.d (.bool false))), none, []⟩] false)
  (.mask ⟨[8], []⟩ (.ret))))))⟩
def mask_slices_partitionEqualCmpFunc_roles_Pair_0 : Mask := ⟨[0, 1, 4, 11, 12], []⟩
def body_slices_partitionEqualCmpFunc_roles_Pair_0 : ACode :=
  .seq (.seq (.region 3 [
    ⟨(some 31), .mov (.t 11), none, []⟩,
    ⟨(some 32), .mov (.t 12), none, []⟩,
    ⟨(some 33), .bin .leq (.t 31) (.t 32), none, [0, 1]⟩,
    ⟨(some 34), .mov (.t 33), none, [0, 1, 2]⟩,
    ⟨(some 35), .mov (.t 4), (some (34, true)), [0, 1, 2, 3]⟩,
    ⟨(some 36), .mov (.t 0), (some (34, true)), [0, 1, 2, 3]⟩,
    ⟨(some 37), .mov (.t 1), (some (34, true)), [0, 1, 2, 3]⟩,
    ⟨(some 38), .iaddr 2 (.t 36) (.t 37), (some (34, true)), [0, 1, 2, 3, 5, 6]⟩,
    ⟨(some 39), .load 2 true (.t 38), (some (34, true)), [0, 1, 2, 3, 5, 6, 7]⟩,
    ⟨(some 40), .mov (.t 0), (some (34, true)), [0, 1, 2, 3]⟩,
    ⟨(some 41), .mov (.t 11), (some (34, true)), [0, 1, 2, 3]⟩,
    ⟨(some 42), .iaddr 2 (.t 40) (.t 41), (some (34, true)), [0, 1, 2, 3, 9, 10]⟩,
    ⟨(some 43), .load 2 true (.t 42), (some (34, true)), [0, 1, 2, 3, 9, 10, 11]⟩,
    ⟨(some 44), .call (.t 35) [(.t 39), (.t 43)], (some (34, true)), [0, 1, 2, 3, 4, 5, 6, 7, 8, 9, 10, 11, 12]⟩,
    ⟨(some 45), .bin .lss (.t 44) (.c (.d (.int .i64 (0)))), (some (34, true)), [0, 1, 2, 3, 4, 5, 6, 7, 8, 9, 10, 11, 12, 13]⟩,
    ⟨(some 46), .un .not (.t 45), (some (34, true)), [0, 1, 2, 3, 4, 5, 6, 7, 8, 9, 10, 11, 12, 13, 14]⟩,
    ⟨(some 47), .pick (.t 34) (.t 46) (.c (.d (.bool false))), none, [0, 1, 2, 3, 4, 5, 6, 7, 8, 9, 10, 11, 12, 13, 14, 15]⟩] true)
  (.mask ⟨[0, 1, 4, 11, 12, 47], []⟩ (.cond (.t 47)
    (.skip)
    (.mask ⟨[0, 1, 4, 11, 12], []⟩ (.exit 2)))))
  (.mask ⟨[0, 1, 4, 11, 12], []⟩ (.block 3 (.region 4 [
    ⟨(some 48), .mov (.t 11), none, []⟩,
    ⟨(some 49), .bin .add (.t 48) (.c (.d (.int .i64 (1)))), none, []⟩,
    ⟨(some 11), .mov (.t 49), none, []⟩] false)))
def mask_slices_partitionEqualCmpFunc_roles_Pair_1 : Mask := ⟨[0, 1, 4, 11, 12], []⟩
def body_slices_partitionEqualCmpFunc_roles_Pair_1 : ACode :=
  .seq (.seq (.region 5 [
    ⟨(some 50), .mov (.t 11), none, []⟩,
    ⟨(some 51), .mov (.t 12), none, []⟩,
    ⟨(some 52), .bin .leq (.t 50) (.t 51), none, [0, 1]⟩,
    ⟨(some 53), .mov (.t 52), none, [0, 1, 2]⟩,
    ⟨(some 54), .mov (.t 4), (some (53, true)), [0, 1, 2, 3]⟩,
    ⟨(some 55), .mov (.t 0), (some (53, true)), [0, 1, 2, 3]⟩,
    ⟨(some 56), .mov (.t 1), (some (53, true)), [0, 1, 2, 3]⟩,
    ⟨(some 57), .iaddr 2 (.t 55) (.t 56), (some (53, true)), [0, 1, 2, 3, 5, 6]⟩,
    ⟨(some 58), .load 2 true (.t 57), (some (53, true)), [0, 1, 2, 3, 5, 6, 7]⟩,
    ⟨(some 59), .mov (.t 0), (some (53, true)), [0, 1, 2, 3]⟩,
    ⟨(some 60), .mov (.t 12), (some (53, true)), [0, 1, 2, 3]⟩,
    ⟨(some 61), .iaddr 2 (.t 59) (.t 60), (some (53, true)), [0, 1, 2, 3, 9, 10]⟩,
    ⟨(some 62), .load 2 true (.t 61), (some (53, true)), [0, 1, 2, 3, 9, 10, 11]⟩,
    ⟨(some 63), .call (.t 54) [(.t 58), (.t 62)], (some (53, true)), [0, 1, 2, 3, 4, 5, 6, 7, 8, 9, 10, 11, 12]⟩,
    ⟨(some 64), .bin .lss (.t 63) (.c (.d (.int .i64 (0)))), (some (53, true)), [0, 1, 2, 3, 4, 5, 6, 7, 8, 9, 10, 11, 12, 13]⟩,
    ⟨(some 65), .pick (.t 53) (.t 64) (.c (.d (.bool false))), none, [0, 1, 2, 3, 4, 5, 6, 7, 8, 9, 10, 11, 12, 13, 14]⟩] true)
  (.mask ⟨[0, 1, 4, 11, 12, 65], []⟩ (.cond (.t 65)
    (.skip)
    (.mask ⟨[0, 1, 4, 11, 12], []⟩ (.exit 4)))))
  (.mask ⟨[0, 1, 4, 11, 12], []⟩ (.block 5 (.region 6 [
    ⟨(some 66), .mov (.t 12), none, []⟩,
    ⟨(some 67), .bin .sub (.t 66) (.c (.d (.int .i64 (1)))), none, []⟩,
    ⟨(some 12), .mov (.t 67), none, []⟩] false)))
def mask_slices_partitionEqualCmpFunc_roles_Pair_2 : Mask := ⟨[0, 1, 4, 11, 12], []⟩
def body_slices_partitionEqualCmpFunc_roles_Pair_2 : ACode :=
  .block 1 (.seq (.block 2 (.loop mask_slices_partitionEqualCmpFunc_roles_Pair_0 body_slices_partitionEqualCmpFunc_roles_Pair_0))
  (.mask ⟨[0, 1, 4, 11, 12], []⟩ (.seq (.block 4 (.loop mask_slices_partitionEqualCmpFunc_roles_Pair_1 body_slices_partitionEqualCmpFunc_roles_Pair_1))
  (.mask ⟨[0, 1, 4, 11, 12], []⟩ (.seq (.seq (.region 7 [
    ⟨(some 68), .mov (.t 11), none, []⟩,
    ⟨(some 69), .mov (.t 12), none, []⟩,
    ⟨(some 70), .bin .gtr (.t 68) (.t 69), none, []⟩] false)
  (.cond (.t 70)
    (.mask ⟨[11], []⟩ (.exit 0))
    (.skip)))
  (.mask ⟨[0, 1, 4, 11, 12], []⟩ (.seq (.region 8 [
    ⟨(some 71), .mov (.t 0), none, []⟩,
    ⟨(some 72), .mov (.t 11), none, []⟩,
    ⟨(some 73), .mov (.t 0), none, []⟩,
    ⟨(some 74), .mov (.t 12), none, []⟩,
    ⟨(some 75), .mov (.t 0), none, []⟩,
    ⟨(some 76), .mov (.t 12), none, []⟩,
    ⟨(some 77), .iaddr 2 (.t 75) (.t 76), none, [4, 5]⟩,
    ⟨(some 78), .load 2 true (.t 77), none, [4, 5, 6]⟩,
    ⟨(some 79), .mov (.t 0), none, []⟩,
    ⟨(some 80), .mov (.t 11), none, []⟩,
    ⟨(some 81), .iaddr 2 (.t 79) (.t 80), none, [8, 9]⟩,
    ⟨(some 82), .load 2 true (.t 81), none, [8, 9, 10]⟩,
    ⟨(some 83), .iaddr 2 (.t 71) (.t 72), none, [0, 1, 4, 5, 6, 7, 8, 9, 10, 11]⟩,
    ⟨none, .store 2 (.t 83) (.t 78), none, [0, 1, 4, 5, 6, 7, 8, 9, 10, 11, 12]⟩,
    ⟨(some 84), .iaddr 2 (.t 73) (.t 74), none, [0, 1, 2, 3, 4, 5, 6, 7, 8, 9, 10, 11, 12, 13]⟩,
    ⟨none, .store 2 (.t 84) (.t 82), none, [0, 1, 2, 3, 4, 5, 6, 7, 8, 9, 10, 11, 12, 13, 14]⟩] true)
  (.seq (.region 9 [
    ⟨(some 85), .mov (.t 11), none, []⟩,
    ⟨(some 86), .bin .add (.t 85) (.c (.d (.int .i64 (1)))), none, []⟩,
    ⟨(some 11), .mov (.t 86), none, []⟩] false)
  (.region 10 [
    ⟨(some 87), .mov (.t 12), none, []⟩,
    ⟨(some 88), .bin .sub (.t 87) (.c (.d (.int .i64 (1)))), none, []⟩,
    ⟨(some 12), .mov (.t 88), none, []⟩] false)))))))))
/-- slices.partitionEqualCmpFunc[beadle/roles.Pair] -/
def code_slices_partitionEqualCmpFunc_roles_Pair : AFunc := ⟨90, [.tmp 10],
  .seq (.region 0 [
    ⟨(some 10), .mov (.c (.d (.int .i64 (0)))), none, []⟩] false)
  (.seq (.region 1 [
    ⟨(some 13), .mov (.t 0), none, []⟩,
    ⟨(some 14), .mov (.t 1), none, []⟩,
    ⟨(some 15), .mov (.t 0), none, []⟩,
    ⟨(some 16), .mov (.t 3), none, []⟩,
    ⟨(some 17), .mov (.t 0), none, []⟩,
    ⟨(some 18), .mov (.t 3), none, []⟩,
    ⟨(some 19), .iaddr 2 (.t 17) (.t 18), none, [4, 5]⟩,
    ⟨(some 20), .load 2 true (.t 19), none, [4, 5, 6]⟩,
    ⟨(some 21), .mov (.t 0), none, []⟩,
    ⟨(some 22), .mov (.t 1), none, []⟩,
    ⟨(some 23), .iaddr 2 (.t 21) (.t 22), none, [8, 9]⟩,
    ⟨(some 24), .load 2 true (.t 23), none, [8, 9, 10]⟩,
    ⟨(some 25), .iaddr 2 (.t 13) (.t 14), none, [0, 1, 4, 5, 6, 7, 8, 9, 10, 11]⟩,
    ⟨none, .store 2 (.t 25) (.t 20), none, [0, 1, 4, 5, 6, 7, 8, 9, 10, 11, 12]⟩,
    ⟨(some 26), .iaddr 2 (.t 15) (.t 16), none, [0, 1, 2, 3, 4, 5, 6, 7, 8, 9, 10, 11, 12, 13]⟩,
    ⟨none, .store 2 (.t 26) (.t 24), none, [0, 1, 2, 3, 4, 5, 6, 7, 8, 9, 10, 11, 12, 13, 14]⟩] true)
  (.seq (.region 2 [
    ⟨(some 27), .mov (.t 1), none, []⟩,
    ⟨(some 28), .bin .add (.t 27) (.c (.d (.int .i64 (1)))), none, []⟩,
    ⟨(some 29), .mov (.t 2), none, []⟩,
    ⟨(some 30), .bin .sub (.t 29) (.c (.d (.int .i64 (1)))), none, []⟩,
    ⟨(some 11), .mov (.t 28), none, []⟩,
    ⟨(some 12), .mov (.t 30), none, []⟩] false)
  (.seq (.block 0 (.loop mask_slices_partitionEqualCmpFunc_roles_Pair_2 body_slices_partitionEqualCmpFunc_roles_Pair_2))
  (.mask ⟨[11], []⟩ (.seq (.region 11 [
    ⟨(some 89), .mov (.t 11), none, []⟩,
    ⟨(some 10), .mov (.t 89), none, []⟩] false)
  (.mask ⟨[10], []⟩ (.ret)))))))⟩
end Bz.S
