/- The code of functions, as the clean machine reads it (printed by a program of ours out of the seat's translation). -/
import Derived.Test.YtpopnggdnkfemaaBz3
import Derived.KernelRfl
set_option linter.unusedSimpArgs false
set_option linter.unusedVariables false
set_option maxRecDepth 100000
namespace Bz.S
open Go Bz
def F_law05_StoreKeeps : Nat := 3
def F_law05_StoreRuns : Nat := 4
def F_law05_StoreClones : Nat := 5
def F_law05_StoreNobody : Nat := 6
def F_law05_alive : Nat := 7
def F_plain_Rising : Nat := 8
def F_store_New : Nat := 9
def F_store_Store_Set : Nat := 10
def F_law05_long : Nat := 11
def F_store_Store_Get : Nat := 12
def F_plain_Texts : Nat := 13
def F_law05_few : Nat := 15
def F_law05_run : Nat := 14
def F_store_Store_Clone : Nat := 16
def F_plain_Value : Nat := 17
def F_store_Store_Count : Nat := 18
def F_store_Store_Names : Nat := 19
def F_store_Store_Kind : Nat := 20
def F_plain_In : Nat := 21
def F_store_Store_is : Nat := 22
def F_value_Check : Nat := 23
def F_store_own : Nat := 24
def F_value_Zero : Nat := 25
def F_law05_step : Nat := 26
def F_maps_Clone_map_string_int_string_int : Nat := 27
def F_maps_Clone_map_store_key_api_Value_store_key_api_Value : Nat := 28
def F_900000001 : Nat := 900000001
def F_900000002 : Nat := 900000002
def F_900000003 : Nat := 900000003
def F_slices_Sort_string_string : Nat := 29
def F_value_long : Nat := 30
def F_slices_ContainsFunc_string_string : Nat := 31
def F_value_odd : Nat := 32
def F_slices_Clone_string_string : Nat := 33
def F_ref05_Set : Nat := 34
def F_ref05_Get : Nat := 35
def F_ref05_Kind : Nat := 36
def F_law05_names : Nat := 37
def F_maps_clone : Nat := 38
def F_math_bits_Len : Nat := 40
def F_slices_pdqsortOrdered_string : Nat := 39
def F_slices_IndexFunc_string_string : Nat := 41
def F_value_rises : Nat := 42
def F_ref02_Check : Nat := 43
def F_math_bits_Len32 : Nat := 53
def F_math_bits_Len64 : Nat := 54
def F_slices_insertionSortOrdered_string : Nat := 44
def F_slices_heapSortOrdered_string : Nat := 45
def F_slices_breakPatternsOrdered_string : Nat := 46
def F_slices_choosePivotOrdered_string : Nat := 47
def F_slices_reverseRangeOrdered_string : Nat := 48
def F_slices_partialInsertionSortOrdered_string : Nat := 49
def F_cmp_Less_string : Nat := 50
def F_slices_partitionEqualOrdered_string : Nat := 51
def F_slices_partitionOrdered_string : Nat := 52
def F_ref02_bad : Nat := 55
def F_slices_siftDownOrdered_string : Nat := 56
def F_slices_nextPowerOfTwo : Nat := 57
def F_slices_xorshift_Next : Nat := 58
def F_slices_medianAdjacentOrdered_string : Nat := 59
def F_slices_medianOrdered_string : Nat := 60
def F_cmp_isNaN_string : Nat := 61
def F_slices_order2Ordered_string : Nat := 62
def mask_law05_StoreKeeps_0 : Mask := ⟨[0, 1, 7, 8, 9, 10], [.slot 9 10000090 1]⟩
def body_law05_StoreKeeps_0 : ACode :=
  .seq (.seq (.region 9 [
    ⟨(some 42), .mov (.t 10), none, []⟩,
    ⟨(some 43), .faddr 3 (.t 7), none, []⟩,
    ⟨(some 44), .load 1 false (.t 43), none, []⟩,
    ⟨(some 45), .len .sl (.t 44), none, []⟩,
    ⟨(some 46), .bin .lss (.t 42) (.t 45), none, []⟩] false)
  (.cond (.t 46)
    (.skip)
    (.mask ⟨[0, 1, 8, 9], [.slot 9 10000090 1]⟩ (.exit 0))))
  (.mask ⟨[0, 1, 7, 8, 9, 10], [.slot 9 10000090 1]⟩ (.seq (.block 1 (.region 11 [
    ⟨(some 49), .faddr 3 (.t 7), none, []⟩,
    ⟨(some 50), .load 1 false (.t 49), none, []⟩,
    ⟨(some 51), .mov (.t 10), none, []⟩,
    ⟨(some 52), .iaddr 1 (.t 50) (.t 51), none, []⟩,
    ⟨none, .store 1 (.t 52) (.c (.d (.str [45]))), none, []⟩] false))
  (.mask ⟨[0, 1, 7, 8, 9, 10], [.slot 9 10000090 1]⟩ (.region 10 [
    ⟨(some 47), .mov (.t 10), none, []⟩,
    ⟨(some 48), .bin .add (.t 47) (.c (.d (.int .i64 (1)))), none, []⟩,
    ⟨(some 10), .mov (.t 48), none, []⟩] false))))
def mask_law05_StoreKeeps_1 : Mask := ⟨[0, 1, 8, 9, 11, 13], [.slot 9 10000090 1]⟩
def body_law05_StoreKeeps_1 : ACode :=
  .seq (.seq (.region 16 [
    ⟨(some 65), .mov (.t 13), none, []⟩,
    ⟨(some 66), .faddr 3 (.t 11), none, []⟩,
    ⟨(some 67), .load 1 false (.t 66), none, []⟩,
    ⟨(some 68), .len .sl (.t 67), none, []⟩,
    ⟨(some 69), .bin .lss (.t 65) (.t 68), none, []⟩] false)
  (.cond (.t 69)
    (.skip)
    (.mask ⟨[0, 1, 8, 9], [.slot 9 10000090 1]⟩ (.exit 2))))
  (.mask ⟨[0, 1, 8, 9, 11, 13], [.slot 9 10000090 1]⟩ (.seq (.block 3 (.region 18 [
    ⟨(some 72), .faddr 3 (.t 11), none, []⟩,
    ⟨(some 73), .load 1 false (.t 72), none, []⟩,
    ⟨(some 74), .mov (.t 13), none, []⟩,
    ⟨(some 75), .iaddr 1 (.t 73) (.t 74), none, []⟩,
    ⟨none, .store 1 (.t 75) (.c (.d (.str [43]))), none, []⟩] false))
  (.mask ⟨[0, 1, 8, 9, 11, 13], [.slot 9 10000090 1]⟩ (.region 17 [
    ⟨(some 70), .mov (.t 13), none, []⟩,
    ⟨(some 71), .bin .add (.t 70) (.c (.d (.int .i64 (1)))), none, []⟩,
    ⟨(some 13), .mov (.t 71), none, []⟩] false))))
/-- beadle/beadlelaw05.StoreKeeps -/
def code_law05_StoreKeeps : AFunc := ⟨90, [.tmp 6],
  .seq (.region 0 [
    ⟨(some 6), .mov (.c (.d (.bool false))), none, []⟩] false)
  (.seq (.seq (.region 1 [
    ⟨(some 16), .call (.c (.fn F_law05_alive [])) [], none, []⟩,
    ⟨(some 17), .un .not (.t 16), none, []⟩] false)
  (.cond (.t 17)
    (.seq (.region 2 [
      ⟨(some 6), .mov (.c (.d (.bool false))), none, []⟩] false)
    (.mask ⟨[6], []⟩ (.ret)))
    (.skip)))
  (.mask ⟨[0, 1, 2], []⟩ (.seq (.region 3 [
    ⟨(some 18), .mov (.t 2), none, []⟩,
    ⟨(some 19), .call (.c (.fn F_plain_Rising [])) [(.t 18)], none, []⟩,
    ⟨(some 20), .build [(.d (.int .i64 (0))), (.d (.int .i64 (0))), (.d (.str [])), (.d (.vs true []))] [(0, 1, (.c (.d (.int .i64 (4))))), (3, 1, (.t 19))], none, []⟩,
    ⟨(some 7), .box 4 (.c (.agg [(.d (.int .i64 (0))), (.d (.int .i64 (0))), (.d (.str [])), (.d (.vs true []))])), none, []⟩,
    ⟨none, .store 4 (.t 7) (.t 20), none, []⟩] false)
  (.seq (.region 4 [
    ⟨(some 21), .mov (.t 1), none, []⟩,
    ⟨(some 22), .build [(.d (.str [])), (.d (.int .i64 (0)))] [(0, 1, (.t 21)), (1, 1, (.c (.d (.int .i64 (4)))))], none, []⟩,
    ⟨(some 23), .buildSl 2 [(.str []), (.int .i64 (0))] 1 [(0, (.t 22))], none, []⟩,
    ⟨(some 24), .call (.c (.fn F_store_New [])) [(.t 23)], none, []⟩,
    ⟨(some 8), .mov (.t 24), none, []⟩] false)
  (.seq (.region 5 [
    ⟨(some 25), .buildSl 1 [(.str [])] 0 [], none, []⟩,
    ⟨(some 26), .faddr 3 (.t 7), none, []⟩,
    ⟨(some 27), .load 1 false (.t 26), none, []⟩,
    ⟨(some 28), .append 1 (.t 25) (.t 27), none, []⟩,
    ⟨(some 9), .mov (.t 28), none, []⟩] false)
  (.seq (.seq (.region 6 [
    ⟨(some 29), .mov (.t 8), none, []⟩,
    ⟨(some 30), .mov (.t 0), none, []⟩,
    ⟨(some 31), .mov (.t 1), none, []⟩,
    ⟨(some 32), .load 4 true (.t 7), none, []⟩,
    ⟨(some 33), .call (.c (.fn F_store_Store_Set [])) [(.t 29), (.t 30), (.t 31), (.t 32)], none, []⟩,
    ⟨(some 34), .bin .neq (.t 33) (.c (.d (.int .i64 (0)))), none, []⟩] false)
  (.cond (.t 34)
    (.seq (.region 7 [
      ⟨(some 35), .mov (.t 9), none, []⟩,
      ⟨(some 36), .len .sl (.t 35), none, []⟩,
      ⟨(some 37), .bin .gtr (.t 36) (.c (.d (.int .i64 (8)))), none, []⟩,
      ⟨(some 38), .mov (.t 37), none, []⟩,
      ⟨(some 39), .mov (.t 9), (some (38, false)), []⟩,
      ⟨(some 40), .call (.c (.fn F_law05_long [])) [(.t 39)], (some (38, false)), []⟩,
      ⟨(some 41), .pick (.t 38) (.c (.d (.bool true))) (.t 40), none, []⟩,
      ⟨(some 6), .mov (.t 41), none, []⟩] false)
    (.mask ⟨[6], []⟩ (.ret)))
    (.skip)))
  (.mask ⟨[0, 1, 7, 8, 9], [.slot 9 10000090 1]⟩ (.seq (.seq (.region 8 [
    ⟨(some 10), .mov (.c (.d (.int .i64 (0)))), none, []⟩] false)
  (.block 0 (.loop mask_law05_StoreKeeps_0 body_law05_StoreKeeps_0)))
  (.mask ⟨[0, 1, 8, 9], [.slot 9 10000090 1]⟩ (.seq (.region 12 [
    ⟨(some 54), .mov (.t 8), none, []⟩,
    ⟨(some 55), .mov (.t 0), none, []⟩,
    ⟨(some 56), .mov (.t 1), none, []⟩,
    ⟨(some 57), .call (.c (.fn F_store_Store_Get [])) [(.t 54), (.t 55), (.t 56)], none, []⟩,
    ⟨(some 53), .mov (.t 57), none, []⟩,
    ⟨(some 58), .extract (.t 53) 0, none, []⟩,
    ⟨(some 59), .extract (.t 53) 1, none, []⟩,
    ⟨(some 11), .box 4 (.c (.agg [(.d (.int .i64 (0))), (.d (.int .i64 (0))), (.d (.str [])), (.d (.vs true []))])), none, []⟩,
    ⟨none, .store 4 (.t 11) (.t 58), none, []⟩,
    ⟨(some 12), .mov (.t 59), none, []⟩] false)
  (.seq (.seq (.region 13 [
    ⟨(some 60), .faddr 3 (.t 11), none, []⟩,
    ⟨(some 61), .load 1 false (.t 60), none, []⟩,
    ⟨(some 62), .mov (.t 9), none, []⟩,
    ⟨(some 63), .call (.c (.fn F_plain_Texts [])) [(.t 61), (.t 62)], none, []⟩,
    ⟨(some 64), .un .not (.t 63), none, []⟩] false)
  (.cond (.t 64)
    (.seq (.region 14 [
      ⟨(some 6), .mov (.c (.d (.bool false))), none, []⟩] false)
    (.mask ⟨[6], []⟩ (.ret)))
    (.skip)))
  (.mask ⟨[0, 1, 8, 9, 11], [.slot 9 10000090 1]⟩ (.seq (.seq (.region 15 [
    ⟨(some 13), .mov (.c (.d (.int .i64 (0)))), none, []⟩] false)
  (.block 2 (.loop mask_law05_StoreKeeps_1 body_law05_StoreKeeps_1)))
  (.mask ⟨[0, 1, 8, 9], [.slot 9 10000090 1]⟩ (.seq (.region 19 [
    ⟨(some 77), .mov (.t 8), none, []⟩,
    ⟨(some 78), .mov (.t 0), none, []⟩,
    ⟨(some 79), .mov (.t 1), none, []⟩,
    ⟨(some 80), .call (.c (.fn F_store_Store_Get [])) [(.t 77), (.t 78), (.t 79)], none, []⟩,
    ⟨(some 76), .mov (.t 80), none, []⟩,
    ⟨(some 81), .extract (.t 76) 0, none, []⟩,
    ⟨(some 82), .extract (.t 76) 1, none, []⟩,
    ⟨(some 14), .box 4 (.c (.agg [(.d (.int .i64 (0))), (.d (.int .i64 (0))), (.d (.str [])), (.d (.vs true []))])), none, []⟩,
    ⟨none, .store 4 (.t 14) (.t 81), none, []⟩,
    ⟨(some 15), .mov (.t 82), none, []⟩] false)
  (.seq (.region 20 [
    ⟨(some 83), .mov (.t 15), none, []⟩,
    ⟨(some 84), .mov (.t 83), none, []⟩,
    ⟨(some 85), .faddr 3 (.t 14), (some (84, true)), []⟩,
    ⟨(some 86), .load 1 false (.t 85), (some (84, true)), []⟩,
    ⟨(some 87), .mov (.t 9), (some (84, true)), []⟩,
    ⟨(some 88), .call (.c (.fn F_plain_Texts [])) [(.t 86), (.t 87)], (some (84, true)), []⟩,
    ⟨(some 89), .pick (.t 84) (.t 88) (.c (.d (.bool false))), none, []⟩,
    ⟨(some 6), .mov (.t 89), none, []⟩] false)
  (.mask ⟨[6], []⟩ (.ret))))))))))))))))))⟩
/-- beadle/beadlelaw05.StoreRuns -/
def code_law05_StoreRuns : AFunc := ⟨20, [.tmp 4],
  .seq (.region 0 [
    ⟨(some 4), .mov (.c (.d (.bool false))), none, []⟩] false)
  (.seq (.seq (.region 1 [
    ⟨(some 7), .call (.c (.fn F_law05_alive [])) [], none, []⟩,
    ⟨(some 8), .un .not (.t 7), none, []⟩] false)
  (.cond (.t 8)
    (.seq (.region 2 [
      ⟨(some 4), .mov (.c (.d (.bool false))), none, []⟩] false)
    (.mask ⟨[4], []⟩ (.ret)))
    (.skip)))
  (.mask ⟨[0, 1], []⟩ (.seq (.region 3 [
    ⟨(some 10), .mov (.t 0), none, []⟩,
    ⟨(some 11), .call (.c (.fn F_store_New [])) [(.t 10)], none, []⟩,
    ⟨(some 12), .mov (.t 0), none, []⟩,
    ⟨(some 13), .build [(.d (.vs true [])), (.d (.vs true []))] [(0, 1, (.t 12))], none, []⟩,
    ⟨(some 14), .mov (.t 1), none, []⟩,
    ⟨(some 15), .call (.c (.fn F_law05_few [])) [(.t 14)], none, []⟩,
    ⟨(some 16), .call (.c (.fn F_law05_run [])) [(.t 11), (.t 13), (.t 15)], none, []⟩,
    ⟨(some 9), .mov (.t 16), none, []⟩,
    ⟨(some 17), .extract (.t 9) 0, none, []⟩,
    ⟨(some 18), .extract (.t 9) 1, none, []⟩,
    ⟨(some 5), .box 2 (.c (.agg [(.d (.vs true [])), (.d (.vs true []))])), none, []⟩,
    ⟨none, .store 2 (.t 5) (.t 17), none, []⟩,
    ⟨(some 6), .mov (.t 18), none, []⟩] false)
  (.seq (.region 4 [
    ⟨(some 19), .mov (.t 6), none, []⟩,
    ⟨(some 4), .mov (.t 19), none, []⟩] false)
  (.mask ⟨[4], []⟩ (.ret))))))⟩
/-- beadle/beadlelaw05.StoreClones -/
def code_law05_StoreClones : AFunc := ⟨81, [.tmp 8],
  .seq (.region 0 [
    ⟨(some 8), .mov (.c (.d (.bool false))), none, []⟩] false)
  (.seq (.seq (.region 1 [
    ⟨(some 21), .call (.c (.fn F_law05_alive [])) [], none, []⟩,
    ⟨(some 22), .un .not (.t 21), none, []⟩] false)
  (.cond (.t 22)
    (.seq (.region 2 [
      ⟨(some 8), .mov (.c (.d (.bool false))), none, []⟩] false)
    (.mask ⟨[8], []⟩ (.ret)))
    (.skip)))
  (.mask ⟨[0, 1, 2, 3], []⟩ (.seq (.region 3 [
    ⟨(some 23), .mov (.t 0), none, []⟩,
    ⟨(some 24), .call (.c (.fn F_store_New [])) [(.t 23)], none, []⟩,
    ⟨(some 9), .mov (.t 24), none, []⟩] false)
  (.seq (.region 4 [
    ⟨(some 26), .mov (.t 9), none, []⟩,
    ⟨(some 27), .mov (.t 0), none, []⟩,
    ⟨(some 28), .build [(.d (.vs true [])), (.d (.vs true []))] [(0, 1, (.t 27))], none, []⟩,
    ⟨(some 29), .mov (.t 1), none, []⟩,
    ⟨(some 30), .call (.c (.fn F_law05_few [])) [(.t 29)], none, []⟩,
    ⟨(some 31), .call (.c (.fn F_law05_run [])) [(.t 26), (.t 28), (.t 30)], none, []⟩,
    ⟨(some 25), .mov (.t 31), none, []⟩,
    ⟨(some 32), .extract (.t 25) 0, none, []⟩,
    ⟨(some 33), .extract (.t 25) 1, none, []⟩,
    ⟨(some 10), .box 2 (.c (.agg [(.d (.vs true [])), (.d (.vs true []))])), none, []⟩,
    ⟨none, .store 2 (.t 10) (.t 32), none, []⟩,
    ⟨(some 11), .mov (.t 33), none, []⟩] false)
  (.seq (.region 5 [
    ⟨(some 34), .mov (.t 9), none, []⟩,
    ⟨(some 35), .call (.c (.fn F_store_Store_Clone [])) [(.t 34)], none, []⟩,
    ⟨(some 12), .mov (.t 35), none, []⟩] false)
  (.seq (.region 6 [
    ⟨(some 37), .mov (.t 9), none, []⟩,
    ⟨(some 38), .load 2 true (.t 10), none, []⟩,
    ⟨(some 39), .mov (.t 2), none, []⟩,
    ⟨(some 40), .call (.c (.fn F_law05_few [])) [(.t 39)], none, [2]⟩,
    ⟨(some 41), .call (.c (.fn F_law05_run [])) [(.t 37), (.t 38), (.t 40)], none, [0, 1, 2, 3]⟩,
    ⟨(some 36), .mov (.t 41), none, [0, 1, 2, 3, 4]⟩,
    ⟨(some 42), .extract (.t 36) 0, none, [0, 1, 2, 3, 4, 5]⟩,
    ⟨(some 43), .extract (.t 36) 1, none, [0, 1, 2, 3, 4, 5]⟩,
    ⟨(some 13), .box 2 (.c (.agg [(.d (.vs true [])), (.d (.vs true []))])), none, []⟩,
    ⟨none, .store 2 (.t 13) (.t 42), none, [0, 1, 2, 3, 4, 5, 6, 8]⟩,
    ⟨(some 14), .mov (.t 43), none, [0, 1, 2, 3, 4, 5, 6, 7, 8, 9]⟩] true)
  (.seq (.region 7 [
    ⟨(some 45), .mov (.t 12), none, []⟩,
    ⟨(some 46), .load 2 true (.t 10), none, []⟩,
    ⟨(some 47), .mov (.t 3), none, []⟩,
    ⟨(some 48), .call (.c (.fn F_law05_few [])) [(.t 47)], none, [2]⟩,
    ⟨(some 49), .call (.c (.fn F_law05_run [])) [(.t 45), (.t 46), (.t 48)], none, [0, 1, 2, 3]⟩,
    ⟨(some 44), .mov (.t 49), none, [0, 1, 2, 3, 4]⟩,
    ⟨(some 50), .extract (.t 44) 0, none, [0, 1, 2, 3, 4, 5]⟩,
    ⟨(some 51), .extract (.t 44) 1, none, [0, 1, 2, 3, 4, 5]⟩,
    ⟨(some 15), .box 2 (.c (.agg [(.d (.vs true [])), (.d (.vs true []))])), none, []⟩,
    ⟨none, .store 2 (.t 15) (.t 50), none, [0, 1, 2, 3, 4, 5, 6, 8]⟩,
    ⟨(some 16), .mov (.t 51), none, [0, 1, 2, 3, 4, 5, 6, 7, 8, 9]⟩] true)
  (.seq (.region 8 [
    ⟨(some 53), .mov (.t 9), none, []⟩,
    ⟨(some 54), .load 2 true (.t 13), none, []⟩,
    ⟨(some 55), .mov (.t 3), none, []⟩,
    ⟨(some 56), .call (.c (.fn F_law05_few [])) [(.t 55)], none, [2]⟩,
    ⟨(some 57), .call (.c (.fn F_law05_run [])) [(.t 53), (.t 54), (.t 56)], none, [0, 1, 2, 3]⟩,
    ⟨(some 52), .mov (.t 57), none, [0, 1, 2, 3, 4]⟩,
    ⟨(some 58), .extract (.t 52) 0, none, [0, 1, 2, 3, 4, 5]⟩,
    ⟨(some 59), .extract (.t 52) 1, none, [0, 1, 2, 3, 4, 5]⟩,
    ⟨(some 17), .box 2 (.c (.agg [(.d (.vs true [])), (.d (.vs true []))])), none, []⟩,
    ⟨none, .store 2 (.t 17) (.t 58), none, [0, 1, 2, 3, 4, 5, 6, 8]⟩,
    ⟨(some 18), .mov (.t 59), none, [0, 1, 2, 3, 4, 5, 6, 7, 8, 9]⟩] true)
  (.seq (.region 9 [
    ⟨(some 61), .mov (.t 12), none, []⟩,
    ⟨(some 62), .load 2 true (.t 15), none, []⟩,
    ⟨(some 63), .mov (.t 2), none, []⟩,
    ⟨(some 64), .call (.c (.fn F_law05_few [])) [(.t 63)], none, [2]⟩,
    ⟨(some 65), .call (.c (.fn F_law05_run [])) [(.t 61), (.t 62), (.t 64)], none, [0, 1, 2, 3]⟩,
    ⟨(some 60), .mov (.t 65), none, [0, 1, 2, 3, 4]⟩,
    ⟨(some 66), .extract (.t 60) 0, none, [0, 1, 2, 3, 4, 5]⟩,
    ⟨(some 67), .extract (.t 60) 1, none, [0, 1, 2, 3, 4, 5]⟩,
    ⟨(some 19), .box 2 (.c (.agg [(.d (.vs true [])), (.d (.vs true []))])), none, []⟩,
    ⟨none, .store 2 (.t 19) (.t 66), none, [0, 1, 2, 3, 4, 5, 6, 8]⟩,
    ⟨(some 20), .mov (.t 67), none, [0, 1, 2, 3, 4, 5, 6, 7, 8, 9]⟩] true)
  (.seq (.region 10 [
    ⟨(some 68), .mov (.t 11), none, []⟩,
    ⟨(some 69), .mov (.t 68), none, []⟩,
    ⟨(some 70), .mov (.t 14), (some (69, true)), []⟩,
    ⟨(some 71), .pick (.t 69) (.t 70) (.c (.d (.bool false))), none, []⟩,
    ⟨(some 72), .mov (.t 71), none, []⟩,
    ⟨(some 73), .mov (.t 16), (some (72, true)), []⟩,
    ⟨(some 74), .pick (.t 72) (.t 73) (.c (.d (.bool false))), none, []⟩,
    ⟨(some 75), .mov (.t 74), none, []⟩,
    ⟨(some 76), .mov (.t 18), (some (75, true)), []⟩,
    ⟨(some 77), .pick (.t 75) (.t 76) (.c (.d (.bool false))), none, []⟩,
    ⟨(some 78), .mov (.t 77), none, []⟩,
    ⟨(some 79), .mov (.t 20), (some (78, true)), []⟩,
    ⟨(some 80), .pick (.t 78) (.t 79) (.c (.d (.bool false))), none, []⟩,
    ⟨(some 8), .mov (.t 80), none, []⟩] false)
  (.mask ⟨[8], []⟩ (.ret))))))))))))⟩
/-- beadle/beadlelaw05.StoreNobody -/
def code_law05_StoreNobody : AFunc := ⟨107, [.tmp 6],
  .seq (.region 0 [
    ⟨(some 5), .box 4 (.t 2), none, []⟩,
    ⟨(some 6), .mov (.c (.d (.bool false))), none, []⟩] false)
  (.seq (.seq (.region 1 [
    ⟨(some 13), .call (.c (.fn F_law05_alive [])) [], none, []⟩,
    ⟨(some 14), .un .not (.t 13), none, []⟩] false)
  (.cond (.t 14)
    (.seq (.region 2 [
      ⟨(some 6), .mov (.c (.d (.bool false))), none, []⟩] false)
    (.mask ⟨[6], []⟩ (.ret)))
    (.skip)))
  (.mask ⟨[0, 1, 5], []⟩ (.seq (.region 3 [
    ⟨(some 7), .mov (.c (.d .nilp)), none, []⟩] false)
  (.seq (.region 4 [
    ⟨(some 15), .build [(.d .nilm), (.d .nilm)] [], none, []⟩,
    ⟨(some 16), .box 2 (.t 15), none, []⟩,
    ⟨(some 8), .mov (.t 16), none, []⟩] false)
  (.seq (.region 5 [
    ⟨(some 18), .mov (.t 7), none, []⟩,
    ⟨(some 19), .mov (.t 0), none, []⟩,
    ⟨(some 20), .mov (.t 1), none, []⟩,
    ⟨(some 21), .call (.c (.fn F_store_Store_Get [])) [(.t 18), (.t 19), (.t 20)], none, []⟩,
    ⟨(some 17), .mov (.t 21), none, []⟩,
    ⟨(some 22), .extract (.t 17) 0, none, []⟩,
    ⟨(some 23), .extract (.t 17) 1, none, []⟩,
    ⟨(some 9), .box 4 (.c (.agg [(.d (.int .i64 (0))), (.d (.int .i64 (0))), (.d (.str [])), (.d (.vs true []))])), none, []⟩,
    ⟨none, .store 4 (.t 9) (.t 22), none, []⟩,
    ⟨(some 10), .mov (.t 23), none, []⟩] false)
  (.seq (.region 6 [
    ⟨(some 25), .mov (.t 8), none, []⟩,
    ⟨(some 26), .mov (.t 0), none, []⟩,
    ⟨(some 27), .mov (.t 1), none, []⟩,
    ⟨(some 28), .call (.c (.fn F_store_Store_Get [])) [(.t 25), (.t 26), (.t 27)], none, []⟩,
    ⟨(some 24), .mov (.t 28), none, []⟩,
    ⟨(some 29), .extract (.t 24) 0, none, []⟩,
    ⟨(some 30), .extract (.t 24) 1, none, []⟩,
    ⟨(some 11), .box 4 (.c (.agg [(.d (.int .i64 (0))), (.d (.int .i64 (0))), (.d (.str [])), (.d (.vs true []))])), none, []⟩,
    ⟨none, .store 4 (.t 11) (.t 29), none, []⟩,
    ⟨(some 12), .mov (.t 30), none, []⟩] false)
  (.seq (.seq (.region 7 [
    ⟨(some 31), .mov (.t 10), none, []⟩,
    ⟨(some 32), .mov (.t 31), none, []⟩,
    ⟨(some 33), .mov (.t 12), (some (32, false)), []⟩,
    ⟨(some 34), .pick (.t 32) (.c (.d (.bool true))) (.t 33), none, []⟩,
    ⟨(some 35), .mov (.t 34), none, []⟩,
    ⟨(some 36), .load 4 true (.t 9), (some (35, false)), []⟩,
    ⟨(some 37), .build [(.d (.int .i64 (0))), (.d (.int .i64 (0))), (.d (.str [])), (.d (.vs true []))] [], (some (35, false)), []⟩,
    ⟨(some 38), .call (.c (.fn F_plain_Value [])) [(.t 36), (.t 37)], (some (35, false)), []⟩,
    ⟨(some 39), .un .not (.t 38), (some (35, false)), []⟩,
    ⟨(some 40), .pick (.t 35) (.c (.d (.bool true))) (.t 39), none, []⟩,
    ⟨(some 41), .mov (.t 40), none, []⟩,
    ⟨(some 42), .load 4 true (.t 11), (some (41, false)), []⟩,
    ⟨(some 43), .build [(.d (.int .i64 (0))), (.d (.int .i64 (0))), (.d (.str [])), (.d (.vs true []))] [], (some (41, false)), []⟩,
    ⟨(some 44), .call (.c (.fn F_plain_Value [])) [(.t 42), (.t 43)], (some (41, false)), []⟩,
    ⟨(some 45), .un .not (.t 44), (some (41, false)), []⟩,
    ⟨(some 46), .pick (.t 41) (.c (.d (.bool true))) (.t 45), none, []⟩] false)
  (.mask ⟨[0, 1, 5, 7, 8, 46], []⟩ (.cond (.t 46)
    (.seq (.region 8 [
      ⟨(some 6), .mov (.c (.d (.bool false))), none, []⟩] false)
    (.mask ⟨[6], []⟩ (.ret)))
    (.skip))))
  (.mask ⟨[0, 1, 5, 7, 8], []⟩ (.seq (.region 9 [
    ⟨(some 47), .mov (.t 7), none, []⟩,
    ⟨(some 48), .mov (.t 0), none, []⟩,
    ⟨(some 49), .mov (.t 1), none, []⟩,
    ⟨(some 50), .load 4 true (.t 5), none, []⟩,
    ⟨(some 51), .call (.c (.fn F_store_Store_Set [])) [(.t 47), (.t 48), (.t 49), (.t 50)], none, []⟩,
    ⟨(some 52), .bin .eql (.t 51) (.c (.d (.int .i64 (9)))), none, []⟩,
    ⟨(some 53), .mov (.t 52), none, []⟩,
    ⟨(some 54), .mov (.t 8), (some (53, true)), []⟩,
    ⟨(some 55), .mov (.t 0), (some (53, true)), []⟩,
    ⟨(some 56), .mov (.t 1), (some (53, true)), []⟩,
    ⟨(some 57), .load 4 true (.t 5), (some (53, true)), []⟩,
    ⟨(some 58), .call (.c (.fn F_store_Store_Set [])) [(.t 54), (.t 55), (.t 56), (.t 57)], (some (53, true)), []⟩,
    ⟨(some 59), .bin .eql (.t 58) (.c (.d (.int .i64 (9)))), (some (53, true)), []⟩,
    ⟨(some 60), .pick (.t 53) (.t 59) (.c (.d (.bool false))), none, []⟩,
    ⟨(some 61), .mov (.t 60), none, []⟩,
    ⟨(some 62), .mov (.t 7), (some (61, true)), []⟩,
    ⟨(some 63), .call (.c (.fn F_store_Store_Clone [])) [(.t 62)], (some (61, true)), []⟩,
    ⟨(some 64), .isnil .p false (.t 63), (some (61, true)), []⟩,
    ⟨(some 65), .pick (.t 61) (.t 64) (.c (.d (.bool false))), none, []⟩,
    ⟨(some 66), .mov (.t 65), none, []⟩,
    ⟨(some 67), .mov (.t 8), (some (66, true)), []⟩,
    ⟨(some 68), .call (.c (.fn F_store_Store_Clone [])) [(.t 67)], (some (66, true)), []⟩,
    ⟨(some 69), .isnil .p false (.t 68), (some (66, true)), []⟩,
    ⟨(some 70), .pick (.t 66) (.t 69) (.c (.d (.bool false))), none, []⟩,
    ⟨(some 71), .mov (.t 70), none, []⟩,
    ⟨(some 72), .mov (.t 7), (some (71, true)), []⟩,
    ⟨(some 73), .call (.c (.fn F_store_Store_Count [])) [(.t 72)], (some (71, true)), []⟩,
    ⟨(some 74), .bin .eql (.t 73) (.c (.d (.int .i64 (0)))), (some (71, true)), []⟩,
    ⟨(some 75), .pick (.t 71) (.t 74) (.c (.d (.bool false))), none, []⟩,
    ⟨(some 76), .mov (.t 75), none, []⟩,
    ⟨(some 77), .mov (.t 8), (some (76, true)), []⟩,
    ⟨(some 78), .call (.c (.fn F_store_Store_Count [])) [(.t 77)], (some (76, true)), []⟩,
    ⟨(some 79), .bin .eql (.t 78) (.c (.d (.int .i64 (0)))), (some (76, true)), []⟩,
    ⟨(some 80), .pick (.t 76) (.t 79) (.c (.d (.bool false))), none, []⟩,
    ⟨(some 81), .mov (.t 80), none, []⟩,
    ⟨(some 82), .mov (.t 7), (some (81, true)), []⟩,
    ⟨(some 83), .mov (.t 0), (some (81, true)), []⟩,
    ⟨(some 84), .call (.c (.fn F_store_Store_Names [])) [(.t 82), (.t 83)], (some (81, true)), []⟩,
    ⟨(some 85), .len .sl (.t 84), (some (81, true)), []⟩,
    ⟨(some 86), .bin .eql (.t 85) (.c (.d (.int .i64 (0)))), (some (81, true)), []⟩,
    ⟨(some 87), .pick (.t 81) (.t 86) (.c (.d (.bool false))), none, []⟩,
    ⟨(some 88), .mov (.t 87), none, []⟩,
    ⟨(some 89), .mov (.t 8), (some (88, true)), []⟩,
    ⟨(some 90), .mov (.t 0), (some (88, true)), []⟩,
    ⟨(some 91), .call (.c (.fn F_store_Store_Names [])) [(.t 89), (.t 90)], (some (88, true)), []⟩,
    ⟨(some 92), .len .sl (.t 91), (some (88, true)), []⟩,
    ⟨(some 93), .bin .eql (.t 92) (.c (.d (.int .i64 (0)))), (some (88, true)), []⟩,
    ⟨(some 94), .pick (.t 88) (.t 93) (.c (.d (.bool false))), none, []⟩,
    ⟨(some 95), .mov (.t 94), none, []⟩,
    ⟨(some 96), .mov (.t 7), (some (95, true)), []⟩,
    ⟨(some 97), .mov (.t 1), (some (95, true)), []⟩,
    ⟨(some 98), .call (.c (.fn F_store_Store_Kind [])) [(.t 96), (.t 97)], (some (95, true)), []⟩,
    ⟨(some 99), .bin .eql (.t 98) (.c (.d (.int .i64 (0)))), (some (95, true)), []⟩,
    ⟨(some 100), .pick (.t 95) (.t 99) (.c (.d (.bool false))), none, []⟩,
    ⟨(some 101), .mov (.t 100), none, []⟩,
    ⟨(some 102), .mov (.t 8), (some (101, true)), []⟩,
    ⟨(some 103), .mov (.t 1), (some (101, true)), []⟩,
    ⟨(some 104), .call (.c (.fn F_store_Store_Kind [])) [(.t 102), (.t 103)], (some (101, true)), []⟩,
    ⟨(some 105), .bin .eql (.t 104) (.c (.d (.int .i64 (0)))), (some (101, true)), []⟩,
    ⟨(some 106), .pick (.t 101) (.t 105) (.c (.d (.bool false))), none, []⟩,
    ⟨(some 6), .mov (.t 106), none, []⟩] false)
  (.mask ⟨[6], []⟩ (.ret)))))))))))⟩
/-- beadle/beadlelaw05.alive -/
def code_law05_alive : AFunc := ⟨51, [.tmp 0],
  .seq (.region 0 [
    ⟨(some 0), .mov (.c (.d (.bool false))), none, []⟩] false)
  (.seq (.region 1 [
    ⟨(some 7), .build [(.d (.str [])), (.d (.int .i64 (0)))] [(0, 1, (.c (.d (.str [110])))), (1, 1, (.c (.d (.int .i64 (1)))))], none, []⟩,
    ⟨(some 8), .buildSl 2 [(.str []), (.int .i64 (0))] 1 [(0, (.t 7))], none, []⟩,
    ⟨(some 9), .call (.c (.fn F_store_New [])) [(.t 8)], none, []⟩,
    ⟨(some 1), .mov (.t 9), none, []⟩] false)
  (.seq (.region 2 [
    ⟨(some 10), .mov (.t 1), none, []⟩,
    ⟨(some 11), .build [(.d (.int .i64 (0))), (.d (.int .i64 (0))), (.d (.str [])), (.d (.vs true []))] [(0, 1, (.c (.d (.int .i64 (1))))), (1, 1, (.c (.d (.int .i64 (3)))))], none, []⟩,
    ⟨(some 12), .call (.c (.fn F_store_Store_Set [])) [(.t 10), (.c (.d (.str [120]))), (.c (.d (.str [110]))), (.t 11)], none, []⟩,
    ⟨(some 2), .mov (.t 12), none, []⟩] false)
  (.seq (.region 3 [
    ⟨(some 14), .mov (.t 1), none, []⟩,
    ⟨(some 15), .call (.c (.fn F_store_Store_Get [])) [(.t 14), (.c (.d (.str [120]))), (.c (.d (.str [110])))], none, []⟩,
    ⟨(some 13), .mov (.t 15), none, []⟩,
    ⟨(some 16), .extract (.t 13) 0, none, []⟩,
    ⟨(some 17), .extract (.t 13) 1, none, []⟩,
    ⟨(some 3), .box 4 (.c (.agg [(.d (.int .i64 (0))), (.d (.int .i64 (0))), (.d (.str [])), (.d (.vs true []))])), none, []⟩,
    ⟨none, .store 4 (.t 3) (.t 16), none, []⟩,
    ⟨(some 4), .mov (.t 17), none, []⟩] false)
  (.seq (.region 4 [
    ⟨(some 19), .mov (.t 1), none, []⟩,
    ⟨(some 20), .call (.c (.fn F_store_Store_Get [])) [(.t 19), (.c (.d (.str [121]))), (.c (.d (.str [110])))], none, []⟩,
    ⟨(some 18), .mov (.t 20), none, []⟩,
    ⟨(some 21), .extract (.t 18) 0, none, []⟩,
    ⟨(some 22), .extract (.t 18) 1, none, []⟩,
    ⟨(some 5), .box 4 (.c (.agg [(.d (.int .i64 (0))), (.d (.int .i64 (0))), (.d (.str [])), (.d (.vs true []))])), none, []⟩,
    ⟨none, .store 4 (.t 5) (.t 21), none, []⟩,
    ⟨(some 6), .mov (.t 22), none, []⟩] false)
  (.seq (.region 5 [
    ⟨(some 23), .mov (.t 2), none, []⟩,
    ⟨(some 24), .bin .eql (.t 23) (.c (.d (.int .i64 (0)))), none, []⟩,
    ⟨(some 25), .mov (.t 24), none, []⟩,
    ⟨(some 26), .mov (.t 4), (some (25, true)), []⟩,
    ⟨(some 27), .pick (.t 25) (.t 26) (.c (.d (.bool false))), none, []⟩,
    ⟨(some 28), .mov (.t 27), none, []⟩,
    ⟨(some 29), .faddr 1 (.t 3), (some (28, true)), []⟩,
    ⟨(some 30), .load 1 false (.t 29), (some (28, true)), []⟩,
    ⟨(some 31), .bin .eql (.t 30) (.c (.d (.int .i64 (3)))), (some (28, true)), []⟩,
    ⟨(some 32), .pick (.t 28) (.t 31) (.c (.d (.bool false))), none, []⟩,
    ⟨(some 33), .mov (.t 32), none, []⟩,
    ⟨(some 34), .mov (.t 6), (some (33, true)), []⟩,
    ⟨(some 35), .pick (.t 33) (.t 34) (.c (.d (.bool false))), none, []⟩,
    ⟨(some 36), .mov (.t 35), none, []⟩,
    ⟨(some 37), .faddr 0 (.t 5), (some (36, true)), []⟩,
    ⟨(some 38), .load 1 false (.t 37), (some (36, true)), []⟩,
    ⟨(some 39), .bin .eql (.t 38) (.c (.d (.int .i64 (1)))), (some (36, true)), []⟩,
    ⟨(some 40), .pick (.t 36) (.t 39) (.c (.d (.bool false))), none, []⟩,
    ⟨(some 41), .mov (.t 40), none, []⟩,
    ⟨(some 42), .faddr 1 (.t 5), (some (41, true)), []⟩,
    ⟨(some 43), .load 1 false (.t 42), (some (41, true)), []⟩,
    ⟨(some 44), .bin .eql (.t 43) (.c (.d (.int .i64 (0)))), (some (41, true)), []⟩,
    ⟨(some 45), .pick (.t 41) (.t 44) (.c (.d (.bool false))), none, []⟩,
    ⟨(some 46), .mov (.t 45), none, []⟩,
    ⟨(some 47), .mov (.t 1), (some (46, true)), []⟩,
    ⟨(some 48), .call (.c (.fn F_store_Store_Count [])) [(.t 47)], (some (46, true)), []⟩,
    ⟨(some 49), .bin .eql (.t 48) (.c (.d (.int .i64 (1)))), (some (46, true)), []⟩,
    ⟨(some 50), .pick (.t 46) (.t 49) (.c (.d (.bool false))), none, []⟩,
    ⟨(some 0), .mov (.t 50), none, []⟩] false)
  (.mask ⟨[0], []⟩ (.ret)))))))⟩
def mask_plain_Rising_0 : Mask := ⟨[0, 3, 4, 5], [.slot 3 10000030 1]⟩
def body_plain_Rising_0 : ACode :=
  .seq (.seq (.region 7 [
    ⟨(some 19), .mov (.t 5), none, []⟩,
    ⟨(some 20), .mov (.t 3), none, []⟩,
    ⟨(some 21), .len .sl (.t 20), none, [1]⟩,
    ⟨(some 22), .bin .lss (.t 19) (.t 21), none, [0, 1, 2]⟩,
    ⟨(some 23), .mov (.t 22), none, [0, 1, 2, 3]⟩,
    ⟨(some 24), .mov (.t 3), (some (23, true)), [0, 1, 2, 3, 4]⟩,
    ⟨(some 25), .mov (.t 5), (some (23, true)), [0, 1, 2, 3, 4]⟩,
    ⟨(some 26), .iaddr 1 (.t 24) (.t 25), (some (23, true)), [0, 1, 2, 3, 4, 5, 6]⟩,
    ⟨(some 27), .load 1 false (.t 26), (some (23, true)), [0, 1, 2, 3, 4, 5, 6, 7]⟩,
    ⟨(some 28), .mov (.t 0), (some (23, true)), [0, 1, 2, 3, 4]⟩,
    ⟨(some 29), .mov (.t 4), (some (23, true)), [0, 1, 2, 3, 4]⟩,
    ⟨(some 30), .iaddr 1 (.t 28) (.t 29), (some (23, true)), [0, 1, 2, 3, 4, 9, 10]⟩,
    ⟨(some 31), .load 1 false (.t 30), (some (23, true)), [0, 1, 2, 3, 4, 9, 10, 11]⟩,
    ⟨(some 32), .bin .lss (.t 27) (.t 31), (some (23, true)), [0, 1, 2, 3, 4, 5, 6, 7, 8, 9, 10, 11, 12]⟩,
    ⟨(some 33), .pick (.t 23) (.t 32) (.c (.d (.bool false))), none, [0, 1, 2, 3, 4, 5, 6, 7, 8, 9, 10, 11, 12, 13]⟩] true)
  (.mask ⟨[0, 3, 4, 5, 33], [.slot 3 10000030 1]⟩ (.cond (.t 33)
    (.skip)
    (.mask ⟨[0, 3, 4, 5], [.slot 3 10000030 1]⟩ (.exit 2)))))
  (.mask ⟨[0, 3, 4, 5], [.slot 3 10000030 1]⟩ (.block 3 (.region 8 [
    ⟨(some 34), .mov (.t 5), none, []⟩,
    ⟨(some 35), .bin .add (.t 34) (.c (.d (.int .i64 (1)))), none, []⟩,
    ⟨(some 5), .mov (.t 35), none, []⟩] false)))
def mask_plain_Rising_1 : Mask := ⟨[0, 3, 4], [.slot 3 10000030 1]⟩
def body_plain_Rising_1 : ACode :=
  .seq (.seq (.region 3 [
    ⟨(some 7), .mov (.t 4), none, []⟩,
    ⟨(some 8), .mov (.t 0), none, []⟩,
    ⟨(some 9), .len .sl (.t 8), none, []⟩,
    ⟨(some 10), .bin .lss (.t 7) (.t 9), none, []⟩] false)
  (.cond (.t 10)
    (.skip)
    (.mask ⟨[3], [.slot 3 10000030 1]⟩ (.exit 0))))
  (.mask ⟨[0, 3, 4], [.slot 3 10000030 1]⟩ (.seq (.block 1 (.seq (.seq (.region 5 [
    ⟨(some 13), .mov (.t 3), none, []⟩,
    ⟨(some 14), .mov (.t 0), none, []⟩,
    ⟨(some 15), .mov (.t 4), none, []⟩,
    ⟨(some 16), .iaddr 1 (.t 14) (.t 15), none, []⟩,
    ⟨(some 17), .load 1 false (.t 16), none, []⟩,
    ⟨(some 18), .call (.c (.fn F_plain_In [])) [(.t 13), (.t 17)], none, []⟩] false)
  (.cond (.t 18)
    (.mask ⟨[0, 3, 4], [.slot 3 10000030 1]⟩ (.exit 1))
    (.skip)))
  (.mask ⟨[0, 3, 4], [.slot 3 10000030 1]⟩ (.seq (.region 6 [
    ⟨(some 5), .mov (.c (.d (.int .i64 (0)))), none, []⟩] false)
  (.seq (.block 2 (.loop mask_plain_Rising_0 body_plain_Rising_0))
  (.mask ⟨[0, 3, 4, 5], [.slot 3 10000030 1]⟩ (.seq (.region 9 [
    ⟨(some 6), .mov (.c (.d (.vs true []))), none, []⟩] false)
  (.seq (.region 10 [
    ⟨(some 36), .mov (.t 6), none, []⟩,
    ⟨(some 37), .mov (.t 3), none, []⟩,
    ⟨(some 38), .mov (.t 5), none, []⟩,
    ⟨(some 39), .slice 1 (.t 37) none (some (.t 38)) none, none, []⟩,
    ⟨(some 40), .append 1 (.t 36) (.t 39), none, []⟩,
    ⟨(some 6), .mov (.t 40), none, []⟩] false)
  (.seq (.region 11 [
    ⟨(some 41), .mov (.t 6), none, []⟩,
    ⟨(some 42), .mov (.t 0), none, []⟩,
    ⟨(some 43), .mov (.t 4), none, []⟩,
    ⟨(some 44), .iaddr 1 (.t 42) (.t 43), none, []⟩,
    ⟨(some 45), .load 1 false (.t 44), none, []⟩,
    ⟨(some 46), .buildSl 1 [(.str [])] 1 [(0, (.t 45))], none, []⟩,
    ⟨(some 47), .append 1 (.t 41) (.t 46), none, []⟩,
    ⟨(some 6), .mov (.t 47), none, []⟩] false)
  (.seq (.region 12 [
    ⟨(some 48), .mov (.t 6), none, []⟩,
    ⟨(some 49), .mov (.t 3), none, []⟩,
    ⟨(some 50), .mov (.t 5), none, []⟩,
    ⟨(some 51), .slice 1 (.t 49) (some (.t 50)) none none, none, []⟩,
    ⟨(some 52), .append 1 (.t 48) (.t 51), none, []⟩,
    ⟨(some 6), .mov (.t 52), none, []⟩] false)
  (.region 13 [
    ⟨(some 53), .mov (.t 6), none, []⟩,
    ⟨(some 3), .mov (.t 53), none, []⟩] false)))))))))))
  (.mask ⟨[0, 3, 4], [.slot 3 10000030 1]⟩ (.region 4 [
    ⟨(some 11), .mov (.t 4), none, []⟩,
    ⟨(some 12), .bin .add (.t 11) (.c (.d (.int .i64 (1)))), none, []⟩,
    ⟨(some 4), .mov (.t 12), none, []⟩] false))))
/-- beadle/beadleplain.Rising -/
def code_plain_Rising : AFunc := ⟨55, [.tmp 2],
  .seq (.region 0 [
    ⟨(some 2), .mov (.c (.d (.vs true []))), none, []⟩] false)
  (.seq (.region 1 [
    ⟨(some 3), .mov (.c (.d (.vs true []))), none, []⟩] false)
  (.seq (.seq (.region 2 [
    ⟨(some 4), .mov (.c (.d (.int .i64 (0)))), none, []⟩] false)
  (.block 0 (.loop mask_plain_Rising_1 body_plain_Rising_1)))
  (.mask ⟨[3], [.slot 3 10000030 1]⟩ (.seq (.region 14 [
    ⟨(some 54), .mov (.t 3), none, []⟩,
    ⟨(some 2), .mov (.t 54), none, []⟩] false)
  (.mask ⟨[2], [.slot 2 10000020 1]⟩ (.ret))))))⟩
def mask_store_New_0 : Mask := ⟨[3, 12, 13, 14], []⟩
def body_store_New_0 : ACode :=
  .seq (.region 3 [
    ⟨(some 15), .bin .lss (.t 14) (.t 13), none, []⟩] false)
  (.seq (.cond (.t 15)
    (.skip)
    (.mask ⟨[3], []⟩ (.exit 0)))
  (.mask ⟨[3, 12, 13, 14], []⟩ (.seq (.block 1 (.seq (.region 4 [
    ⟨(some 16), .iaddr 2 (.t 12) (.t 14), none, []⟩,
    ⟨(some 17), .load 2 true (.t 16), none, []⟩,
    ⟨(some 5), .box 2 (.c (.agg [(.d (.str [])), (.d (.int .i64 (0)))])), none, []⟩,
    ⟨none, .store 2 (.t 5) (.t 17), none, []⟩] false)
  (.seq (.region 5 [
    ⟨(some 19), .mov (.t 3), none, []⟩,
    ⟨(some 20), .nilchk (.t 19), none, [0]⟩,
    ⟨(some 21), .faddr 0 (.t 20), none, [0, 1]⟩,
    ⟨(some 22), .load 1 false (.t 21), none, [0, 1, 2]⟩,
    ⟨(some 23), .faddr 0 (.t 5), none, []⟩,
    ⟨(some 24), .load 1 false (.t 23), none, [4]⟩,
    ⟨(some 25), .lookup false [.str] (.d (.int .i64 (0))) (.t 22) (.t 24) true, none, [0, 1, 2, 3, 4, 5]⟩,
    ⟨(some 18), .mov (.t 25), none, [0, 1, 2, 3, 4, 5, 6]⟩,
    ⟨(some 26), .extract (.t 18) 0, none, [0, 1, 2, 3, 4, 5, 6, 7]⟩,
    ⟨(some 27), .extract (.t 18) 1, none, [0, 1, 2, 3, 4, 5, 6, 7]⟩,
    ⟨(some 6), .mov (.t 26), none, [0, 1, 2, 3, 4, 5, 6, 7, 8]⟩,
    ⟨(some 7), .mov (.t 27), none, [0, 1, 2, 3, 4, 5, 6, 7, 8, 9, 10]⟩] true)
  (.seq (.region 6 [
    ⟨(some 28), .mov (.t 7), none, []⟩,
    ⟨(some 29), .un .not (.t 28), none, []⟩,
    ⟨(some 30), .mov (.t 29), none, []⟩,
    ⟨(some 31), .faddr 1 (.t 5), (some (30, true)), []⟩,
    ⟨(some 32), .load 1 false (.t 31), (some (30, true)), []⟩,
    ⟨(some 33), .bin .geq (.t 32) (.c (.d (.int .i64 (1)))), (some (30, true)), []⟩,
    ⟨(some 34), .pick (.t 30) (.t 33) (.c (.d (.bool false))), none, []⟩,
    ⟨(some 35), .mov (.t 34), none, []⟩,
    ⟨(some 36), .faddr 1 (.t 5), (some (35, true)), []⟩,
    ⟨(some 37), .load 1 false (.t 36), (some (35, true)), []⟩,
    ⟨(some 38), .bin .leq (.t 37) (.c (.d (.int .i64 (4)))), (some (35, true)), []⟩,
    ⟨(some 39), .pick (.t 35) (.t 38) (.c (.d (.bool false))), none, []⟩] false)
  (.mask ⟨[3, 5, 12, 13, 14, 39], []⟩ (.cond (.t 39)
    (.region 7 [
      ⟨(some 40), .mov (.t 3), none, []⟩,
      ⟨(some 41), .nilchk (.t 40), none, [0]⟩,
      ⟨(some 42), .faddr 0 (.t 41), none, [0, 1]⟩,
      ⟨(some 43), .load 1 false (.t 42), none, [0, 1, 2]⟩,
      ⟨(some 44), .faddr 0 (.t 5), none, []⟩,
      ⟨(some 45), .load 1 false (.t 44), none, [4]⟩,
      ⟨(some 46), .faddr 1 (.t 5), none, []⟩,
      ⟨(some 47), .load 1 false (.t 46), none, [6]⟩,
      ⟨none, .mapupd false [.str] (.t 43) (.t 45) (.t 47), none, [0, 1, 2, 3, 4, 5, 6, 7]⟩] true)
    (.skip)))))))
  (.mask ⟨[3, 12, 13, 14], []⟩ (.region 8 [
    ⟨(some 48), .bin .add (.t 14) (.c (.d (.int .i64 (1)))), none, []⟩,
    ⟨(some 14), .mov (.t 48), none, []⟩] false)))))
/-- beadle/store.New -/
def code_store_New : AFunc := ⟨50, [.tmp 2],
  .seq (.region 0 [
    ⟨(some 2), .mov (.c (.d .nilp)), none, []⟩] false)
  (.seq (.region 1 [
    ⟨(some 8), .mkmap false [.str], none, []⟩,
    ⟨(some 9), .mkmap true [.str, .str], none, []⟩,
    ⟨(some 10), .build [(.d .nilm), (.d .nilm)] [(0, 1, (.t 8)), (1, 1, (.t 9))], none, []⟩,
    ⟨(some 11), .box 2 (.t 10), none, []⟩,
    ⟨(some 3), .mov (.t 11), none, []⟩] false)
  (.seq (.seq (.region 2 [
    ⟨(some 12), .mov (.t 0), none, []⟩,
    ⟨(some 13), .len .sl (.t 12), none, []⟩,
    ⟨(some 14), .mov (.c (.d (.int .i64 (0)))), none, []⟩] false)
  (.block 0 (.loop mask_store_New_0 body_store_New_0)))
  (.mask ⟨[3], []⟩ (.seq (.region 9 [
    ⟨(some 49), .mov (.t 3), none, []⟩,
    ⟨(some 2), .mov (.t 49), none, []⟩] false)
  (.mask ⟨[2], []⟩ (.ret))))))⟩
/-- (*beadle/store.Store).Set -/
def code_store_Store_Set : AFunc := ⟨40, [.tmp 8],
  .seq (.region 0 [
    ⟨(some 7), .box 4 (.t 3), none, []⟩,
    ⟨(some 8), .mov (.c (.d (.int .i64 (0)))), none, []⟩] false)
  (.seq (.seq (.region 1 [
    ⟨(some 11), .mov (.t 0), none, []⟩,
    ⟨(some 12), .mov (.t 2), none, []⟩,
    ⟨(some 13), .call (.c (.fn F_store_Store_Kind [])) [(.t 11), (.t 12)], none, []⟩,
    ⟨(some 9), .mov (.t 13), none, []⟩] false)
  (.block 0 (.seq (.region 2 [
    ⟨(some 15), .mov (.t 0), none, []⟩,
    ⟨(some 16), .call (.c (.fn F_store_Store_is [])) [(.t 15)], none, []⟩,
    ⟨(some 17), .un .not (.t 16), none, []⟩,
    ⟨(some 14), .mov (.t 17), none, []⟩] false)
  (.cond (.t 14)
    (.seq (.region 3 [
      ⟨(some 8), .mov (.c (.d (.int .i64 (9)))), none, []⟩] false)
    (.mask ⟨[8], []⟩ (.ret)))
    (.seq (.region 4 [
      ⟨(some 19), .mov (.t 9), none, []⟩,
      ⟨(some 20), .bin .eql (.t 19) (.c (.d (.int .i64 (0)))), none, []⟩,
      ⟨(some 18), .mov (.t 20), none, []⟩] false)
    (.cond (.t 18)
      (.seq (.region 5 [
        ⟨(some 8), .mov (.c (.d (.int .i64 (14)))), none, []⟩] false)
      (.mask ⟨[8], []⟩ (.ret)))
      (.seq (.region 6 [
        ⟨(some 22), .mov (.t 9), none, []⟩,
        ⟨(some 23), .faddr 0 (.t 7), none, []⟩,
        ⟨(some 24), .load 1 false (.t 23), none, []⟩,
        ⟨(some 25), .bin .neq (.t 22) (.t 24), none, []⟩,
        ⟨(some 21), .mov (.t 25), none, []⟩] false)
      (.cond (.t 21)
        (.seq (.region 7 [
          ⟨(some 8), .mov (.c (.d (.int .i64 (31)))), none, []⟩] false)
        (.mask ⟨[8], []⟩ (.ret)))
        (.skip)))))))))
  (.mask ⟨[0, 1, 2, 7], []⟩ (.seq (.seq (.region 8 [
    ⟨(some 26), .load 4 true (.t 7), none, []⟩,
    ⟨(some 27), .call (.c (.fn F_value_Check [])) [(.t 26)], none, []⟩,
    ⟨(some 10), .mov (.t 27), none, []⟩] false)
  (.seq (.region 9 [
    ⟨(some 28), .mov (.t 10), none, []⟩,
    ⟨(some 29), .bin .neq (.t 28) (.c (.d (.int .i64 (0)))), none, []⟩] false)
  (.cond (.t 29)
    (.seq (.region 10 [
      ⟨(some 30), .mov (.t 10), none, []⟩,
      ⟨(some 8), .mov (.t 30), none, []⟩] false)
    (.mask ⟨[8], []⟩ (.ret)))
    (.skip))))
  (.mask ⟨[0, 1, 2, 7], []⟩ (.seq (.region 11 [
    ⟨(some 31), .mov (.t 0), none, []⟩,
    ⟨(some 32), .nilchk (.t 31), none, [0]⟩,
    ⟨(some 33), .faddr 1 (.t 32), none, [0, 1]⟩,
    ⟨(some 34), .load 1 false (.t 33), none, [0, 1, 2]⟩,
    ⟨(some 35), .mov (.t 1), none, []⟩,
    ⟨(some 36), .mov (.t 2), none, []⟩,
    ⟨(some 37), .build [(.d (.str [])), (.d (.str []))] [(0, 1, (.t 35)), (1, 1, (.t 36))], none, [4, 5]⟩,
    ⟨(some 38), .load 4 true (.t 7), none, []⟩,
    ⟨(some 39), .call (.c (.fn F_store_own [])) [(.t 38)], none, [7]⟩,
    ⟨none, .mapupd true [.str, .str] (.t 34) (.t 37) (.t 39), none, [0, 1, 2, 3, 4, 5, 6, 7, 8]⟩] true)
  (.seq (.region 12 [
    ⟨(some 8), .mov (.c (.d (.int .i64 (0)))), none, []⟩] false)
  (.mask ⟨[8], []⟩ (.ret))))))))⟩
def mask_law05_long_0 : Mask := ⟨[0, 3], []⟩
def body_law05_long_0 : ACode :=
  .seq (.seq (.region 2 [
    ⟨(some 4), .mov (.t 3), none, []⟩,
    ⟨(some 5), .mov (.t 0), none, []⟩,
    ⟨(some 6), .len .sl (.t 5), none, []⟩,
    ⟨(some 7), .bin .lss (.t 4) (.t 6), none, []⟩] false)
  (.cond (.t 7)
    (.skip)
    (.mask ⟨[], []⟩ (.exit 0))))
  (.mask ⟨[0, 3], []⟩ (.seq (.block 1 (.seq (.region 4 [
    ⟨(some 10), .mov (.t 0), none, []⟩,
    ⟨(some 11), .mov (.t 3), none, []⟩,
    ⟨(some 12), .iaddr 1 (.t 10) (.t 11), none, []⟩,
    ⟨(some 13), .load 1 false (.t 12), none, []⟩,
    ⟨(some 14), .len .str (.t 13), none, []⟩,
    ⟨(some 15), .bin .gtr (.t 14) (.c (.d (.int .i64 (32)))), none, []⟩] false)
  (.cond (.t 15)
    (.seq (.region 5 [
      ⟨(some 2), .mov (.c (.d (.bool true))), none, []⟩] false)
    (.mask ⟨[2], []⟩ (.ret)))
    (.skip))))
  (.mask ⟨[0, 3], []⟩ (.region 3 [
    ⟨(some 8), .mov (.t 3), none, []⟩,
    ⟨(some 9), .bin .add (.t 8) (.c (.d (.int .i64 (1)))), none, []⟩,
    ⟨(some 3), .mov (.t 9), none, []⟩] false))))
/-- beadle/beadlelaw05.long -/
def code_law05_long : AFunc := ⟨16, [.tmp 2],
  .seq (.region 0 [
    ⟨(some 2), .mov (.c (.d (.bool false))), none, []⟩] false)
  (.seq (.seq (.region 1 [
    ⟨(some 3), .mov (.c (.d (.int .i64 (0)))), none, []⟩] false)
  (.block 0 (.loop mask_law05_long_0 body_law05_long_0)))
  (.mask ⟨[], []⟩ (.seq (.region 6 [
    ⟨(some 2), .mov (.c (.d (.bool false))), none, []⟩] false)
  (.mask ⟨[2], []⟩ (.ret)))))⟩
/-- (*beadle/store.Store).Get -/
def code_store_Store_Get : AFunc := ⟨33, [.cell 6 4 true, .tmp 7],
  .seq (.region 0 [
    ⟨(some 6), .box 4 (.c (.agg [(.d (.int .i64 (0))), (.d (.int .i64 (0))), (.d (.str [])), (.d (.vs true []))])), none, []⟩,
    ⟨(some 7), .mov (.c (.d (.bool false))), none, []⟩] false)
  (.seq (.region 1 [
    ⟨(some 11), .mov (.t 0), none, []⟩,
    ⟨(some 12), .mov (.t 2), none, []⟩,
    ⟨(some 13), .call (.c (.fn F_store_Store_Kind [])) [(.t 11), (.t 12)], none, []⟩,
    ⟨(some 8), .mov (.t 13), none, []⟩] false)
  (.seq (.seq (.region 2 [
    ⟨(some 14), .mov (.t 8), none, []⟩,
    ⟨(some 15), .bin .eql (.t 14) (.c (.d (.int .i64 (0)))), none, []⟩] false)
  (.cond (.t 15)
    (.seq (.region 3 [
      ⟨(some 16), .build [(.d (.int .i64 (0))), (.d (.int .i64 (0))), (.d (.str [])), (.d (.vs true []))] [], none, []⟩,
      ⟨none, .store 4 (.t 6) (.t 16), none, []⟩,
      ⟨(some 7), .mov (.c (.d (.bool false))), none, []⟩] false)
    (.mask ⟨[6, 7], []⟩ (.ret)))
    (.skip)))
  (.mask ⟨[0, 1, 2, 6, 8], []⟩ (.seq (.seq (.region 4 [
    ⟨(some 18), .mov (.t 0), none, []⟩,
    ⟨(some 19), .nilchk (.t 18), none, []⟩,
    ⟨(some 20), .faddr 1 (.t 19), none, []⟩,
    ⟨(some 21), .load 1 false (.t 20), none, []⟩,
    ⟨(some 22), .mov (.t 1), none, []⟩,
    ⟨(some 23), .mov (.t 2), none, []⟩,
    ⟨(some 24), .build [(.d (.str [])), (.d (.str []))] [(0, 1, (.t 22)), (1, 1, (.t 23))], none, []⟩,
    ⟨(some 25), .lookup true [.str, .str] (.agg [(.d (.int .i64 (0))), (.d (.int .i64 (0))), (.d (.str [])), (.d (.vs false []))]) (.t 21) (.t 24) true, none, []⟩,
    ⟨(some 17), .mov (.t 25), none, []⟩,
    ⟨(some 26), .extract (.t 17) 0, none, []⟩,
    ⟨(some 27), .extract (.t 17) 1, none, []⟩,
    ⟨(some 9), .box 4 (.c (.agg [(.d (.int .i64 (0))), (.d (.int .i64 (0))), (.d (.str [])), (.d (.vs true []))])), none, []⟩,
    ⟨none, .store 4 (.t 9) (.t 26), none, []⟩,
    ⟨(some 10), .mov (.t 27), none, []⟩] false)
  (.seq (.region 5 [
    ⟨(some 28), .mov (.t 10), none, []⟩] false)
  (.cond (.t 28)
    (.seq (.region 6 [
      ⟨(some 29), .load 4 true (.t 9), none, []⟩,
      ⟨(some 30), .call (.c (.fn F_store_own [])) [(.t 29)], none, []⟩,
      ⟨none, .store 4 (.t 6) (.t 30), none, []⟩,
      ⟨(some 7), .mov (.c (.d (.bool true))), none, []⟩] false)
    (.mask ⟨[6, 7], []⟩ (.ret)))
    (.skip))))
  (.mask ⟨[6, 8], []⟩ (.seq (.region 7 [
    ⟨(some 31), .mov (.t 8), none, []⟩,
    ⟨(some 32), .call (.c (.fn F_value_Zero [])) [(.t 31)], none, []⟩,
    ⟨none, .store 4 (.t 6) (.t 32), none, []⟩,
    ⟨(some 7), .mov (.c (.d (.bool true))), none, []⟩] false)
  (.mask ⟨[6, 7], []⟩ (.ret))))))))⟩
def mask_plain_Texts_0 : Mask := ⟨[0, 1, 5], []⟩
def body_plain_Texts_0 : ACode :=
  .seq (.seq (.region 4 [
    ⟨(some 11), .mov (.t 5), none, []⟩,
    ⟨(some 12), .mov (.t 0), none, []⟩,
    ⟨(some 13), .len .sl (.t 12), none, []⟩,
    ⟨(some 14), .bin .lss (.t 11) (.t 13), none, []⟩] false)
  (.cond (.t 14)
    (.skip)
    (.mask ⟨[], []⟩ (.exit 0))))
  (.mask ⟨[0, 1, 5], []⟩ (.seq (.block 1 (.seq (.region 6 [
    ⟨(some 17), .mov (.t 0), none, []⟩,
    ⟨(some 18), .mov (.t 5), none, []⟩,
    ⟨(some 19), .iaddr 1 (.t 17) (.t 18), none, [0, 1]⟩,
    ⟨(some 20), .load 1 false (.t 19), none, [0, 1, 2]⟩,
    ⟨(some 21), .mov (.t 1), none, []⟩,
    ⟨(some 22), .mov (.t 5), none, []⟩,
    ⟨(some 23), .iaddr 1 (.t 21) (.t 22), none, [4, 5]⟩,
    ⟨(some 24), .load 1 false (.t 23), none, [4, 5, 6]⟩,
    ⟨(some 25), .bin .neq (.t 20) (.t 24), none, [0, 1, 2, 3, 4, 5, 6, 7]⟩] true)
  (.cond (.t 25)
    (.seq (.region 7 [
      ⟨(some 4), .mov (.c (.d (.bool false))), none, []⟩] false)
    (.mask ⟨[4], []⟩ (.ret)))
    (.skip))))
  (.mask ⟨[0, 1, 5], []⟩ (.region 5 [
    ⟨(some 15), .mov (.t 5), none, []⟩,
    ⟨(some 16), .bin .add (.t 15) (.c (.d (.int .i64 (1)))), none, []⟩,
    ⟨(some 5), .mov (.t 16), none, []⟩] false))))
/-- beadle/beadleplain.Texts -/
def code_plain_Texts : AFunc := ⟨26, [.tmp 4],
  .seq (.region 0 [
    ⟨(some 4), .mov (.c (.d (.bool false))), none, []⟩] false)
  (.seq (.seq (.region 1 [
    ⟨(some 6), .mov (.t 0), none, []⟩,
    ⟨(some 7), .len .sl (.t 6), none, []⟩,
    ⟨(some 8), .mov (.t 1), none, []⟩,
    ⟨(some 9), .len .sl (.t 8), none, []⟩,
    ⟨(some 10), .bin .neq (.t 7) (.t 9), none, []⟩] false)
  (.cond (.t 10)
    (.seq (.region 2 [
      ⟨(some 4), .mov (.c (.d (.bool false))), none, []⟩] false)
    (.mask ⟨[4], []⟩ (.ret)))
    (.skip)))
  (.mask ⟨[0, 1], []⟩ (.seq (.seq (.region 3 [
    ⟨(some 5), .mov (.c (.d (.int .i64 (0)))), none, []⟩] false)
  (.block 0 (.loop mask_plain_Texts_0 body_plain_Texts_0)))
  (.mask ⟨[], []⟩ (.seq (.region 8 [
    ⟨(some 4), .mov (.c (.d (.bool true))), none, []⟩] false)
  (.mask ⟨[4], []⟩ (.ret)))))))⟩
/-- beadle/beadlelaw05.few -/
def code_law05_few : AFunc := ⟨9, [.tmp 2],
  .seq (.region 0 [
    ⟨(some 2), .mov (.c (.d (.vs true []))), none, []⟩] false)
  (.seq (.seq (.region 1 [
    ⟨(some 3), .mov (.t 0), none, []⟩,
    ⟨(some 4), .len .sl (.t 3), none, []⟩,
    ⟨(some 5), .bin .gtr (.t 4) (.c (.d (.int .i64 (60)))), none, []⟩] false)
  (.cond (.t 5)
    (.seq (.region 2 [
      ⟨(some 6), .mov (.t 0), none, []⟩,
      ⟨(some 7), .slice 7 (.t 6) none (some (.c (.d (.int .i64 (60))))) none, none, []⟩,
      ⟨(some 2), .mov (.t 7), none, []⟩] false)
    (.mask ⟨[2], []⟩ (.ret)))
    (.skip)))
  (.mask ⟨[0], []⟩ (.seq (.region 3 [
    ⟨(some 8), .mov (.t 0), none, []⟩,
    ⟨(some 2), .mov (.t 8), none, []⟩] false)
  (.mask ⟨[2], []⟩ (.ret)))))⟩
def mask_law05_run_0 : Mask := ⟨[0, 2, 4, 6, 8, 9], []⟩
def body_law05_run_0 : ACode :=
  .seq (.seq (.region 3 [
    ⟨(some 10), .mov (.t 9), none, []⟩,
    ⟨(some 11), .mov (.t 2), none, []⟩,
    ⟨(some 12), .len .sl (.t 11), none, []⟩,
    ⟨(some 13), .bin .lss (.t 10) (.t 12), none, []⟩,
    ⟨(some 14), .mov (.t 13), none, []⟩,
    ⟨(some 15), .mov (.t 8), (some (14, true)), []⟩,
    ⟨(some 16), .pick (.t 14) (.t 15) (.c (.d (.bool false))), none, []⟩] false)
  (.mask ⟨[0, 2, 4, 6, 8, 9, 16], []⟩ (.cond (.t 16)
    (.skip)
    (.mask ⟨[4, 6, 8], []⟩ (.exit 0)))))
  (.mask ⟨[0, 2, 4, 6, 9], []⟩ (.seq (.block 1 (.region 5 [
    ⟨(some 20), .mov (.t 0), none, []⟩,
    ⟨(some 21), .load 2 true (.t 4), none, []⟩,
    ⟨(some 22), .mov (.t 2), none, []⟩,
    ⟨(some 23), .mov (.t 9), none, []⟩,
    ⟨(some 24), .iaddr 7 (.t 22) (.t 23), none, [2, 3]⟩,
    ⟨(some 25), .load 7 true (.t 24), none, [2, 3, 4]⟩,
    ⟨(some 26), .call (.c (.fn F_law05_step [])) [(.t 20), (.t 21), (.t 25)], none, [0, 1, 2, 3, 4, 5]⟩,
    ⟨(some 19), .mov (.t 26), none, [0, 1, 2, 3, 4, 5, 6]⟩,
    ⟨(some 27), .extract (.t 19) 0, none, [0, 1, 2, 3, 4, 5, 6, 7]⟩,
    ⟨(some 28), .extract (.t 19) 1, none, [0, 1, 2, 3, 4, 5, 6, 7]⟩,
    ⟨none, .store 2 (.t 4) (.t 27), none, [0, 1, 2, 3, 4, 5, 6, 7, 8]⟩,
    ⟨(some 8), .mov (.t 28), none, [0, 1, 2, 3, 4, 5, 6, 7, 8, 9, 10]⟩] true))
  (.mask ⟨[0, 2, 4, 6, 8, 9], []⟩ (.region 4 [
    ⟨(some 17), .mov (.t 9), none, []⟩,
    ⟨(some 18), .bin .add (.t 17) (.c (.d (.int .i64 (1)))), none, []⟩,
    ⟨(some 9), .mov (.t 18), none, []⟩] false))))
/-- beadle/beadlelaw05.run -/
def code_law05_run : AFunc := ⟨31, [.cell 6 2 true, .tmp 7],
  .seq (.region 0 [
    ⟨(some 4), .box 2 (.t 1), none, []⟩,
    ⟨(some 6), .box 2 (.c (.agg [(.d (.vs true [])), (.d (.vs true []))])), none, []⟩,
    ⟨(some 7), .mov (.c (.d (.bool false))), none, []⟩] false)
  (.seq (.region 1 [
    ⟨(some 8), .mov (.c (.d (.bool true))), none, []⟩] false)
  (.seq (.seq (.region 2 [
    ⟨(some 9), .mov (.c (.d (.int .i64 (0)))), none, []⟩] false)
  (.block 0 (.loop mask_law05_run_0 body_law05_run_0)))
  (.mask ⟨[4, 6, 8], []⟩ (.seq (.region 6 [
    ⟨(some 29), .load 2 true (.t 4), none, []⟩,
    ⟨(some 30), .mov (.t 8), none, []⟩,
    ⟨none, .store 2 (.t 6) (.t 29), none, []⟩,
    ⟨(some 7), .mov (.t 30), none, []⟩] false)
  (.mask ⟨[6, 7], []⟩ (.ret))))))⟩
/-- (*beadle/store.Store).Clone -/
def code_store_Store_Clone : AFunc := ⟨18, [.tmp 2],
  .seq (.region 0 [
    ⟨(some 2), .mov (.c (.d .nilp)), none, []⟩] false)
  (.seq (.seq (.region 1 [
    ⟨(some 3), .mov (.t 0), none, []⟩,
    ⟨(some 4), .call (.c (.fn F_store_Store_is [])) [(.t 3)], none, []⟩,
    ⟨(some 5), .un .not (.t 4), none, []⟩] false)
  (.cond (.t 5)
    (.seq (.region 2 [
      ⟨(some 2), .mov (.c (.d .nilp)), none, []⟩] false)
    (.mask ⟨[2], []⟩ (.ret)))
    (.skip)))
  (.mask ⟨[0], []⟩ (.seq (.region 3 [
    ⟨(some 6), .mov (.t 0), none, []⟩,
    ⟨(some 7), .nilchk (.t 6), none, [0]⟩,
    ⟨(some 8), .faddr 0 (.t 7), none, [0, 1]⟩,
    ⟨(some 9), .load 1 false (.t 8), none, [0, 1, 2]⟩,
    ⟨(some 10), .call (.c (.fn F_maps_Clone_map_string_int_string_int [])) [(.t 9)], none, [0, 1, 2, 3]⟩,
    ⟨(some 11), .mov (.t 0), none, []⟩,
    ⟨(some 12), .nilchk (.t 11), none, [5]⟩,
    ⟨(some 13), .faddr 1 (.t 12), none, [5, 6]⟩,
    ⟨(some 14), .load 1 false (.t 13), none, [5, 6, 7]⟩,
    ⟨(some 15), .call (.c (.fn F_maps_Clone_map_store_key_api_Value_store_key_api_Value [])) [(.t 14)], none, [0, 1, 2, 3, 4, 5, 6, 7, 8]⟩,
    ⟨(some 16), .build [(.d .nilm), (.d .nilm)] [(0, 1, (.t 10)), (1, 1, (.t 15))], none, [0, 1, 2, 3, 4, 5, 6, 7, 8, 9]⟩,
    ⟨(some 17), .box 2 (.t 16), none, [0, 1, 2, 3, 4, 5, 6, 7, 8, 9, 10]⟩,
    ⟨(some 2), .mov (.t 17), none, [0, 1, 2, 3, 4, 5, 6, 7, 8, 9, 10, 11]⟩] true)
  (.mask ⟨[2], []⟩ (.ret)))))⟩
/-- beadle/beadleplain.Value -/
def code_plain_Value : AFunc := ⟨31, [.tmp 4],
  .seq (.region 0 [
    ⟨(some 2), .box 4 (.t 0), none, []⟩,
    ⟨(some 3), .box 4 (.t 1), none, []⟩,
    ⟨(some 4), .mov (.c (.d (.bool false))), none, []⟩] false)
  (.seq (.region 1 [
    ⟨(some 5), .faddr 0 (.t 2), none, []⟩,
    ⟨(some 6), .load 1 false (.t 5), none, []⟩,
    ⟨(some 7), .faddr 0 (.t 3), none, []⟩,
    ⟨(some 8), .load 1 false (.t 7), none, []⟩,
    ⟨(some 9), .bin .eql (.t 6) (.t 8), none, []⟩,
    ⟨(some 10), .mov (.t 9), none, []⟩,
    ⟨(some 11), .faddr 1 (.t 2), (some (10, true)), []⟩,
    ⟨(some 12), .load 1 false (.t 11), (some (10, true)), []⟩,
    ⟨(some 13), .faddr 1 (.t 3), (some (10, true)), []⟩,
    ⟨(some 14), .load 1 false (.t 13), (some (10, true)), []⟩,
    ⟨(some 15), .bin .eql (.t 12) (.t 14), (some (10, true)), []⟩,
    ⟨(some 16), .pick (.t 10) (.t 15) (.c (.d (.bool false))), none, []⟩,
    ⟨(some 17), .mov (.t 16), none, []⟩,
    ⟨(some 18), .faddr 2 (.t 2), (some (17, true)), []⟩,
    ⟨(some 19), .load 1 false (.t 18), (some (17, true)), []⟩,
    ⟨(some 20), .faddr 2 (.t 3), (some (17, true)), []⟩,
    ⟨(some 21), .load 1 false (.t 20), (some (17, true)), []⟩,
    ⟨(some 22), .bin .eql (.t 19) (.t 21), (some (17, true)), []⟩,
    ⟨(some 23), .pick (.t 17) (.t 22) (.c (.d (.bool false))), none, []⟩,
    ⟨(some 24), .mov (.t 23), none, []⟩,
    ⟨(some 25), .faddr 3 (.t 2), (some (24, true)), []⟩,
    ⟨(some 26), .load 1 false (.t 25), (some (24, true)), []⟩,
    ⟨(some 27), .faddr 3 (.t 3), (some (24, true)), []⟩,
    ⟨(some 28), .load 1 false (.t 27), (some (24, true)), []⟩,
    ⟨(some 29), .call (.c (.fn F_plain_Texts [])) [(.t 26), (.t 28)], (some (24, true)), []⟩,
    ⟨(some 30), .pick (.t 24) (.t 29) (.c (.d (.bool false))), none, []⟩,
    ⟨(some 4), .mov (.t 30), none, []⟩] false)
  (.mask ⟨[4], []⟩ (.ret)))⟩
/-- (*beadle/store.Store).Count -/
def code_store_Store_Count : AFunc := ⟨11, [.tmp 2],
  .seq (.region 0 [
    ⟨(some 2), .mov (.c (.d (.int .i64 (0)))), none, []⟩] false)
  (.seq (.seq (.region 1 [
    ⟨(some 3), .mov (.t 0), none, []⟩,
    ⟨(some 4), .call (.c (.fn F_store_Store_is [])) [(.t 3)], none, []⟩,
    ⟨(some 5), .un .not (.t 4), none, []⟩] false)
  (.cond (.t 5)
    (.seq (.region 2 [
      ⟨(some 2), .mov (.c (.d (.int .i64 (0)))), none, []⟩] false)
    (.mask ⟨[2], []⟩ (.ret)))
    (.skip)))
  (.mask ⟨[0], []⟩ (.seq (.region 3 [
    ⟨(some 6), .mov (.t 0), none, []⟩,
    ⟨(some 7), .nilchk (.t 6), none, []⟩,
    ⟨(some 8), .faddr 1 (.t 7), none, []⟩,
    ⟨(some 9), .load 1 false (.t 8), none, []⟩,
    ⟨(some 10), .len .mp (.t 9), none, []⟩,
    ⟨(some 2), .mov (.t 10), none, []⟩] false)
  (.mask ⟨[2], []⟩ (.ret)))))⟩
def each_store_Store_Names_0 : Each where
  rid := 4
  ops := [
    ⟨(some 10), .mov (.t 0), none, []⟩,
    ⟨(some 11), .nilchk (.t 10), none, []⟩,
    ⟨(some 12), .faddr 1 (.t 11), none, []⟩,
    ⟨(some 13), .load 1 false (.t 12), none, []⟩]
  x := (.t 13)
  it := 14
  bid := 0
  mask := ⟨[1, 5, 14], [.slot 5 10000050 1]⟩
  nx := 15
  ok := 16
  endM := ⟨[5], [.slot 5 10000050 1]⟩
  bodyM := ⟨[1, 5, 14], [.slot 5 10000050 1]⟩
  bid2 := 1
  en := 17
  rid2 := 6
  ops2 := [
    ⟨(some 18), .extract (.t 17) 0, none, []⟩,
    ⟨(some 6), .box 2 (.c (.agg [(.d (.str [])), (.d (.str []))])), none, []⟩,
    ⟨none, .store 2 (.t 6) (.t 18), none, []⟩]
  rest := (.seq (.region 7 [
    ⟨(some 19), .faddr 0 (.t 6), none, []⟩,
    ⟨(some 20), .load 1 false (.t 19), none, []⟩,
    ⟨(some 21), .mov (.t 1), none, []⟩,
    ⟨(some 22), .bin .eql (.t 20) (.t 21), none, []⟩] false)
  (.cond (.t 22)
    (.region 8 [
      ⟨(some 23), .mov (.t 5), none, []⟩,
      ⟨(some 24), .faddr 1 (.t 6), none, []⟩,
      ⟨(some 25), .load 1 false (.t 24), none, []⟩,
      ⟨(some 26), .buildSl 1 [(.str [])] 1 [(0, (.t 25))], none, []⟩,
      ⟨(some 27), .append 1 (.t 23) (.t 26), none, []⟩,
      ⟨(some 5), .mov (.t 27), none, []⟩] false)
    (.skip)))
/-- (*beadle/store.Store).Names -/
def rcode_store_Store_Names : RFunc := ⟨31, [.tmp 4],
  .seq (.code (.region 0 [
    ⟨(some 4), .mov (.c (.d (.vs true []))), none, []⟩] false))
  (.seq (.code (.seq (.region 1 [
    ⟨(some 7), .mov (.t 0), none, []⟩,
    ⟨(some 8), .call (.c (.fn F_store_Store_is [])) [(.t 7)], none, []⟩,
    ⟨(some 9), .un .not (.t 8), none, []⟩] false)
  (.cond (.t 9)
    (.seq (.region 2 [
      ⟨(some 4), .mov (.c (.d (.vs true []))), none, []⟩] false)
    (.mask ⟨[4], [.slot 4 10000040 1]⟩ (.ret)))
    (.skip))))
  (.mask ⟨[0, 1], []⟩ (.seq (.code (.region 3 [
    ⟨(some 5), .mov (.c (.d (.vs true []))), none, []⟩] false))
  (.seq (.each each_store_Store_Names_0)
  (.code (.mask ⟨[5], [.slot 5 10000050 1]⟩ (.seq (.region 9 [
    ⟨(some 28), .mov (.t 5), none, []⟩,
    ⟨(some 29), .call (.c (.fn F_slices_Sort_string_string [])) [(.t 28)], none, []⟩] false)
  (.seq (.region 10 [
    ⟨(some 30), .mov (.t 5), none, []⟩,
    ⟨(some 4), .mov (.t 30), none, []⟩] false)
  (.mask ⟨[4], [.slot 4 10000040 1]⟩ (.ret))))))))))⟩
/-- (*beadle/store.Store).Kind -/
def code_store_Store_Kind : AFunc := ⟨14, [.tmp 4],
  .seq (.region 0 [
    ⟨(some 4), .mov (.c (.d (.int .i64 (0)))), none, []⟩] false)
  (.seq (.seq (.region 1 [
    ⟨(some 5), .mov (.t 0), none, []⟩,
    ⟨(some 6), .call (.c (.fn F_store_Store_is [])) [(.t 5)], none, []⟩,
    ⟨(some 7), .un .not (.t 6), none, []⟩] false)
  (.cond (.t 7)
    (.seq (.region 2 [
      ⟨(some 4), .mov (.c (.d (.int .i64 (0)))), none, []⟩] false)
    (.mask ⟨[4], []⟩ (.ret)))
    (.skip)))
  (.mask ⟨[0, 1], []⟩ (.seq (.region 3 [
    ⟨(some 8), .mov (.t 0), none, []⟩,
    ⟨(some 9), .nilchk (.t 8), none, []⟩,
    ⟨(some 10), .faddr 0 (.t 9), none, []⟩,
    ⟨(some 11), .load 1 false (.t 10), none, []⟩,
    ⟨(some 12), .mov (.t 1), none, []⟩,
    ⟨(some 13), .lookup false [.str] (.d (.int .i64 (0))) (.t 11) (.t 12) false, none, []⟩,
    ⟨(some 4), .mov (.t 13), none, []⟩] false)
  (.mask ⟨[4], []⟩ (.ret)))))⟩
def mask_plain_In_0 : Mask := ⟨[0, 1, 5], []⟩
def body_plain_In_0 : ACode :=
  .seq (.seq (.region 2 [
    ⟨(some 6), .mov (.t 5), none, []⟩,
    ⟨(some 7), .mov (.t 0), none, []⟩,
    ⟨(some 8), .len .sl (.t 7), none, []⟩,
    ⟨(some 9), .bin .lss (.t 6) (.t 8), none, []⟩] false)
  (.cond (.t 9)
    (.skip)
    (.mask ⟨[], []⟩ (.exit 0))))
  (.mask ⟨[0, 1, 5], []⟩ (.seq (.block 1 (.seq (.region 4 [
    ⟨(some 12), .mov (.t 0), none, []⟩,
    ⟨(some 13), .mov (.t 5), none, []⟩,
    ⟨(some 14), .iaddr 1 (.t 12) (.t 13), none, []⟩,
    ⟨(some 15), .load 1 false (.t 14), none, []⟩,
    ⟨(some 16), .mov (.t 1), none, []⟩,
    ⟨(some 17), .bin .eql (.t 15) (.t 16), none, []⟩] false)
  (.cond (.t 17)
    (.seq (.region 5 [
      ⟨(some 4), .mov (.c (.d (.bool true))), none, []⟩] false)
    (.mask ⟨[4], []⟩ (.ret)))
    (.skip))))
  (.mask ⟨[0, 1, 5], []⟩ (.region 3 [
    ⟨(some 10), .mov (.t 5), none, []⟩,
    ⟨(some 11), .bin .add (.t 10) (.c (.d (.int .i64 (1)))), none, []⟩,
    ⟨(some 5), .mov (.t 11), none, []⟩] false))))
/-- beadle/beadleplain.In -/
def code_plain_In : AFunc := ⟨18, [.tmp 4],
  .seq (.region 0 [
    ⟨(some 4), .mov (.c (.d (.bool false))), none, []⟩] false)
  (.seq (.seq (.region 1 [
    ⟨(some 5), .mov (.c (.d (.int .i64 (0)))), none, []⟩] false)
  (.block 0 (.loop mask_plain_In_0 body_plain_In_0)))
  (.mask ⟨[], []⟩ (.seq (.region 6 [
    ⟨(some 4), .mov (.c (.d (.bool false))), none, []⟩] false)
  (.mask ⟨[4], []⟩ (.ret)))))⟩
/-- (*beadle/store.Store).is -/
def code_store_Store_is : AFunc := ⟨12, [.tmp 2],
  .seq (.region 0 [
    ⟨(some 2), .mov (.c (.d (.bool false))), none, []⟩] false)
  (.seq (.region 1 [
    ⟨(some 3), .mov (.t 0), none, []⟩,
    ⟨(some 4), .isnil .p true (.t 3), none, []⟩,
    ⟨(some 5), .mov (.t 4), none, []⟩,
    ⟨(some 6), .mov (.t 0), (some (5, true)), []⟩,
    ⟨(some 7), .nilchk (.t 6), (some (5, true)), []⟩,
    ⟨(some 8), .faddr 0 (.t 7), (some (5, true)), []⟩,
    ⟨(some 9), .load 1 false (.t 8), (some (5, true)), []⟩,
    ⟨(some 10), .isnil .m true (.t 9), (some (5, true)), []⟩,
    ⟨(some 11), .pick (.t 5) (.t 10) (.c (.d (.bool false))), none, []⟩,
    ⟨(some 2), .mov (.t 11), none, []⟩] false)
  (.mask ⟨[2], []⟩ (.ret)))⟩
/-- beadle/value.Check -/
def code_value_Check : AFunc := ⟨29, [.tmp 2],
  .seq (.region 0 [
    ⟨(some 1), .box 4 (.t 0), none, []⟩,
    ⟨(some 2), .mov (.c (.d (.int .i64 (0)))), none, []⟩] false)
  (.seq (.block 0 (.seq (.region 1 [
    ⟨(some 4), .faddr 0 (.t 1), none, []⟩,
    ⟨(some 5), .load 1 false (.t 4), none, []⟩,
    ⟨(some 6), .bin .lss (.t 5) (.c (.d (.int .i64 (1)))), none, []⟩,
    ⟨(some 7), .mov (.t 6), none, []⟩,
    ⟨(some 8), .faddr 0 (.t 1), (some (7, false)), []⟩,
    ⟨(some 9), .load 1 false (.t 8), (some (7, false)), []⟩,
    ⟨(some 10), .bin .gtr (.t 9) (.c (.d (.int .i64 (4)))), (some (7, false)), []⟩,
    ⟨(some 11), .pick (.t 7) (.c (.d (.bool true))) (.t 10), none, []⟩,
    ⟨(some 3), .mov (.t 11), none, []⟩] false)
  (.mask ⟨[1, 3], []⟩ (.cond (.t 3)
    (.seq (.region 2 [
      ⟨(some 2), .mov (.c (.d (.int .i64 (12)))), none, []⟩] false)
    (.mask ⟨[2], []⟩ (.ret)))
    (.seq (.region 3 [
      ⟨(some 13), .faddr 2 (.t 1), none, []⟩,
      ⟨(some 14), .load 1 false (.t 13), none, []⟩,
      ⟨(some 15), .call (.c (.fn F_value_long [])) [(.t 14)], none, []⟩,
      ⟨(some 16), .mov (.t 15), none, []⟩,
      ⟨(some 17), .faddr 3 (.t 1), (some (16, false)), []⟩,
      ⟨(some 18), .load 1 false (.t 17), (some (16, false)), []⟩,
      ⟨(some 19), .call (.c (.fn F_slices_ContainsFunc_string_string [])) [(.t 18), (.c (.fn F_value_long []))], (some (16, false)), []⟩,
      ⟨(some 20), .pick (.t 16) (.c (.d (.bool true))) (.t 19), none, []⟩,
      ⟨(some 12), .mov (.t 20), none, []⟩] false)
    (.mask ⟨[1, 12], []⟩ (.cond (.t 12)
      (.seq (.region 4 [
        ⟨(some 2), .mov (.c (.d (.int .i64 (5)))), none, []⟩] false)
      (.mask ⟨[2], []⟩ (.ret)))
      (.seq (.region 5 [
        ⟨(some 22), .faddr 3 (.t 1), none, []⟩,
        ⟨(some 23), .load 1 false (.t 22), none, []⟩,
        ⟨(some 24), .len .sl (.t 23), none, []⟩,
        ⟨(some 25), .bin .gtr (.t 24) (.c (.d (.int .i64 (8)))), none, []⟩,
        ⟨(some 21), .mov (.t 25), none, []⟩] false)
      (.cond (.t 21)
        (.seq (.region 6 [
          ⟨(some 2), .mov (.c (.d (.int .i64 (3)))), none, []⟩] false)
        (.mask ⟨[2], []⟩ (.ret)))
        (.seq (.region 7 [
          ⟨(some 27), .load 4 true (.t 1), none, []⟩,
          ⟨(some 28), .call (.c (.fn F_value_odd [])) [(.t 27)], none, []⟩,
          ⟨(some 26), .mov (.t 28), none, []⟩] false)
        (.cond (.t 26)
          (.seq (.region 8 [
            ⟨(some 2), .mov (.c (.d (.int .i64 (4)))), none, []⟩] false)
          (.mask ⟨[2], []⟩ (.ret)))
          (.skip))))))))))))
  (.mask ⟨[], []⟩ (.seq (.region 9 [
    ⟨(some 2), .mov (.c (.d (.int .i64 (0)))), none, []⟩] false)
  (.mask ⟨[2], []⟩ (.ret)))))⟩
/-- beadle/store.own -/
def code_store_own : AFunc := ⟨8, [.cell 2 4 true],
  .seq (.region 0 [
    ⟨(some 1), .box 4 (.t 0), none, []⟩,
    ⟨(some 2), .box 4 (.c (.agg [(.d (.int .i64 (0))), (.d (.int .i64 (0))), (.d (.str [])), (.d (.vs true []))])), none, []⟩] false)
  (.seq (.region 1 [
    ⟨(some 3), .faddr 3 (.t 1), none, []⟩,
    ⟨(some 4), .load 1 false (.t 3), none, []⟩,
    ⟨(some 5), .call (.c (.fn F_slices_Clone_string_string [])) [(.t 4)], none, []⟩,
    ⟨(some 6), .faddr 3 (.t 1), none, []⟩,
    ⟨none, .store 1 (.t 6) (.t 5), none, []⟩] false)
  (.seq (.region 2 [
    ⟨(some 7), .load 4 true (.t 1), none, []⟩,
    ⟨none, .store 4 (.t 2) (.t 7), none, []⟩] false)
  (.mask ⟨[2], []⟩ (.ret))))⟩
/-- beadle/value.Zero -/
def code_value_Zero : AFunc := ⟨12, [.cell 2 4 true],
  .seq (.region 0 [
    ⟨(some 2), .box 4 (.c (.agg [(.d (.int .i64 (0))), (.d (.int .i64 (0))), (.d (.str [])), (.d (.vs true []))])), none, []⟩] false)
  (.seq (.seq (.region 1 [
    ⟨(some 3), .mov (.t 0), none, []⟩,
    ⟨(some 4), .bin .lss (.t 3) (.c (.d (.int .i64 (1)))), none, []⟩,
    ⟨(some 5), .mov (.t 4), none, []⟩,
    ⟨(some 6), .mov (.t 0), (some (5, false)), []⟩,
    ⟨(some 7), .bin .gtr (.t 6) (.c (.d (.int .i64 (4)))), (some (5, false)), []⟩,
    ⟨(some 8), .pick (.t 5) (.c (.d (.bool true))) (.t 7), none, []⟩] false)
  (.mask ⟨[0, 2, 8], []⟩ (.cond (.t 8)
    (.seq (.region 2 [
      ⟨(some 9), .build [(.d (.int .i64 (0))), (.d (.int .i64 (0))), (.d (.str [])), (.d (.vs true []))] [], none, []⟩,
      ⟨none, .store 4 (.t 2) (.t 9), none, []⟩] false)
    (.mask ⟨[2], []⟩ (.ret)))
    (.skip))))
  (.mask ⟨[0, 2], []⟩ (.seq (.region 3 [
    ⟨(some 10), .mov (.t 0), none, []⟩,
    ⟨(some 11), .build [(.d (.int .i64 (0))), (.d (.int .i64 (0))), (.d (.str [])), (.d (.vs true []))] [(0, 1, (.t 10))], none, []⟩,
    ⟨none, .store 4 (.t 2) (.t 11), none, []⟩] false)
  (.mask ⟨[2], []⟩ (.ret)))))⟩
/-- beadle/beadlelaw05.step -/
def code_law05_step : AFunc := ⟨102, [.cell 6 2 true, .tmp 7],
  .seq (.region 0 [
    ⟨(some 4), .box 2 (.t 1), none, []⟩,
    ⟨(some 5), .box 7 (.t 2), none, []⟩,
    ⟨(some 6), .box 2 (.c (.agg [(.d (.vs true [])), (.d (.vs true []))])), none, []⟩,
    ⟨(some 7), .mov (.c (.d (.bool false))), none, []⟩] false)
  (.seq (.seq (.region 1 [
    ⟨(some 14), .faddr 0 (.t 5), none, []⟩,
    ⟨(some 15), .load 1 false (.t 14), none, []⟩,
    ⟨(some 16), .bin .eql (.t 15) (.c (.d (.int .i64 (1)))), none, []⟩] false)
  (.cond (.t 16)
    (.seq (.region 2 [
      ⟨(some 18), .load 2 true (.t 4), none, []⟩,
      ⟨(some 19), .faddr 1 (.t 5), none, []⟩,
      ⟨(some 20), .load 1 false (.t 19), none, []⟩,
      ⟨(some 21), .faddr 2 (.t 5), none, []⟩,
      ⟨(some 22), .load 1 false (.t 21), none, []⟩,
      ⟨(some 23), .faddr 3 (.t 5), none, []⟩,
      ⟨(some 24), .load 4 true (.t 23), none, []⟩,
      ⟨(some 25), .call (.c (.fn F_ref05_Set [])) [(.t 18), (.t 20), (.t 22), (.t 24)], none, []⟩,
      ⟨(some 17), .mov (.t 25), none, []⟩,
      ⟨(some 26), .extract (.t 17) 0, none, []⟩,
      ⟨(some 27), .extract (.t 17) 1, none, []⟩,
      ⟨(some 8), .box 2 (.c (.agg [(.d (.vs true [])), (.d (.vs true []))])), none, []⟩,
      ⟨none, .store 2 (.t 8) (.t 26), none, []⟩,
      ⟨(some 9), .mov (.t 27), none, []⟩] false)
    (.seq (.region 3 [
      ⟨(some 28), .load 2 true (.t 8), none, []⟩,
      ⟨(some 29), .mov (.t 0), none, []⟩,
      ⟨(some 30), .faddr 1 (.t 5), none, []⟩,
      ⟨(some 31), .load 1 false (.t 30), none, [2]⟩,
      ⟨(some 32), .faddr 2 (.t 5), none, []⟩,
      ⟨(some 33), .load 1 false (.t 32), none, [4]⟩,
      ⟨(some 34), .faddr 3 (.t 5), none, []⟩,
      ⟨(some 35), .load 4 true (.t 34), none, [6]⟩,
      ⟨(some 36), .call (.c (.fn F_store_Store_Set [])) [(.t 29), (.t 31), (.t 33), (.t 35)], none, [1, 2, 3, 4, 5, 6, 7]⟩,
      ⟨(some 37), .mov (.t 9), none, []⟩,
      ⟨(some 38), .bin .eql (.t 36) (.t 37), none, [1, 2, 3, 4, 5, 6, 7, 8, 9]⟩,
      ⟨none, .store 2 (.t 6) (.t 28), none, [0, 1, 2, 3, 4, 5, 6, 7, 8]⟩,
      ⟨(some 7), .mov (.t 38), none, [0, 1, 2, 3, 4, 5, 6, 7, 8, 9, 10, 11]⟩] true)
    (.mask ⟨[6, 7], []⟩ (.ret))))
    (.skip)))
  (.mask ⟨[0, 4, 5, 6], []⟩ (.seq (.seq (.region 4 [
    ⟨(some 39), .faddr 0 (.t 5), none, []⟩,
    ⟨(some 40), .load 1 false (.t 39), none, []⟩,
    ⟨(some 41), .bin .eql (.t 40) (.c (.d (.int .i64 (2)))), none, []⟩] false)
  (.cond (.t 41)
    (.seq (.region 5 [
      ⟨(some 43), .mov (.t 0), none, []⟩,
      ⟨(some 44), .faddr 1 (.t 5), none, []⟩,
      ⟨(some 45), .load 1 false (.t 44), none, []⟩,
      ⟨(some 46), .faddr 2 (.t 5), none, []⟩,
      ⟨(some 47), .load 1 false (.t 46), none, []⟩,
      ⟨(some 48), .call (.c (.fn F_store_Store_Get [])) [(.t 43), (.t 45), (.t 47)], none, []⟩,
      ⟨(some 42), .mov (.t 48), none, []⟩,
      ⟨(some 49), .extract (.t 42) 0, none, []⟩,
      ⟨(some 50), .extract (.t 42) 1, none, []⟩,
      ⟨(some 10), .box 4 (.c (.agg [(.d (.int .i64 (0))), (.d (.int .i64 (0))), (.d (.str [])), (.d (.vs true []))])), none, []⟩,
      ⟨none, .store 4 (.t 10) (.t 49), none, []⟩,
      ⟨(some 11), .mov (.t 50), none, []⟩] false)
    (.seq (.region 6 [
      ⟨(some 52), .load 2 true (.t 4), none, []⟩,
      ⟨(some 53), .faddr 1 (.t 5), none, []⟩,
      ⟨(some 54), .load 1 false (.t 53), none, []⟩,
      ⟨(some 55), .faddr 2 (.t 5), none, []⟩,
      ⟨(some 56), .load 1 false (.t 55), none, []⟩,
      ⟨(some 57), .call (.c (.fn F_ref05_Get [])) [(.t 52), (.t 54), (.t 56)], none, []⟩,
      ⟨(some 51), .mov (.t 57), none, []⟩,
      ⟨(some 58), .extract (.t 51) 0, none, []⟩,
      ⟨(some 59), .extract (.t 51) 1, none, []⟩,
      ⟨(some 12), .box 4 (.c (.agg [(.d (.int .i64 (0))), (.d (.int .i64 (0))), (.d (.str [])), (.d (.vs true []))])), none, []⟩,
      ⟨none, .store 4 (.t 12) (.t 58), none, []⟩,
      ⟨(some 13), .mov (.t 59), none, []⟩] false)
    (.seq (.region 7 [
      ⟨(some 60), .load 2 true (.t 4), none, []⟩,
      ⟨(some 61), .mov (.t 11), none, []⟩,
      ⟨(some 62), .mov (.t 13), none, []⟩,
      ⟨(some 63), .binb false (.t 61) (.t 62), none, [1, 2]⟩,
      ⟨(some 64), .mov (.t 63), none, [1, 2, 3]⟩,
      ⟨(some 65), .load 4 true (.t 10), (some (64, true)), [1, 2, 3, 4]⟩,
      ⟨(some 66), .load 4 true (.t 12), (some (64, true)), [1, 2, 3, 4]⟩,
      ⟨(some 67), .call (.c (.fn F_plain_Value [])) [(.t 65), (.t 66)], (some (64, true)), [1, 2, 3, 4, 5, 6]⟩,
      ⟨(some 68), .pick (.t 64) (.t 67) (.c (.d (.bool false))), none, [1, 2, 3, 4, 5, 6, 7]⟩,
      ⟨none, .store 2 (.t 6) (.t 60), none, [0, 1, 2, 3, 4, 5, 6, 7]⟩,
      ⟨(some 7), .mov (.t 68), none, [0, 1, 2, 3, 4, 5, 6, 7, 8, 9]⟩] true)
    (.mask ⟨[6, 7], []⟩ (.ret)))))
    (.skip)))
  (.mask ⟨[0, 4, 5, 6], []⟩ (.seq (.seq (.region 8 [
    ⟨(some 69), .faddr 0 (.t 5), none, []⟩,
    ⟨(some 70), .load 1 false (.t 69), none, []⟩,
    ⟨(some 71), .bin .eql (.t 70) (.c (.d (.int .i64 (3)))), none, []⟩] false)
  (.cond (.t 71)
    (.seq (.region 9 [
      ⟨(some 72), .load 2 true (.t 4), none, []⟩,
      ⟨(some 73), .mov (.t 0), none, []⟩,
      ⟨(some 74), .faddr 2 (.t 5), none, []⟩,
      ⟨(some 75), .load 1 false (.t 74), none, [2]⟩,
      ⟨(some 76), .call (.c (.fn F_store_Store_Kind [])) [(.t 73), (.t 75)], none, [1, 2, 3]⟩,
      ⟨(some 77), .load 2 true (.t 4), none, []⟩,
      ⟨(some 78), .faddr 2 (.t 5), none, []⟩,
      ⟨(some 79), .load 1 false (.t 78), none, [6]⟩,
      ⟨(some 80), .call (.c (.fn F_ref05_Kind [])) [(.t 77), (.t 79)], none, [1, 2, 3, 4, 5, 6, 7]⟩,
      ⟨(some 81), .bin .eql (.t 76) (.t 80), none, [1, 2, 3, 4, 5, 6, 7, 8]⟩,
      ⟨none, .store 2 (.t 6) (.t 72), none, [0, 1, 2, 3, 4, 5, 6, 7, 8]⟩,
      ⟨(some 7), .mov (.t 81), none, [0, 1, 2, 3, 4, 5, 6, 7, 8, 9, 10]⟩] true)
    (.mask ⟨[6, 7], []⟩ (.ret)))
    (.skip)))
  (.mask ⟨[0, 4, 5, 6], []⟩ (.seq (.seq (.region 10 [
    ⟨(some 82), .faddr 0 (.t 5), none, []⟩,
    ⟨(some 83), .load 1 false (.t 82), none, []⟩,
    ⟨(some 84), .bin .eql (.t 83) (.c (.d (.int .i64 (4)))), none, []⟩] false)
  (.cond (.t 84)
    (.seq (.region 11 [
      ⟨(some 85), .load 2 true (.t 4), none, []⟩,
      ⟨(some 86), .mov (.t 0), none, []⟩,
      ⟨(some 87), .faddr 1 (.t 5), none, []⟩,
      ⟨(some 88), .load 1 false (.t 87), none, [2]⟩,
      ⟨(some 89), .call (.c (.fn F_store_Store_Names [])) [(.t 86), (.t 88)], none, [1, 2, 3]⟩,
      ⟨(some 90), .load 2 true (.t 4), none, []⟩,
      ⟨(some 91), .faddr 1 (.t 5), none, []⟩,
      ⟨(some 92), .load 1 false (.t 91), none, [6]⟩,
      ⟨(some 93), .call (.c (.fn F_law05_names [])) [(.t 90), (.t 92)], none, [1, 2, 3, 4, 5, 6, 7]⟩,
      ⟨(some 94), .call (.c (.fn F_plain_Texts [])) [(.t 89), (.t 93)], none, [1, 2, 3, 4, 5, 6, 7, 8]⟩,
      ⟨none, .store 2 (.t 6) (.t 85), none, [0, 1, 2, 3, 4, 5, 6, 7, 8, 9]⟩,
      ⟨(some 7), .mov (.t 94), none, [0, 1, 2, 3, 4, 5, 6, 7, 8, 9, 10]⟩] true)
    (.mask ⟨[6, 7], []⟩ (.ret)))
    (.skip)))
  (.mask ⟨[0, 4, 6], []⟩ (.seq (.region 12 [
    ⟨(some 95), .load 2 true (.t 4), none, []⟩,
    ⟨(some 96), .mov (.t 0), none, []⟩,
    ⟨(some 97), .call (.c (.fn F_store_Store_Count [])) [(.t 96)], none, [1]⟩,
    ⟨(some 98), .faddr 1 (.t 4), none, []⟩,
    ⟨(some 99), .load 1 false (.t 98), none, [3]⟩,
    ⟨(some 100), .len .sl (.t 99), none, [3, 4]⟩,
    ⟨(some 101), .bin .eql (.t 97) (.t 100), none, [1, 2, 3, 4, 5]⟩,
    ⟨none, .store 2 (.t 6) (.t 95), none, [0, 1, 2]⟩,
    ⟨(some 7), .mov (.t 101), none, [0, 1, 2, 3, 4, 5, 6, 7]⟩] true)
  (.mask ⟨[6, 7], []⟩ (.ret)))))))))))⟩
/-- maps.Clone[map[string]int,string,int] -/
def code_maps_Clone_map_string_int_string_int : AFunc := ⟨9, [.tmp 2],
  .seq (.region 0 [
    ⟨(some 2), .mov (.c (.d .nilm)), none, []⟩] false)
  (.seq (.seq (.region 1 [
    ⟨(some 3), .mov (.t 0), none, []⟩,
    ⟨(some 4), .isnil .m false (.t 3), none, []⟩] false)
  (.cond (.t 4)
    (.seq (.region 2 [
      ⟨(some 2), .mov (.c (.d .nilm)), none, []⟩] false)
    (.mask ⟨[2], []⟩ (.ret)))
    (.skip)))
  (.mask ⟨[0], []⟩ (.seq (.region 3 [
    ⟨(some 5), .mov (.t 0), none, []⟩,
    ⟨(some 6), .bad, none, []⟩,
    ⟨(some 7), .call (.c (.fn F_maps_clone [])) [(.t 6)], none, []⟩,
    ⟨(some 8), .bad, none, []⟩,
    ⟨(some 2), .mov (.t 8), none, []⟩] false)
  (.mask ⟨[2], []⟩ (.ret)))))⟩
/-- maps.Clone[map[beadle/store.key]beadle/api.Value,beadle/store.key,beadle/api.Value] -/
def code_maps_Clone_map_store_key_api_Value_store_key_api_Value : AFunc := ⟨9, [.tmp 2],
  .seq (.region 0 [
    ⟨(some 2), .mov (.c (.d .nilm)), none, []⟩] false)
  (.seq (.seq (.region 1 [
    ⟨(some 3), .mov (.t 0), none, []⟩,
    ⟨(some 4), .isnil .m false (.t 3), none, []⟩] false)
  (.cond (.t 4)
    (.seq (.region 2 [
      ⟨(some 2), .mov (.c (.d .nilm)), none, []⟩] false)
    (.mask ⟨[2], []⟩ (.ret)))
    (.skip)))
  (.mask ⟨[0], []⟩ (.seq (.region 3 [
    ⟨(some 5), .mov (.t 0), none, []⟩,
    ⟨(some 6), .bad, none, []⟩,
    ⟨(some 7), .call (.c (.fn F_maps_clone [])) [(.t 6)], none, []⟩,
    ⟨(some 8), .bad, none, []⟩,
    ⟨(some 2), .mov (.t 8), none, []⟩] false)
  (.mask ⟨[2], []⟩ (.ret)))))⟩
/-- slices.Sort[[]string,string] -/
def code_slices_Sort_string_string : AFunc := ⟨11, [],
  .seq (.region 0 [
    ⟨(some 3), .mov (.t 0), none, []⟩,
    ⟨(some 4), .len .sl (.t 3), none, []⟩,
    ⟨(some 2), .mov (.t 4), none, []⟩] false)
  (.region 1 [
    ⟨(some 5), .mov (.t 0), none, []⟩,
    ⟨(some 6), .mov (.t 2), none, []⟩,
    ⟨(some 7), .mov (.t 2), none, []⟩,
    ⟨(some 8), .toInt .u64 (.t 7), none, []⟩,
    ⟨(some 9), .call (.c (.fn F_math_bits_Len [])) [(.t 8)], none, []⟩,
    ⟨(some 10), .call (.c (.fn F_slices_pdqsortOrdered_string [])) [(.t 5), (.c (.d (.int .i64 (0)))), (.t 6), (.t 9)], none, []⟩] false)⟩
/-- beadle/value.long -/
def code_value_long : AFunc := ⟨6, [.tmp 2],
  .seq (.region 0 [
    ⟨(some 2), .mov (.c (.d (.bool false))), none, []⟩] false)
  (.seq (.region 1 [
    ⟨(some 3), .mov (.t 0), none, []⟩,
    ⟨(some 4), .len .str (.t 3), none, []⟩,
    ⟨(some 5), .bin .gtr (.t 4) (.c (.d (.int .i64 (32)))), none, []⟩,
    ⟨(some 2), .mov (.t 5), none, []⟩] false)
  (.mask ⟨[2], []⟩ (.ret)))⟩
/-- slices.ContainsFunc[[]string,string] -/
def code_slices_ContainsFunc_string_string : AFunc := ⟨9, [.tmp 4],
  .seq (.region 0 [
    ⟨(some 4), .mov (.c (.d (.bool false))), none, []⟩] false)
  (.seq (.region 1 [
    ⟨(some 5), .mov (.t 0), none, []⟩,
    ⟨(some 6), .mov (.t 1), none, []⟩,
    ⟨(some 7), .call (.c (.fn F_slices_IndexFunc_string_string [])) [(.t 5), (.t 6)], none, []⟩,
    ⟨(some 8), .bin .geq (.t 7) (.c (.d (.int .i64 (0)))), none, []⟩,
    ⟨(some 4), .mov (.t 8), none, []⟩] false)
  (.mask ⟨[4], []⟩ (.ret)))⟩
/-- beadle/value.odd -/
def code_value_odd : AFunc := ⟨56, [.tmp 2],
  .seq (.region 0 [
    ⟨(some 1), .box 4 (.t 0), none, []⟩,
    ⟨(some 2), .mov (.c (.d (.bool false))), none, []⟩] false)
  (.seq (.region 1 [
    ⟨(some 4), .faddr 0 (.t 1), none, []⟩,
    ⟨(some 5), .load 1 false (.t 4), none, []⟩,
    ⟨(some 6), .bin .eql (.t 5) (.c (.d (.int .i64 (1)))), none, []⟩,
    ⟨(some 7), .mov (.t 6), none, []⟩,
    ⟨(some 8), .faddr 0 (.t 1), (some (7, false)), []⟩,
    ⟨(some 9), .load 1 false (.t 8), (some (7, false)), []⟩,
    ⟨(some 10), .bin .eql (.t 9) (.c (.d (.int .i64 (2)))), (some (7, false)), []⟩,
    ⟨(some 11), .mov (.t 10), (some (7, false)), []⟩,
    ⟨(some 12), .faddr 1 (.t 1), (some (11, true)), []⟩,
    ⟨(some 13), .load 1 false (.t 12), (some (11, true)), []⟩,
    ⟨(some 14), .bin .eql (.t 13) (.c (.d (.int .i64 (0)))), (some (11, true)), []⟩,
    ⟨(some 15), .mov (.t 14), (some (11, true)), []⟩,
    ⟨(some 16), .faddr 1 (.t 1), (some (15, false)), []⟩,
    ⟨(some 17), .load 1 false (.t 16), (some (15, false)), []⟩,
    ⟨(some 18), .bin .eql (.t 17) (.c (.d (.int .i64 (1)))), (some (15, false)), []⟩,
    ⟨(some 19), .pick (.t 15) (.c (.d (.bool true))) (.t 18), (some (11, true)), []⟩,
    ⟨(some 20), .pick (.t 11) (.t 19) (.c (.d (.bool false))), (some (7, false)), []⟩,
    ⟨(some 21), .pick (.t 7) (.c (.d (.bool true))) (.t 20), none, []⟩,
    ⟨(some 3), .mov (.t 21), none, []⟩] false)
  (.mask ⟨[1, 3], []⟩ (.seq (.region 2 [
    ⟨(some 22), .mov (.t 3), none, []⟩,
    ⟨(some 23), .un .not (.t 22), none, []⟩,
    ⟨(some 24), .mov (.t 23), none, []⟩,
    ⟨(some 25), .faddr 1 (.t 1), (some (24, true)), []⟩,
    ⟨(some 26), .load 1 false (.t 25), (some (24, true)), []⟩,
    ⟨(some 27), .bin .neq (.t 26) (.c (.d (.int .i64 (0)))), (some (24, true)), []⟩,
    ⟨(some 28), .pick (.t 24) (.t 27) (.c (.d (.bool false))), none, []⟩,
    ⟨(some 29), .mov (.t 28), none, []⟩,
    ⟨(some 30), .faddr 0 (.t 1), (some (29, false)), []⟩,
    ⟨(some 31), .load 1 false (.t 30), (some (29, false)), []⟩,
    ⟨(some 32), .bin .neq (.t 31) (.c (.d (.int .i64 (3)))), (some (29, false)), []⟩,
    ⟨(some 33), .mov (.t 32), (some (29, false)), []⟩,
    ⟨(some 34), .faddr 2 (.t 1), (some (33, true)), []⟩,
    ⟨(some 35), .load 1 false (.t 34), (some (33, true)), []⟩,
    ⟨(some 36), .bin .neq (.t 35) (.c (.d (.str []))), (some (33, true)), []⟩,
    ⟨(some 37), .pick (.t 33) (.t 36) (.c (.d (.bool false))), (some (29, false)), []⟩,
    ⟨(some 38), .pick (.t 29) (.c (.d (.bool true))) (.t 37), none, []⟩,
    ⟨(some 39), .mov (.t 38), none, []⟩,
    ⟨(some 40), .faddr 0 (.t 1), (some (39, false)), []⟩,
    ⟨(some 41), .load 1 false (.t 40), (some (39, false)), []⟩,
    ⟨(some 42), .bin .neq (.t 41) (.c (.d (.int .i64 (4)))), (some (39, false)), []⟩,
    ⟨(some 43), .mov (.t 42), (some (39, false)), []⟩,
    ⟨(some 44), .faddr 3 (.t 1), (some (43, true)), []⟩,
    ⟨(some 45), .load 1 false (.t 44), (some (43, true)), []⟩,
    ⟨(some 46), .len .sl (.t 45), (some (43, true)), []⟩,
    ⟨(some 47), .bin .gtr (.t 46) (.c (.d (.int .i64 (0)))), (some (43, true)), []⟩,
    ⟨(some 48), .pick (.t 43) (.t 47) (.c (.d (.bool false))), (some (39, false)), []⟩,
    ⟨(some 49), .pick (.t 39) (.c (.d (.bool true))) (.t 48), none, []⟩,
    ⟨(some 50), .mov (.t 49), none, []⟩,
    ⟨(some 51), .faddr 3 (.t 1), (some (50, false)), []⟩,
    ⟨(some 52), .load 1 false (.t 51), (some (50, false)), []⟩,
    ⟨(some 53), .call (.c (.fn F_value_rises [])) [(.t 52)], (some (50, false)), []⟩,
    ⟨(some 54), .un .not (.t 53), (some (50, false)), []⟩,
    ⟨(some 55), .pick (.t 50) (.c (.d (.bool true))) (.t 54), none, []⟩,
    ⟨(some 2), .mov (.t 55), none, []⟩] false)
  (.mask ⟨[2], []⟩ (.ret)))))⟩
/-- slices.Clone[[]string,string] -/
def code_slices_Clone_string_string : AFunc := ⟨8, [.tmp 2],
  .seq (.region 0 [
    ⟨(some 2), .mov (.c (.d (.vs true []))), none, []⟩] false)
  (.guard (.region 1 [
    ⟨(some 3), .mov (.t 0), none, []⟩,
    ⟨(some 4), .isnil .s false (.t 3), none, []⟩] false) (.t 4)
    (.seq (.region 2 [
      ⟨(some 2), .mov (.c (.d (.vs true []))), none, []⟩] false)
    (.mask ⟨[2], [.slot 2 10000020 1]⟩ (.ret)))
  (.mask ⟨[0], []⟩ (.seq (.region 3 [
    ⟨(some 5), .buildSl 1 [(.str [])] 0 [], none, []⟩,
    ⟨(some 6), .mov (.t 0), none, []⟩,
    ⟨(some 7), .append 1 (.t 5) (.t 6), none, []⟩,
    ⟨(some 2), .mov (.t 7), none, []⟩] false)
  (.mask ⟨[2], [.slot 2 10000020 1]⟩ (.ret)))))⟩
def mask_ref05_Set_0 : Mask := ⟨[1, 2, 4, 7, 8, 12, 13], [.slot 12 10000120 6]⟩
def body_ref05_Set_0 : ACode :=
  .seq (.seq (.region 11 [
    ⟨(some 31), .mov (.t 13), none, []⟩,
    ⟨(some 32), .faddr 1 (.t 4), none, []⟩,
    ⟨(some 33), .load 1 false (.t 32), none, []⟩,
    ⟨(some 34), .len .sl (.t 33), none, []⟩,
    ⟨(some 35), .bin .lss (.t 31) (.t 34), none, []⟩] false)
  (.cond (.t 35)
    (.skip)
    (.mask ⟨[1, 2, 4, 7, 8, 12], [.slot 12 10000120 6]⟩ (.exit 0))))
  (.mask ⟨[1, 2, 4, 7, 8, 12, 13], [.slot 12 10000120 6]⟩ (.seq (.block 1 (.seq (.region 13 [
    ⟨(some 38), .faddr 1 (.t 4), none, []⟩,
    ⟨(some 39), .load 1 false (.t 38), none, []⟩,
    ⟨(some 40), .mov (.t 13), none, []⟩,
    ⟨(some 41), .iaddr 6 (.t 39) (.t 40), none, []⟩,
    ⟨(some 42), .faddr 0 (.t 41), none, []⟩,
    ⟨(some 43), .load 1 false (.t 42), none, []⟩,
    ⟨(some 44), .mov (.t 1), none, []⟩,
    ⟨(some 45), .bin .neq (.t 43) (.t 44), none, []⟩,
    ⟨(some 46), .mov (.t 45), none, []⟩,
    ⟨(some 47), .faddr 1 (.t 4), (some (46, false)), []⟩,
    ⟨(some 48), .load 1 false (.t 47), (some (46, false)), []⟩,
    ⟨(some 49), .mov (.t 13), (some (46, false)), []⟩,
    ⟨(some 50), .iaddr 6 (.t 48) (.t 49), (some (46, false)), []⟩,
    ⟨(some 51), .faddr 1 (.t 50), (some (46, false)), []⟩,
    ⟨(some 52), .load 1 false (.t 51), (some (46, false)), []⟩,
    ⟨(some 53), .mov (.t 2), (some (46, false)), []⟩,
    ⟨(some 54), .bin .neq (.t 52) (.t 53), (some (46, false)), []⟩,
    ⟨(some 55), .pick (.t 46) (.c (.d (.bool true))) (.t 54), none, []⟩] false)
  (.mask ⟨[1, 2, 4, 7, 8, 12, 13, 55], [.slot 12 10000120 6]⟩ (.cond (.t 55)
    (.region 14 [
      ⟨(some 56), .mov (.t 12), none, []⟩,
      ⟨(some 57), .faddr 1 (.t 4), none, []⟩,
      ⟨(some 58), .load 1 false (.t 57), none, []⟩,
      ⟨(some 59), .mov (.t 13), none, []⟩,
      ⟨(some 60), .iaddr 6 (.t 58) (.t 59), none, []⟩,
      ⟨(some 61), .load 6 true (.t 60), none, []⟩,
      ⟨(some 62), .buildSl 6 [(.str []), (.str []), (.int .i64 (0)), (.int .i64 (0)), (.str []), (.vs false [])] 1 [(0, (.t 61))], none, []⟩,
      ⟨(some 63), .append 6 (.t 56) (.t 62), none, []⟩,
      ⟨(some 12), .mov (.t 63), none, []⟩] false)
    (.skip)))))
  (.mask ⟨[1, 2, 4, 7, 8, 12, 13], [.slot 12 10000120 6]⟩ (.region 12 [
    ⟨(some 36), .mov (.t 13), none, []⟩,
    ⟨(some 37), .bin .add (.t 36) (.c (.d (.int .i64 (1)))), none, []⟩,
    ⟨(some 13), .mov (.t 37), none, []⟩] false))))
/-- beadle/beadleref05.Set -/
def code_ref05_Set : AFunc := ⟨75, [.cell 8 2 true, .tmp 9],
  .seq (.region 0 [
    ⟨(some 4), .box 2 (.t 0), none, []⟩,
    ⟨(some 7), .box 4 (.t 3), none, []⟩,
    ⟨(some 8), .box 2 (.c (.agg [(.d (.vs true [])), (.d (.vs true []))])), none, []⟩,
    ⟨(some 9), .mov (.c (.d (.int .i64 (0)))), none, []⟩] false)
  (.seq (.region 1 [
    ⟨(some 14), .load 2 true (.t 4), none, []⟩,
    ⟨(some 15), .mov (.t 2), none, []⟩,
    ⟨(some 16), .call (.c (.fn F_ref05_Kind [])) [(.t 14), (.t 15)], none, []⟩,
    ⟨(some 10), .mov (.t 16), none, []⟩] false)
  (.seq (.seq (.region 2 [
    ⟨(some 17), .mov (.t 10), none, []⟩,
    ⟨(some 18), .bin .eql (.t 17) (.c (.d (.int .i64 (0)))), none, []⟩] false)
  (.cond (.t 18)
    (.seq (.region 3 [
      ⟨(some 19), .load 2 true (.t 4), none, []⟩,
      ⟨none, .store 2 (.t 8) (.t 19), none, []⟩,
      ⟨(some 9), .mov (.c (.d (.int .i64 (14)))), none, []⟩] false)
    (.mask ⟨[8, 9], []⟩ (.ret)))
    (.skip)))
  (.mask ⟨[1, 2, 4, 7, 8, 10], []⟩ (.seq (.seq (.region 4 [
    ⟨(some 20), .mov (.t 10), none, []⟩,
    ⟨(some 21), .faddr 0 (.t 7), none, []⟩,
    ⟨(some 22), .load 1 false (.t 21), none, []⟩,
    ⟨(some 23), .bin .neq (.t 20) (.t 22), none, []⟩] false)
  (.cond (.t 23)
    (.seq (.region 5 [
      ⟨(some 24), .load 2 true (.t 4), none, []⟩,
      ⟨none, .store 2 (.t 8) (.t 24), none, []⟩,
      ⟨(some 9), .mov (.c (.d (.int .i64 (31)))), none, []⟩] false)
    (.mask ⟨[8, 9], []⟩ (.ret)))
    (.skip)))
  (.mask ⟨[1, 2, 4, 7, 8], []⟩ (.seq (.seq (.region 6 [
    ⟨(some 25), .load 4 true (.t 7), none, []⟩,
    ⟨(some 26), .call (.c (.fn F_ref02_Check [])) [(.t 25)], none, []⟩,
    ⟨(some 11), .mov (.t 26), none, []⟩] false)
  (.seq (.region 7 [
    ⟨(some 27), .mov (.t 11), none, []⟩,
    ⟨(some 28), .bin .neq (.t 27) (.c (.d (.int .i64 (0)))), none, []⟩] false)
  (.cond (.t 28)
    (.seq (.region 8 [
      ⟨(some 29), .load 2 true (.t 4), none, []⟩,
      ⟨(some 30), .mov (.t 11), none, []⟩,
      ⟨none, .store 2 (.t 8) (.t 29), none, []⟩,
      ⟨(some 9), .mov (.t 30), none, []⟩] false)
    (.mask ⟨[8, 9], []⟩ (.ret)))
    (.skip))))
  (.mask ⟨[1, 2, 4, 7, 8], []⟩ (.seq (.region 9 [
    ⟨(some 12), .mov (.c (.d (.vs true []))), none, []⟩] false)
  (.seq (.seq (.region 10 [
    ⟨(some 13), .mov (.c (.d (.int .i64 (0)))), none, []⟩] false)
  (.block 0 (.loop mask_ref05_Set_0 body_ref05_Set_0)))
  (.mask ⟨[1, 2, 4, 7, 8, 12], [.slot 12 10000120 6]⟩ (.seq (.region 15 [
    ⟨(some 64), .mov (.t 12), none, []⟩,
    ⟨(some 65), .mov (.t 1), none, []⟩,
    ⟨(some 66), .mov (.t 2), none, []⟩,
    ⟨(some 67), .load 4 true (.t 7), none, []⟩,
    ⟨(some 68), .build [(.d (.str [])), (.d (.str [])), (.d (.int .i64 (0))), (.d (.int .i64 (0))), (.d (.str [])), (.d (.vs true []))] [(0, 1, (.t 65)), (1, 1, (.t 66)), (2, 4, (.t 67))], none, []⟩,
    ⟨(some 69), .buildSl 6 [(.str []), (.str []), (.int .i64 (0)), (.int .i64 (0)), (.str []), (.vs false [])] 1 [(0, (.t 68))], none, []⟩,
    ⟨(some 70), .append 6 (.t 64) (.t 69), none, []⟩,
    ⟨(some 12), .mov (.t 70), none, []⟩] false)
  (.seq (.region 16 [
    ⟨(some 71), .faddr 0 (.t 4), none, []⟩,
    ⟨(some 72), .load 1 false (.t 71), none, []⟩,
    ⟨(some 73), .mov (.t 12), none, []⟩,
    ⟨(some 74), .build [(.d (.vs true [])), (.d (.vs true []))] [(0, 1, (.t 72)), (1, 1, (.t 73))], none, []⟩,
    ⟨none, .store 2 (.t 8) (.t 74), none, []⟩,
    ⟨(some 9), .mov (.c (.d (.int .i64 (0)))), none, []⟩] false)
  (.mask ⟨[8, 9], []⟩ (.ret))))))))))))))⟩
def mask_ref05_Get_0 : Mask := ⟨[1, 2, 3, 6, 8, 9], []⟩
def body_ref05_Get_0 : ACode :=
  .seq (.seq (.region 5 [
    ⟨(some 20), .mov (.t 9), none, []⟩,
    ⟨(some 21), .bin .geq (.t 20) (.c (.d (.int .i64 (0)))), none, []⟩] false)
  (.cond (.t 21)
    (.skip)
    (.mask ⟨[6, 8], []⟩ (.exit 0))))
  (.mask ⟨[1, 2, 3, 6, 8, 9], []⟩ (.seq (.block 1 (.seq (.region 7 [
    ⟨(some 24), .faddr 1 (.t 3), none, []⟩,
    ⟨(some 25), .load 1 false (.t 24), none, []⟩,
    ⟨(some 26), .mov (.t 9), none, []⟩,
    ⟨(some 27), .iaddr 6 (.t 25) (.t 26), none, []⟩,
    ⟨(some 28), .faddr 0 (.t 27), none, []⟩,
    ⟨(some 29), .load 1 false (.t 28), none, []⟩,
    ⟨(some 30), .mov (.t 1), none, []⟩,
    ⟨(some 31), .bin .eql (.t 29) (.t 30), none, []⟩,
    ⟨(some 32), .mov (.t 31), none, []⟩,
    ⟨(some 33), .faddr 1 (.t 3), (some (32, true)), []⟩,
    ⟨(some 34), .load 1 false (.t 33), (some (32, true)), []⟩,
    ⟨(some 35), .mov (.t 9), (some (32, true)), []⟩,
    ⟨(some 36), .iaddr 6 (.t 34) (.t 35), (some (32, true)), []⟩,
    ⟨(some 37), .faddr 1 (.t 36), (some (32, true)), []⟩,
    ⟨(some 38), .load 1 false (.t 37), (some (32, true)), []⟩,
    ⟨(some 39), .mov (.t 2), (some (32, true)), []⟩,
    ⟨(some 40), .bin .eql (.t 38) (.t 39), (some (32, true)), []⟩,
    ⟨(some 41), .pick (.t 32) (.t 40) (.c (.d (.bool false))), none, []⟩] false)
  (.mask ⟨[1, 2, 3, 6, 8, 9, 41], []⟩ (.cond (.t 41)
    (.seq (.region 8 [
      ⟨(some 42), .faddr 1 (.t 3), none, []⟩,
      ⟨(some 43), .load 1 false (.t 42), none, []⟩,
      ⟨(some 44), .mov (.t 9), none, []⟩,
      ⟨(some 45), .iaddr 6 (.t 43) (.t 44), none, []⟩,
      ⟨(some 46), .faddr 2 (.t 45), none, []⟩,
      ⟨(some 47), .load 4 true (.t 46), none, []⟩,
      ⟨none, .store 4 (.t 6) (.t 47), none, []⟩,
      ⟨(some 7), .mov (.c (.d (.bool true))), none, []⟩] false)
    (.mask ⟨[6, 7], []⟩ (.ret)))
    (.skip)))))
  (.mask ⟨[1, 2, 3, 6, 8, 9], []⟩ (.region 6 [
    ⟨(some 22), .mov (.t 9), none, []⟩,
    ⟨(some 23), .bin .sub (.t 22) (.c (.d (.int .i64 (1)))), none, []⟩,
    ⟨(some 9), .mov (.t 23), none, []⟩] false))))
/-- beadle/beadleref05.Get -/
def code_ref05_Get : AFunc := ⟨50, [.cell 6 4 true, .tmp 7],
  .seq (.region 0 [
    ⟨(some 3), .box 2 (.t 0), none, []⟩,
    ⟨(some 6), .box 4 (.c (.agg [(.d (.int .i64 (0))), (.d (.int .i64 (0))), (.d (.str [])), (.d (.vs true []))])), none, []⟩,
    ⟨(some 7), .mov (.c (.d (.bool false))), none, []⟩] false)
  (.seq (.region 1 [
    ⟨(some 10), .load 2 true (.t 3), none, []⟩,
    ⟨(some 11), .mov (.t 2), none, []⟩,
    ⟨(some 12), .call (.c (.fn F_ref05_Kind [])) [(.t 10), (.t 11)], none, []⟩,
    ⟨(some 8), .mov (.t 12), none, []⟩] false)
  (.seq (.seq (.region 2 [
    ⟨(some 13), .mov (.t 8), none, []⟩,
    ⟨(some 14), .bin .eql (.t 13) (.c (.d (.int .i64 (0)))), none, []⟩] false)
  (.cond (.t 14)
    (.seq (.region 3 [
      ⟨(some 15), .build [(.d (.int .i64 (0))), (.d (.int .i64 (0))), (.d (.str [])), (.d (.vs true []))] [], none, []⟩,
      ⟨none, .store 4 (.t 6) (.t 15), none, []⟩,
      ⟨(some 7), .mov (.c (.d (.bool false))), none, []⟩] false)
    (.mask ⟨[6, 7], []⟩ (.ret)))
    (.skip)))
  (.mask ⟨[1, 2, 3, 6, 8], []⟩ (.seq (.seq (.region 4 [
    ⟨(some 16), .faddr 1 (.t 3), none, []⟩,
    ⟨(some 17), .load 1 false (.t 16), none, []⟩,
    ⟨(some 18), .len .sl (.t 17), none, []⟩,
    ⟨(some 19), .bin .sub (.t 18) (.c (.d (.int .i64 (1)))), none, []⟩,
    ⟨(some 9), .mov (.t 19), none, []⟩] false)
  (.block 0 (.loop mask_ref05_Get_0 body_ref05_Get_0)))
  (.mask ⟨[6, 8], []⟩ (.seq (.region 9 [
    ⟨(some 48), .mov (.t 8), none, []⟩,
    ⟨(some 49), .build [(.d (.int .i64 (0))), (.d (.int .i64 (0))), (.d (.str [])), (.d (.vs true []))] [(0, 1, (.t 48))], none, []⟩,
    ⟨none, .store 4 (.t 6) (.t 49), none, []⟩,
    ⟨(some 7), .mov (.c (.d (.bool true))), none, []⟩] false)
  (.mask ⟨[6, 7], []⟩ (.ret))))))))⟩
def mask_ref05_Kind_0 : Mask := ⟨[1, 2, 5], []⟩
def body_ref05_Kind_0 : ACode :=
  .seq (.seq (.region 2 [
    ⟨(some 6), .mov (.t 5), none, []⟩,
    ⟨(some 7), .faddr 0 (.t 2), none, []⟩,
    ⟨(some 8), .load 1 false (.t 7), none, []⟩,
    ⟨(some 9), .len .sl (.t 8), none, []⟩,
    ⟨(some 10), .bin .lss (.t 6) (.t 9), none, []⟩] false)
  (.cond (.t 10)
    (.skip)
    (.mask ⟨[], []⟩ (.exit 0))))
  (.mask ⟨[1, 2, 5], []⟩ (.seq (.block 1 (.seq (.region 4 [
    ⟨(some 13), .faddr 0 (.t 2), none, []⟩,
    ⟨(some 14), .load 1 false (.t 13), none, []⟩,
    ⟨(some 15), .mov (.t 5), none, []⟩,
    ⟨(some 16), .iaddr 2 (.t 14) (.t 15), none, []⟩,
    ⟨(some 17), .faddr 0 (.t 16), none, []⟩,
    ⟨(some 18), .load 1 false (.t 17), none, []⟩,
    ⟨(some 19), .mov (.t 1), none, []⟩,
    ⟨(some 20), .bin .eql (.t 18) (.t 19), none, []⟩,
    ⟨(some 21), .mov (.t 20), none, []⟩,
    ⟨(some 22), .faddr 0 (.t 2), (some (21, true)), []⟩,
    ⟨(some 23), .load 1 false (.t 22), (some (21, true)), []⟩,
    ⟨(some 24), .mov (.t 5), (some (21, true)), []⟩,
    ⟨(some 25), .iaddr 2 (.t 23) (.t 24), (some (21, true)), []⟩,
    ⟨(some 26), .faddr 1 (.t 25), (some (21, true)), []⟩,
    ⟨(some 27), .load 1 false (.t 26), (some (21, true)), []⟩,
    ⟨(some 28), .bin .geq (.t 27) (.c (.d (.int .i64 (1)))), (some (21, true)), []⟩,
    ⟨(some 29), .pick (.t 21) (.t 28) (.c (.d (.bool false))), none, []⟩,
    ⟨(some 30), .mov (.t 29), none, []⟩,
    ⟨(some 31), .faddr 0 (.t 2), (some (30, true)), []⟩,
    ⟨(some 32), .load 1 false (.t 31), (some (30, true)), []⟩,
    ⟨(some 33), .mov (.t 5), (some (30, true)), []⟩,
    ⟨(some 34), .iaddr 2 (.t 32) (.t 33), (some (30, true)), []⟩,
    ⟨(some 35), .faddr 1 (.t 34), (some (30, true)), []⟩,
    ⟨(some 36), .load 1 false (.t 35), (some (30, true)), []⟩,
    ⟨(some 37), .bin .leq (.t 36) (.c (.d (.int .i64 (4)))), (some (30, true)), []⟩,
    ⟨(some 38), .pick (.t 30) (.t 37) (.c (.d (.bool false))), none, []⟩] false)
  (.mask ⟨[1, 2, 5, 38], []⟩ (.cond (.t 38)
    (.seq (.region 5 [
      ⟨(some 39), .faddr 0 (.t 2), none, []⟩,
      ⟨(some 40), .load 1 false (.t 39), none, []⟩,
      ⟨(some 41), .mov (.t 5), none, []⟩,
      ⟨(some 42), .iaddr 2 (.t 40) (.t 41), none, []⟩,
      ⟨(some 43), .faddr 1 (.t 42), none, []⟩,
      ⟨(some 44), .load 1 false (.t 43), none, []⟩,
      ⟨(some 4), .mov (.t 44), none, []⟩] false)
    (.mask ⟨[4], []⟩ (.ret)))
    (.skip)))))
  (.mask ⟨[1, 2, 5], []⟩ (.region 3 [
    ⟨(some 11), .mov (.t 5), none, []⟩,
    ⟨(some 12), .bin .add (.t 11) (.c (.d (.int .i64 (1)))), none, []⟩,
    ⟨(some 5), .mov (.t 12), none, []⟩] false))))
/-- beadle/beadleref05.Kind -/
def code_ref05_Kind : AFunc := ⟨45, [.tmp 4],
  .seq (.region 0 [
    ⟨(some 2), .box 2 (.t 0), none, []⟩,
    ⟨(some 4), .mov (.c (.d (.int .i64 (0)))), none, []⟩] false)
  (.seq (.seq (.region 1 [
    ⟨(some 5), .mov (.c (.d (.int .i64 (0)))), none, []⟩] false)
  (.block 0 (.loop mask_ref05_Kind_0 body_ref05_Kind_0)))
  (.mask ⟨[], []⟩ (.seq (.region 6 [
    ⟨(some 4), .mov (.c (.d (.int .i64 (0)))), none, []⟩] false)
  (.mask ⟨[4], []⟩ (.ret)))))⟩
def mask_law05_names_0 : Mask := ⟨[1, 2, 5, 6], [.slot 5 10000050 1]⟩
def body_law05_names_0 : ACode :=
  .seq (.seq (.region 3 [
    ⟨(some 7), .mov (.t 6), none, []⟩,
    ⟨(some 8), .faddr 1 (.t 2), none, []⟩,
    ⟨(some 9), .load 1 false (.t 8), none, []⟩,
    ⟨(some 10), .len .sl (.t 9), none, []⟩,
    ⟨(some 11), .bin .lss (.t 7) (.t 10), none, []⟩] false)
  (.cond (.t 11)
    (.skip)
    (.mask ⟨[5], [.slot 5 10000050 1]⟩ (.exit 0))))
  (.mask ⟨[1, 2, 5, 6], [.slot 5 10000050 1]⟩ (.seq (.block 1 (.seq (.region 5 [
    ⟨(some 14), .faddr 1 (.t 2), none, []⟩,
    ⟨(some 15), .load 1 false (.t 14), none, []⟩,
    ⟨(some 16), .mov (.t 6), none, []⟩,
    ⟨(some 17), .iaddr 6 (.t 15) (.t 16), none, []⟩,
    ⟨(some 18), .faddr 0 (.t 17), none, []⟩,
    ⟨(some 19), .load 1 false (.t 18), none, []⟩,
    ⟨(some 20), .mov (.t 1), none, []⟩,
    ⟨(some 21), .bin .eql (.t 19) (.t 20), none, []⟩] false)
  (.cond (.t 21)
    (.region 6 [
      ⟨(some 22), .mov (.t 5), none, []⟩,
      ⟨(some 23), .faddr 1 (.t 2), none, []⟩,
      ⟨(some 24), .load 1 false (.t 23), none, []⟩,
      ⟨(some 25), .mov (.t 6), none, []⟩,
      ⟨(some 26), .iaddr 6 (.t 24) (.t 25), none, []⟩,
      ⟨(some 27), .faddr 1 (.t 26), none, []⟩,
      ⟨(some 28), .load 1 false (.t 27), none, []⟩,
      ⟨(some 29), .buildSl 1 [(.str [])] 1 [(0, (.t 28))], none, []⟩,
      ⟨(some 30), .append 1 (.t 22) (.t 29), none, []⟩,
      ⟨(some 5), .mov (.t 30), none, []⟩] false)
    (.skip))))
  (.mask ⟨[1, 2, 5, 6], [.slot 5 10000050 1]⟩ (.region 4 [
    ⟨(some 12), .mov (.t 6), none, []⟩,
    ⟨(some 13), .bin .add (.t 12) (.c (.d (.int .i64 (1)))), none, []⟩,
    ⟨(some 6), .mov (.t 13), none, []⟩] false))))
/-- beadle/beadlelaw05.names -/
def code_law05_names : AFunc := ⟨33, [.tmp 4],
  .seq (.region 0 [
    ⟨(some 2), .box 2 (.t 0), none, []⟩,
    ⟨(some 4), .mov (.c (.d (.vs true []))), none, []⟩] false)
  (.seq (.region 1 [
    ⟨(some 5), .mov (.c (.d (.vs true []))), none, []⟩] false)
  (.seq (.seq (.region 2 [
    ⟨(some 6), .mov (.c (.d (.int .i64 (0)))), none, []⟩] false)
  (.block 0 (.loop mask_law05_names_0 body_law05_names_0)))
  (.mask ⟨[5], [.slot 5 10000050 1]⟩ (.seq (.region 7 [
    ⟨(some 31), .mov (.t 5), none, []⟩,
    ⟨(some 32), .call (.c (.fn F_plain_Rising [])) [(.t 31)], none, []⟩,
    ⟨(some 4), .mov (.t 32), none, []⟩] false)
  (.mask ⟨[4], []⟩ (.ret))))))⟩
/-- math/bits.Len -/
def code_math_bits_Len : AFunc := ⟨8, [.tmp 2],
  .seq (.region 0 [
    ⟨(some 2), .mov (.c (.d (.int .i64 (0)))), none, []⟩] false)
  (.seq (.cond (.c (.d (.bool false)))
    (.seq (.region 1 [
      ⟨(some 3), .mov (.t 0), none, []⟩,
      ⟨(some 4), .toInt .u32 (.t 3), none, []⟩,
      ⟨(some 5), .call (.c (.fn F_math_bits_Len32 [])) [(.t 4)], none, []⟩,
      ⟨(some 2), .mov (.t 5), none, []⟩] false)
    (.mask ⟨[2], []⟩ (.ret)))
    (.skip))
  (.mask ⟨[0], []⟩ (.seq (.region 2 [
    ⟨(some 6), .mov (.t 0), none, []⟩,
    ⟨(some 7), .call (.c (.fn F_math_bits_Len64 [])) [(.t 6)], none, []⟩,
    ⟨(some 2), .mov (.t 7), none, []⟩] false)
  (.mask ⟨[2], []⟩ (.ret)))))⟩
def mask_slices_pdqsortOrdered_string_0 : Mask := ⟨[0, 1, 2, 3, 8, 9], []⟩
def body_slices_pdqsortOrdered_string_0 : ACode :=
  .block 1 (.seq (.region 2 [
    ⟨(some 19), .mov (.t 2), none, []⟩,
    ⟨(some 20), .mov (.t 1), none, []⟩,
    ⟨(some 21), .bin .sub (.t 19) (.t 20), none, []⟩,
    ⟨(some 10), .mov (.t 21), none, []⟩] false)
  (.seq (.seq (.region 3 [
    ⟨(some 22), .mov (.t 10), none, []⟩,
    ⟨(some 23), .bin .leq (.t 22) (.c (.d (.int .i64 (12)))), none, []⟩] false)
  (.cond (.t 23)
    (.seq (.region 4 [
      ⟨(some 24), .mov (.t 0), none, []⟩,
      ⟨(some 25), .mov (.t 1), none, []⟩,
      ⟨(some 26), .mov (.t 2), none, []⟩,
      ⟨(some 27), .call (.c (.fn F_slices_insertionSortOrdered_string [])) [(.t 24), (.t 25), (.t 26)], none, []⟩] false)
    (.mask ⟨[], []⟩ (.ret)))
    (.skip)))
  (.mask ⟨[0, 1, 2, 3, 8, 9, 10], []⟩ (.seq (.seq (.region 5 [
    ⟨(some 28), .mov (.t 3), none, []⟩,
    ⟨(some 29), .bin .eql (.t 28) (.c (.d (.int .i64 (0)))), none, []⟩] false)
  (.cond (.t 29)
    (.seq (.region 6 [
      ⟨(some 30), .mov (.t 0), none, []⟩,
      ⟨(some 31), .mov (.t 1), none, []⟩,
      ⟨(some 32), .mov (.t 2), none, []⟩,
      ⟨(some 33), .call (.c (.fn F_slices_heapSortOrdered_string [])) [(.t 30), (.t 31), (.t 32)], none, []⟩] false)
    (.mask ⟨[], []⟩ (.ret)))
    (.skip)))
  (.mask ⟨[0, 1, 2, 3, 8, 9, 10], []⟩ (.seq (.seq (.region 7 [
    ⟨(some 34), .mov (.t 8), none, []⟩,
    ⟨(some 35), .un .not (.t 34), none, []⟩] false)
  (.cond (.t 35)
    (.seq (.region 8 [
      ⟨(some 36), .mov (.t 0), none, []⟩,
      ⟨(some 37), .mov (.t 1), none, []⟩,
      ⟨(some 38), .mov (.t 2), none, []⟩,
      ⟨(some 39), .call (.c (.fn F_slices_breakPatternsOrdered_string [])) [(.t 36), (.t 37), (.t 38)], none, []⟩] false)
    (.region 9 [
      ⟨(some 40), .mov (.t 3), none, []⟩,
      ⟨(some 41), .bin .sub (.t 40) (.c (.d (.int .i64 (1)))), none, []⟩,
      ⟨(some 3), .mov (.t 41), none, []⟩] false))
    (.skip)))
  (.mask ⟨[0, 1, 2, 3, 8, 9, 10], []⟩ (.seq (.region 10 [
    ⟨(some 43), .mov (.t 0), none, []⟩,
    ⟨(some 44), .mov (.t 1), none, []⟩,
    ⟨(some 45), .mov (.t 2), none, []⟩,
    ⟨(some 46), .call (.c (.fn F_slices_choosePivotOrdered_string [])) [(.t 43), (.t 44), (.t 45)], none, []⟩,
    ⟨(some 42), .mov (.t 46), none, []⟩,
    ⟨(some 47), .extract (.t 42) 0, none, []⟩,
    ⟨(some 48), .extract (.t 42) 1, none, []⟩,
    ⟨(some 11), .mov (.t 47), none, []⟩,
    ⟨(some 12), .mov (.t 48), none, []⟩] false)
  (.seq (.seq (.region 11 [
    ⟨(some 49), .mov (.t 12), none, []⟩,
    ⟨(some 50), .bin .eql (.t 49) (.c (.d (.int .i64 (2)))), none, []⟩] false)
  (.cond (.t 50)
    (.seq (.region 12 [
      ⟨(some 51), .mov (.t 0), none, []⟩,
      ⟨(some 52), .mov (.t 1), none, []⟩,
      ⟨(some 53), .mov (.t 2), none, []⟩,
      ⟨(some 54), .call (.c (.fn F_slices_reverseRangeOrdered_string [])) [(.t 51), (.t 52), (.t 53)], none, []⟩] false)
    (.seq (.region 13 [
      ⟨(some 55), .mov (.t 2), none, []⟩,
      ⟨(some 56), .bin .sub (.t 55) (.c (.d (.int .i64 (1)))), none, []⟩,
      ⟨(some 57), .mov (.t 11), none, []⟩,
      ⟨(some 58), .mov (.t 1), none, []⟩,
      ⟨(some 59), .bin .sub (.t 57) (.t 58), none, []⟩,
      ⟨(some 60), .bin .sub (.t 56) (.t 59), none, []⟩,
      ⟨(some 11), .mov (.t 60), none, []⟩] false)
    (.region 14 [
      ⟨(some 12), .mov (.c (.d (.int .i64 (1)))), none, []⟩] false)))
    (.skip)))
  (.mask ⟨[0, 1, 2, 3, 8, 9, 10, 11, 12], []⟩ (.seq (.seq (.region 15 [
    ⟨(some 61), .mov (.t 8), none, []⟩,
    ⟨(some 62), .mov (.t 61), none, []⟩,
    ⟨(some 63), .mov (.t 9), (some (62, true)), []⟩,
    ⟨(some 64), .pick (.t 62) (.t 63) (.c (.d (.bool false))), none, []⟩,
    ⟨(some 65), .mov (.t 64), none, []⟩,
    ⟨(some 66), .mov (.t 12), (some (65, true)), []⟩,
    ⟨(some 67), .bin .eql (.t 66) (.c (.d (.int .i64 (1)))), (some (65, true)), []⟩,
    ⟨(some 68), .pick (.t 65) (.t 67) (.c (.d (.bool false))), none, []⟩] false)
  (.mask ⟨[0, 1, 2, 3, 8, 9, 10, 11, 68], []⟩ (.cond (.t 68)
    (.seq (.region 16 [
      ⟨(some 69), .mov (.t 0), none, []⟩,
      ⟨(some 70), .mov (.t 1), none, []⟩,
      ⟨(some 71), .mov (.t 2), none, []⟩,
      ⟨(some 72), .call (.c (.fn F_slices_partialInsertionSortOrdered_string [])) [(.t 69), (.t 70), (.t 71)], none, []⟩] false)
    (.cond (.t 72)
      (.mask ⟨[], []⟩ (.ret))
      (.skip)))
    (.skip))))
  (.mask ⟨[0, 1, 2, 3, 8, 9, 10, 11], []⟩ (.seq (.seq (.region 17 [
    ⟨(some 73), .mov (.t 1), none, []⟩,
    ⟨(some 74), .bin .gtr (.t 73) (.c (.d (.int .i64 (0)))), none, [0]⟩,
    ⟨(some 75), .mov (.t 74), none, [0, 1]⟩,
    ⟨(some 76), .mov (.t 0), (some (75, true)), [0, 1, 2]⟩,
    ⟨(some 77), .mov (.t 1), (some (75, true)), [0, 1, 2]⟩,
    ⟨(some 78), .bin .sub (.t 77) (.c (.d (.int .i64 (1)))), (some (75, true)), [0, 1, 2, 4]⟩,
    ⟨(some 79), .iaddr 1 (.t 76) (.t 78), (some (75, true)), [0, 1, 2, 3, 4, 5]⟩,
    ⟨(some 80), .load 1 false (.t 79), (some (75, true)), [0, 1, 2, 3, 4, 5, 6]⟩,
    ⟨(some 81), .mov (.t 0), (some (75, true)), [0, 1, 2]⟩,
    ⟨(some 82), .mov (.t 11), (some (75, true)), [0, 1, 2]⟩,
    ⟨(some 83), .iaddr 1 (.t 81) (.t 82), (some (75, true)), [0, 1, 2, 8, 9]⟩,
    ⟨(some 84), .load 1 false (.t 83), (some (75, true)), [0, 1, 2, 8, 9, 10]⟩,
    ⟨(some 85), .call (.c (.fn F_cmp_Less_string [])) [(.t 80), (.t 84)], (some (75, true)), [0, 1, 2, 3, 4, 5, 6, 7, 8, 9, 10, 11]⟩,
    ⟨(some 86), .un .not (.t 85), (some (75, true)), [0, 1, 2, 3, 4, 5, 6, 7, 8, 9, 10, 11, 12]⟩,
    ⟨(some 87), .pick (.t 75) (.t 86) (.c (.d (.bool false))), none, [0, 1, 2, 3, 4, 5, 6, 7, 8, 9, 10, 11, 12, 13]⟩] true)
  (.mask ⟨[0, 1, 2, 3, 8, 9, 10, 11, 87], []⟩ (.cond (.t 87)
    (.seq (.region 18 [
      ⟨(some 88), .mov (.t 0), none, []⟩,
      ⟨(some 89), .mov (.t 1), none, []⟩,
      ⟨(some 90), .mov (.t 2), none, []⟩,
      ⟨(some 91), .mov (.t 11), none, []⟩,
      ⟨(some 92), .call (.c (.fn F_slices_partitionEqualOrdered_string [])) [(.t 88), (.t 89), (.t 90), (.t 91)], none, []⟩,
      ⟨(some 13), .mov (.t 92), none, []⟩] false)
    (.seq (.region 19 [
      ⟨(some 93), .mov (.t 13), none, []⟩,
      ⟨(some 1), .mov (.t 93), none, []⟩] false)
    (.mask ⟨[0, 1, 2, 3, 8, 9], []⟩ (.exit 1))))
    (.skip))))
  (.mask ⟨[0, 1, 2, 3, 10, 11], []⟩ (.seq (.region 20 [
    ⟨(some 95), .mov (.t 0), none, []⟩,
    ⟨(some 96), .mov (.t 1), none, []⟩,
    ⟨(some 97), .mov (.t 2), none, []⟩,
    ⟨(some 98), .mov (.t 11), none, []⟩,
    ⟨(some 99), .call (.c (.fn F_slices_partitionOrdered_string [])) [(.t 95), (.t 96), (.t 97), (.t 98)], none, []⟩,
    ⟨(some 94), .mov (.t 99), none, []⟩,
    ⟨(some 100), .extract (.t 94) 0, none, []⟩,
    ⟨(some 101), .extract (.t 94) 1, none, []⟩,
    ⟨(some 14), .mov (.t 100), none, []⟩,
    ⟨(some 15), .mov (.t 101), none, []⟩] false)
  (.seq (.region 21 [
    ⟨(some 102), .mov (.t 15), none, []⟩,
    ⟨(some 9), .mov (.t 102), none, []⟩] false)
  (.seq (.region 22 [
    ⟨(some 103), .mov (.t 14), none, []⟩,
    ⟨(some 104), .mov (.t 1), none, []⟩,
    ⟨(some 105), .bin .sub (.t 103) (.t 104), none, []⟩,
    ⟨(some 106), .mov (.t 2), none, []⟩,
    ⟨(some 107), .mov (.t 14), none, []⟩,
    ⟨(some 108), .bin .sub (.t 106) (.t 107), none, []⟩,
    ⟨(some 16), .mov (.t 105), none, []⟩,
    ⟨(some 17), .mov (.t 108), none, []⟩] false)
  (.seq (.region 23 [
    ⟨(some 109), .mov (.t 10), none, []⟩,
    ⟨(some 110), .bin .quo (.t 109) (.c (.d (.int .i64 (8)))), none, []⟩,
    ⟨(some 18), .mov (.t 110), none, []⟩] false)
  (.seq (.region 24 [
    ⟨(some 111), .mov (.t 16), none, []⟩,
    ⟨(some 112), .mov (.t 17), none, []⟩,
    ⟨(some 113), .bin .lss (.t 111) (.t 112), none, []⟩] false)
  (.cond (.t 113)
    (.seq (.region 25 [
      ⟨(some 114), .mov (.t 16), none, []⟩,
      ⟨(some 115), .mov (.t 18), none, []⟩,
      ⟨(some 116), .bin .geq (.t 114) (.t 115), none, []⟩,
      ⟨(some 8), .mov (.t 116), none, []⟩] false)
    (.seq (.region 26 [
      ⟨(some 117), .mov (.t 0), none, []⟩,
      ⟨(some 118), .mov (.t 1), none, []⟩,
      ⟨(some 119), .mov (.t 14), none, []⟩,
      ⟨(some 120), .mov (.t 3), none, []⟩,
      ⟨(some 121), .call (.c (.fn F_slices_pdqsortOrdered_string [])) [(.t 117), (.t 118), (.t 119), (.t 120)], none, []⟩] false)
    (.region 27 [
      ⟨(some 122), .mov (.t 14), none, []⟩,
      ⟨(some 123), .bin .add (.t 122) (.c (.d (.int .i64 (1)))), none, []⟩,
      ⟨(some 1), .mov (.t 123), none, []⟩] false)))
    (.seq (.region 28 [
      ⟨(some 124), .mov (.t 17), none, []⟩,
      ⟨(some 125), .mov (.t 18), none, []⟩,
      ⟨(some 126), .bin .geq (.t 124) (.t 125), none, []⟩,
      ⟨(some 8), .mov (.t 126), none, []⟩] false)
    (.seq (.region 29 [
      ⟨(some 127), .mov (.t 0), none, []⟩,
      ⟨(some 128), .mov (.t 14), none, []⟩,
      ⟨(some 129), .bin .add (.t 128) (.c (.d (.int .i64 (1)))), none, []⟩,
      ⟨(some 130), .mov (.t 2), none, []⟩,
      ⟨(some 131), .mov (.t 3), none, []⟩,
      ⟨(some 132), .call (.c (.fn F_slices_pdqsortOrdered_string [])) [(.t 127), (.t 129), (.t 130), (.t 131)], none, []⟩] false)
    (.region 30 [
      ⟨(some 133), .mov (.t 14), none, []⟩,
      ⟨(some 2), .mov (.t 133), none, []⟩] false)))))))))))))))))))))))
/-- slices.pdqsortOrdered[string] -/
def code_slices_pdqsortOrdered_string : AFunc := ⟨134, [],
  .seq (.region 0 [
    ⟨(some 8), .mov (.c (.d (.bool true))), none, []⟩] false)
  (.seq (.region 1 [
    ⟨(some 9), .mov (.c (.d (.bool true))), none, []⟩] false)
  (.block 0 (.loop mask_slices_pdqsortOrdered_string_0 body_slices_pdqsortOrdered_string_0)))⟩
def mask_slices_IndexFunc_string_string_0 : Mask := ⟨[0, 1, 7, 8], []⟩
def body_slices_IndexFunc_string_string_0 : ACode :=
  .seq (.region 2 [
    ⟨(some 9), .bin .lss (.t 8) (.t 7), none, []⟩] false)
  (.seq (.cond (.t 9)
    (.skip)
    (.mask ⟨[], []⟩ (.exit 0)))
  (.mask ⟨[0, 1, 7, 8], []⟩ (.seq (.block 1 (.seq (.region 3 [
    ⟨(some 10), .mov (.t 8), none, []⟩,
    ⟨(some 5), .mov (.t 10), none, []⟩] false)
  (.seq (.region 4 [
    ⟨(some 11), .mov (.t 1), none, []⟩,
    ⟨(some 12), .mov (.t 0), none, []⟩,
    ⟨(some 13), .mov (.t 5), none, []⟩,
    ⟨(some 14), .iaddr 1 (.t 12) (.t 13), none, []⟩,
    ⟨(some 15), .load 1 false (.t 14), none, []⟩,
    ⟨(some 16), .call (.t 11) [(.t 15)], none, []⟩] false)
  (.cond (.t 16)
    (.seq (.region 5 [
      ⟨(some 17), .mov (.t 5), none, []⟩,
      ⟨(some 4), .mov (.t 17), none, []⟩] false)
    (.mask ⟨[4], []⟩ (.ret)))
    (.skip)))))
  (.mask ⟨[0, 1, 7, 8], []⟩ (.region 6 [
    ⟨(some 18), .bin .add (.t 8) (.c (.d (.int .i64 (1)))), none, []⟩,
    ⟨(some 8), .mov (.t 18), none, []⟩] false)))))
/-- slices.IndexFunc[[]string,string] -/
def code_slices_IndexFunc_string_string : AFunc := ⟨19, [.tmp 4],
  .seq (.region 0 [
    ⟨(some 4), .mov (.c (.d (.int .i64 (0)))), none, []⟩] false)
  (.seq (.seq (.region 1 [
    ⟨(some 6), .mov (.t 0), none, []⟩,
    ⟨(some 7), .len .sl (.t 6), none, []⟩,
    ⟨(some 8), .mov (.c (.d (.int .i64 (0)))), none, []⟩] false)
  (.block 0 (.loop mask_slices_IndexFunc_string_string_0 body_slices_IndexFunc_string_string_0)))
  (.mask ⟨[], []⟩ (.seq (.region 7 [
    ⟨(some 4), .mov (.c (.d (.int .i64 (-1)))), none, []⟩] false)
  (.mask ⟨[4], []⟩ (.ret)))))⟩
def mask_value_rises_0 : Mask := ⟨[0, 3], []⟩
def body_value_rises_0 : ACode :=
  .seq (.seq (.region 2 [
    ⟨(some 4), .mov (.t 3), none, []⟩,
    ⟨(some 5), .mov (.t 0), none, []⟩,
    ⟨(some 6), .len .sl (.t 5), none, []⟩,
    ⟨(some 7), .bin .lss (.t 4) (.t 6), none, []⟩] false)
  (.cond (.t 7)
    (.skip)
    (.mask ⟨[], []⟩ (.exit 0))))
  (.mask ⟨[0, 3], []⟩ (.seq (.block 1 (.seq (.region 4 [
    ⟨(some 10), .mov (.t 0), none, []⟩,
    ⟨(some 11), .mov (.t 3), none, []⟩,
    ⟨(some 12), .iaddr 1 (.t 10) (.t 11), none, [0, 1]⟩,
    ⟨(some 13), .load 1 false (.t 12), none, [0, 1, 2]⟩,
    ⟨(some 14), .mov (.t 0), none, []⟩,
    ⟨(some 15), .mov (.t 3), none, []⟩,
    ⟨(some 16), .bin .sub (.t 15) (.c (.d (.int .i64 (1)))), none, [5]⟩,
    ⟨(some 17), .iaddr 1 (.t 14) (.t 16), none, [4, 5, 6]⟩,
    ⟨(some 18), .load 1 false (.t 17), none, [4, 5, 6, 7]⟩,
    ⟨(some 19), .bin .leq (.t 13) (.t 18), none, [0, 1, 2, 3, 4, 5, 6, 7, 8]⟩] true)
  (.cond (.t 19)
    (.seq (.region 5 [
      ⟨(some 2), .mov (.c (.d (.bool false))), none, []⟩] false)
    (.mask ⟨[2], []⟩ (.ret)))
    (.skip))))
  (.mask ⟨[0, 3], []⟩ (.region 3 [
    ⟨(some 8), .mov (.t 3), none, []⟩,
    ⟨(some 9), .bin .add (.t 8) (.c (.d (.int .i64 (1)))), none, []⟩,
    ⟨(some 3), .mov (.t 9), none, []⟩] false))))
/-- beadle/value.rises -/
def code_value_rises : AFunc := ⟨20, [.tmp 2],
  .seq (.region 0 [
    ⟨(some 2), .mov (.c (.d (.bool false))), none, []⟩] false)
  (.seq (.seq (.region 1 [
    ⟨(some 3), .mov (.c (.d (.int .i64 (1)))), none, []⟩] false)
  (.block 0 (.loop mask_value_rises_0 body_value_rises_0)))
  (.mask ⟨[], []⟩ (.seq (.region 6 [
    ⟨(some 2), .mov (.c (.d (.bool true))), none, []⟩] false)
  (.mask ⟨[2], []⟩ (.ret)))))⟩
/-- beadle/beadleref02.Check -/
def code_ref02_Check : AFunc := ⟨104, [.tmp 2],
  .seq (.region 0 [
    ⟨(some 1), .box 4 (.t 0), none, []⟩,
    ⟨(some 2), .mov (.c (.d (.int .i64 (0)))), none, []⟩] false)
  (.seq (.seq (.region 1 [
    ⟨(some 4), .faddr 0 (.t 1), none, []⟩,
    ⟨(some 5), .load 1 false (.t 4), none, []⟩,
    ⟨(some 6), .bin .neq (.t 5) (.c (.d (.int .i64 (1)))), none, []⟩,
    ⟨(some 7), .mov (.t 6), none, []⟩,
    ⟨(some 8), .faddr 0 (.t 1), (some (7, true)), []⟩,
    ⟨(some 9), .load 1 false (.t 8), (some (7, true)), []⟩,
    ⟨(some 10), .bin .neq (.t 9) (.c (.d (.int .i64 (2)))), (some (7, true)), []⟩,
    ⟨(some 11), .pick (.t 7) (.t 10) (.c (.d (.bool false))), none, []⟩,
    ⟨(some 12), .mov (.t 11), none, []⟩,
    ⟨(some 13), .faddr 0 (.t 1), (some (12, true)), []⟩,
    ⟨(some 14), .load 1 false (.t 13), (some (12, true)), []⟩,
    ⟨(some 15), .bin .neq (.t 14) (.c (.d (.int .i64 (3)))), (some (12, true)), []⟩,
    ⟨(some 16), .pick (.t 12) (.t 15) (.c (.d (.bool false))), none, []⟩,
    ⟨(some 17), .mov (.t 16), none, []⟩,
    ⟨(some 18), .faddr 0 (.t 1), (some (17, true)), []⟩,
    ⟨(some 19), .load 1 false (.t 18), (some (17, true)), []⟩,
    ⟨(some 20), .bin .neq (.t 19) (.c (.d (.int .i64 (4)))), (some (17, true)), []⟩,
    ⟨(some 21), .pick (.t 17) (.t 20) (.c (.d (.bool false))), none, []⟩] false)
  (.mask ⟨[1, 21], []⟩ (.cond (.t 21)
    (.seq (.region 2 [
      ⟨(some 2), .mov (.c (.d (.int .i64 (12)))), none, []⟩] false)
    (.mask ⟨[2], []⟩ (.ret)))
    (.skip))))
  (.mask ⟨[1], []⟩ (.seq (.region 3 [
    ⟨(some 22), .faddr 3 (.t 1), none, []⟩,
    ⟨(some 23), .load 1 false (.t 22), none, []⟩,
    ⟨(some 24), .call (.c (.fn F_ref02_bad [])) [(.t 23)], none, []⟩,
    ⟨(some 3), .mov (.t 24), none, []⟩] false)
  (.seq (.seq (.region 4 [
    ⟨(some 25), .faddr 2 (.t 1), none, []⟩,
    ⟨(some 26), .load 1 false (.t 25), none, []⟩,
    ⟨(some 27), .len .str (.t 26), none, []⟩,
    ⟨(some 28), .bin .gtr (.t 27) (.c (.d (.int .i64 (32)))), none, []⟩,
    ⟨(some 29), .mov (.t 28), none, []⟩,
    ⟨(some 30), .mov (.t 3), (some (29, false)), []⟩,
    ⟨(some 31), .bin .eql (.t 30) (.c (.d (.int .i64 (1)))), (some (29, false)), []⟩,
    ⟨(some 32), .pick (.t 29) (.c (.d (.bool true))) (.t 31), none, []⟩] false)
  (.mask ⟨[1, 3, 32], []⟩ (.cond (.t 32)
    (.seq (.region 5 [
      ⟨(some 2), .mov (.c (.d (.int .i64 (5)))), none, []⟩] false)
    (.mask ⟨[2], []⟩ (.ret)))
    (.skip))))
  (.mask ⟨[1, 3], []⟩ (.seq (.seq (.region 6 [
    ⟨(some 33), .faddr 3 (.t 1), none, []⟩,
    ⟨(some 34), .load 1 false (.t 33), none, []⟩,
    ⟨(some 35), .len .sl (.t 34), none, []⟩,
    ⟨(some 36), .bin .gtr (.t 35) (.c (.d (.int .i64 (8)))), none, []⟩] false)
  (.cond (.t 36)
    (.seq (.region 7 [
      ⟨(some 2), .mov (.c (.d (.int .i64 (3)))), none, []⟩] false)
    (.mask ⟨[2], []⟩ (.ret)))
    (.skip)))
  (.mask ⟨[1, 3], []⟩ (.seq (.seq (.region 8 [
    ⟨(some 37), .mov (.t 3), none, []⟩,
    ⟨(some 38), .bin .eql (.t 37) (.c (.d (.int .i64 (2)))), none, []⟩] false)
  (.cond (.t 38)
    (.seq (.region 9 [
      ⟨(some 2), .mov (.c (.d (.int .i64 (4)))), none, []⟩] false)
    (.mask ⟨[2], []⟩ (.ret)))
    (.skip)))
  (.mask ⟨[1], []⟩ (.seq (.seq (.region 10 [
    ⟨(some 39), .faddr 0 (.t 1), none, []⟩,
    ⟨(some 40), .load 1 false (.t 39), none, []⟩,
    ⟨(some 41), .bin .eql (.t 40) (.c (.d (.int .i64 (1)))), none, []⟩,
    ⟨(some 42), .mov (.t 41), none, []⟩,
    ⟨(some 43), .faddr 2 (.t 1), (some (42, true)), []⟩,
    ⟨(some 44), .load 1 false (.t 43), (some (42, true)), []⟩,
    ⟨(some 45), .bin .eql (.t 44) (.c (.d (.str []))), (some (42, true)), []⟩,
    ⟨(some 46), .pick (.t 42) (.t 45) (.c (.d (.bool false))), none, []⟩,
    ⟨(some 47), .mov (.t 46), none, []⟩,
    ⟨(some 48), .faddr 3 (.t 1), (some (47, true)), []⟩,
    ⟨(some 49), .load 1 false (.t 48), (some (47, true)), []⟩,
    ⟨(some 50), .len .sl (.t 49), (some (47, true)), []⟩,
    ⟨(some 51), .bin .eql (.t 50) (.c (.d (.int .i64 (0)))), (some (47, true)), []⟩,
    ⟨(some 52), .pick (.t 47) (.t 51) (.c (.d (.bool false))), none, []⟩] false)
  (.mask ⟨[1, 52], []⟩ (.cond (.t 52)
    (.seq (.region 11 [
      ⟨(some 2), .mov (.c (.d (.int .i64 (0)))), none, []⟩] false)
    (.mask ⟨[2], []⟩ (.ret)))
    (.skip))))
  (.mask ⟨[1], []⟩ (.seq (.seq (.region 12 [
    ⟨(some 53), .faddr 0 (.t 1), none, []⟩,
    ⟨(some 54), .load 1 false (.t 53), none, []⟩,
    ⟨(some 55), .bin .eql (.t 54) (.c (.d (.int .i64 (2)))), none, []⟩,
    ⟨(some 56), .mov (.t 55), none, []⟩,
    ⟨(some 57), .faddr 1 (.t 1), (some (56, true)), []⟩,
    ⟨(some 58), .load 1 false (.t 57), (some (56, true)), []⟩,
    ⟨(some 59), .bin .eql (.t 58) (.c (.d (.int .i64 (0)))), (some (56, true)), []⟩,
    ⟨(some 60), .mov (.t 59), (some (56, true)), []⟩,
    ⟨(some 61), .faddr 1 (.t 1), (some (60, false)), []⟩,
    ⟨(some 62), .load 1 false (.t 61), (some (60, false)), []⟩,
    ⟨(some 63), .bin .eql (.t 62) (.c (.d (.int .i64 (1)))), (some (60, false)), []⟩,
    ⟨(some 64), .pick (.t 60) (.c (.d (.bool true))) (.t 63), (some (56, true)), []⟩,
    ⟨(some 65), .pick (.t 56) (.t 64) (.c (.d (.bool false))), none, []⟩,
    ⟨(some 66), .mov (.t 65), none, []⟩,
    ⟨(some 67), .faddr 2 (.t 1), (some (66, true)), []⟩,
    ⟨(some 68), .load 1 false (.t 67), (some (66, true)), []⟩,
    ⟨(some 69), .bin .eql (.t 68) (.c (.d (.str []))), (some (66, true)), []⟩,
    ⟨(some 70), .pick (.t 66) (.t 69) (.c (.d (.bool false))), none, []⟩,
    ⟨(some 71), .mov (.t 70), none, []⟩,
    ⟨(some 72), .faddr 3 (.t 1), (some (71, true)), []⟩,
    ⟨(some 73), .load 1 false (.t 72), (some (71, true)), []⟩,
    ⟨(some 74), .len .sl (.t 73), (some (71, true)), []⟩,
    ⟨(some 75), .bin .eql (.t 74) (.c (.d (.int .i64 (0)))), (some (71, true)), []⟩,
    ⟨(some 76), .pick (.t 71) (.t 75) (.c (.d (.bool false))), none, []⟩] false)
  (.mask ⟨[1, 76], []⟩ (.cond (.t 76)
    (.seq (.region 13 [
      ⟨(some 2), .mov (.c (.d (.int .i64 (0)))), none, []⟩] false)
    (.mask ⟨[2], []⟩ (.ret)))
    (.skip))))
  (.mask ⟨[1], []⟩ (.seq (.seq (.region 14 [
    ⟨(some 77), .faddr 0 (.t 1), none, []⟩,
    ⟨(some 78), .load 1 false (.t 77), none, []⟩,
    ⟨(some 79), .bin .eql (.t 78) (.c (.d (.int .i64 (3)))), none, []⟩,
    ⟨(some 80), .mov (.t 79), none, []⟩,
    ⟨(some 81), .faddr 1 (.t 1), (some (80, true)), []⟩,
    ⟨(some 82), .load 1 false (.t 81), (some (80, true)), []⟩,
    ⟨(some 83), .bin .eql (.t 82) (.c (.d (.int .i64 (0)))), (some (80, true)), []⟩,
    ⟨(some 84), .pick (.t 80) (.t 83) (.c (.d (.bool false))), none, []⟩,
    ⟨(some 85), .mov (.t 84), none, []⟩,
    ⟨(some 86), .faddr 3 (.t 1), (some (85, true)), []⟩,
    ⟨(some 87), .load 1 false (.t 86), (some (85, true)), []⟩,
    ⟨(some 88), .len .sl (.t 87), (some (85, true)), []⟩,
    ⟨(some 89), .bin .eql (.t 88) (.c (.d (.int .i64 (0)))), (some (85, true)), []⟩,
    ⟨(some 90), .pick (.t 85) (.t 89) (.c (.d (.bool false))), none, []⟩] false)
  (.mask ⟨[1, 90], []⟩ (.cond (.t 90)
    (.seq (.region 15 [
      ⟨(some 2), .mov (.c (.d (.int .i64 (0)))), none, []⟩] false)
    (.mask ⟨[2], []⟩ (.ret)))
    (.skip))))
  (.mask ⟨[1], []⟩ (.seq (.seq (.region 16 [
    ⟨(some 91), .faddr 0 (.t 1), none, []⟩,
    ⟨(some 92), .load 1 false (.t 91), none, []⟩,
    ⟨(some 93), .bin .eql (.t 92) (.c (.d (.int .i64 (4)))), none, []⟩,
    ⟨(some 94), .mov (.t 93), none, []⟩,
    ⟨(some 95), .faddr 1 (.t 1), (some (94, true)), []⟩,
    ⟨(some 96), .load 1 false (.t 95), (some (94, true)), []⟩,
    ⟨(some 97), .bin .eql (.t 96) (.c (.d (.int .i64 (0)))), (some (94, true)), []⟩,
    ⟨(some 98), .pick (.t 94) (.t 97) (.c (.d (.bool false))), none, []⟩,
    ⟨(some 99), .mov (.t 98), none, []⟩,
    ⟨(some 100), .faddr 2 (.t 1), (some (99, true)), []⟩,
    ⟨(some 101), .load 1 false (.t 100), (some (99, true)), []⟩,
    ⟨(some 102), .bin .eql (.t 101) (.c (.d (.str []))), (some (99, true)), []⟩,
    ⟨(some 103), .pick (.t 99) (.t 102) (.c (.d (.bool false))), none, []⟩] false)
  (.mask ⟨[103], []⟩ (.cond (.t 103)
    (.seq (.region 17 [
      ⟨(some 2), .mov (.c (.d (.int .i64 (0)))), none, []⟩] false)
    (.mask ⟨[2], []⟩ (.ret)))
    (.skip))))
  (.mask ⟨[], []⟩ (.seq (.region 18 [
    ⟨(some 2), .mov (.c (.d (.int .i64 (4)))), none, []⟩] false)
  (.mask ⟨[2], []⟩ (.ret))))))))))))))))))))⟩
/-- math/bits.Len32 -/
def code_math_bits_Len32 : AFunc := ⟨19, [.tmp 2],
  .seq (.region 0 [
    ⟨(some 2), .mov (.c (.d (.int .i64 (0)))), none, []⟩] false)
  (.seq (.seq (.region 1 [
    ⟨(some 3), .mov (.t 0), none, []⟩,
    ⟨(some 4), .bin .geq (.t 3) (.c (.d (.int .u32 (65536)))), none, []⟩] false)
  (.cond (.t 4)
    (.seq (.region 2 [
      ⟨(some 5), .mov (.t 0), none, []⟩,
      ⟨(some 6), .bin .shr (.t 5) (.c (.d (.int .u64 (16)))), none, []⟩,
      ⟨(some 0), .mov (.t 6), none, []⟩] false)
    (.region 3 [
      ⟨(some 2), .mov (.c (.d (.int .i64 (16)))), none, []⟩] false))
    (.skip)))
  (.mask ⟨[0, 2], []⟩ (.seq (.seq (.region 4 [
    ⟨(some 7), .mov (.t 0), none, []⟩,
    ⟨(some 8), .bin .geq (.t 7) (.c (.d (.int .u32 (256)))), none, []⟩] false)
  (.cond (.t 8)
    (.seq (.region 5 [
      ⟨(some 9), .mov (.t 0), none, []⟩,
      ⟨(some 10), .bin .shr (.t 9) (.c (.d (.int .u64 (8)))), none, []⟩,
      ⟨(some 0), .mov (.t 10), none, []⟩] false)
    (.region 6 [
      ⟨(some 11), .mov (.t 2), none, []⟩,
      ⟨(some 12), .bin .add (.t 11) (.c (.d (.int .i64 (8)))), none, []⟩,
      ⟨(some 2), .mov (.t 12), none, []⟩] false))
    (.skip)))
  (.mask ⟨[0, 2], []⟩ (.seq (.region 7 [
    ⟨(some 13), .mov (.t 2), none, []⟩,
    ⟨(some 14), .mov (.t 0), none, []⟩,
    ⟨(some 15), .toInt .u8 (.t 14), none, []⟩,
    ⟨(some 16), .idx (.c (.d (.str [0, 1, 2, 2, 3, 3, 3, 3, 4, 4, 4, 4, 4, 4, 4, 4, 5, 5, 5, 5, 5, 5, 5, 5, 5, 5, 5, 5, 5, 5, 5, 5, 6, 6, 6, 6, 6, 6, 6, 6, 6, 6, 6, 6, 6, 6, 6, 6, 6, 6, 6, 6, 6, 6, 6, 6, 6, 6, 6, 6, 6, 6, 6, 6, 7, 7, 7, 7, 7, 7, 7, 7, 7, 7, 7, 7, 7, 7, 7, 7, 7, 7, 7, 7, 7, 7, 7, 7, 7, 7, 7, 7, 7, 7, 7, 7, 7, 7, 7, 7, 7, 7, 7, 7, 7, 7, 7, 7, 7, 7, 7, 7, 7, 7, 7, 7, 7, 7, 7, 7, 7, 7, 7, 7, 7, 7, 7, 7, 8, 8, 8, 8, 8, 8, 8, 8, 8, 8, 8, 8, 8, 8, 8, 8, 8, 8, 8, 8, 8, 8, 8, 8, 8, 8, 8, 8, 8, 8, 8, 8, 8, 8, 8, 8, 8, 8, 8, 8, 8, 8, 8, 8, 8, 8, 8, 8, 8, 8, 8, 8, 8, 8, 8, 8, 8, 8, 8, 8, 8, 8, 8, 8, 8, 8, 8, 8, 8, 8, 8, 8, 8, 8, 8, 8, 8, 8, 8, 8, 8, 8, 8, 8, 8, 8, 8, 8, 8, 8, 8, 8, 8, 8, 8, 8, 8, 8, 8, 8, 8, 8, 8, 8, 8, 8, 8, 8, 8, 8, 8, 8, 8, 8, 8, 8, 8, 8, 8, 8, 8, 8, 8, 8, 8, 8, 8, 8]))) (.t 15), none, []⟩,
    ⟨(some 17), .toInt .i64 (.t 16), none, []⟩,
    ⟨(some 18), .bin .add (.t 13) (.t 17), none, []⟩,
    ⟨(some 2), .mov (.t 18), none, []⟩] false)
  (.mask ⟨[2], []⟩ (.ret)))))))⟩
/-- math/bits.Len64 -/
def code_math_bits_Len64 : AFunc := ⟨25, [.tmp 2],
  .seq (.region 0 [
    ⟨(some 2), .mov (.c (.d (.int .i64 (0)))), none, []⟩] false)
  (.seq (.seq (.region 1 [
    ⟨(some 3), .mov (.t 0), none, []⟩,
    ⟨(some 4), .bin .geq (.t 3) (.c (.d (.int .u64 (4294967296)))), none, []⟩] false)
  (.cond (.t 4)
    (.seq (.region 2 [
      ⟨(some 5), .mov (.t 0), none, []⟩,
      ⟨(some 6), .bin .shr (.t 5) (.c (.d (.int .u64 (32)))), none, []⟩,
      ⟨(some 0), .mov (.t 6), none, []⟩] false)
    (.region 3 [
      ⟨(some 2), .mov (.c (.d (.int .i64 (32)))), none, []⟩] false))
    (.skip)))
  (.mask ⟨[0, 2], []⟩ (.seq (.seq (.region 4 [
    ⟨(some 7), .mov (.t 0), none, []⟩,
    ⟨(some 8), .bin .geq (.t 7) (.c (.d (.int .u64 (65536)))), none, []⟩] false)
  (.cond (.t 8)
    (.seq (.region 5 [
      ⟨(some 9), .mov (.t 0), none, []⟩,
      ⟨(some 10), .bin .shr (.t 9) (.c (.d (.int .u64 (16)))), none, []⟩,
      ⟨(some 0), .mov (.t 10), none, []⟩] false)
    (.region 6 [
      ⟨(some 11), .mov (.t 2), none, []⟩,
      ⟨(some 12), .bin .add (.t 11) (.c (.d (.int .i64 (16)))), none, []⟩,
      ⟨(some 2), .mov (.t 12), none, []⟩] false))
    (.skip)))
  (.mask ⟨[0, 2], []⟩ (.seq (.seq (.region 7 [
    ⟨(some 13), .mov (.t 0), none, []⟩,
    ⟨(some 14), .bin .geq (.t 13) (.c (.d (.int .u64 (256)))), none, []⟩] false)
  (.cond (.t 14)
    (.seq (.region 8 [
      ⟨(some 15), .mov (.t 0), none, []⟩,
      ⟨(some 16), .bin .shr (.t 15) (.c (.d (.int .u64 (8)))), none, []⟩,
      ⟨(some 0), .mov (.t 16), none, []⟩] false)
    (.region 9 [
      ⟨(some 17), .mov (.t 2), none, []⟩,
      ⟨(some 18), .bin .add (.t 17) (.c (.d (.int .i64 (8)))), none, []⟩,
      ⟨(some 2), .mov (.t 18), none, []⟩] false))
    (.skip)))
  (.mask ⟨[0, 2], []⟩ (.seq (.region 10 [
    ⟨(some 19), .mov (.t 2), none, []⟩,
    ⟨(some 20), .mov (.t 0), none, []⟩,
    ⟨(some 21), .toInt .u8 (.t 20), none, []⟩,
    ⟨(some 22), .idx (.c (.d (.str [0, 1, 2, 2, 3, 3, 3, 3, 4, 4, 4, 4, 4, 4, 4, 4, 5, 5, 5, 5, 5, 5, 5, 5, 5, 5, 5, 5, 5, 5, 5, 5, 6, 6, 6, 6, 6, 6, 6, 6, 6, 6, 6, 6, 6, 6, 6, 6, 6, 6, 6, 6, 6, 6, 6, 6, 6, 6, 6, 6, 6, 6, 6, 6, 7, 7, 7, 7, 7, 7, 7, 7, 7, 7, 7, 7, 7, 7, 7, 7, 7, 7, 7, 7, 7, 7, 7, 7, 7, 7, 7, 7, 7, 7, 7, 7, 7, 7, 7, 7, 7, 7, 7, 7, 7, 7, 7, 7, 7, 7, 7, 7, 7, 7, 7, 7, 7, 7, 7, 7, 7, 7, 7, 7, 7, 7, 7, 7, 8, 8, 8, 8, 8, 8, 8, 8, 8, 8, 8, 8, 8, 8, 8, 8, 8, 8, 8, 8, 8, 8, 8, 8, 8, 8, 8, 8, 8, 8, 8, 8, 8, 8, 8, 8, 8, 8, 8, 8, 8, 8, 8, 8, 8, 8, 8, 8, 8, 8, 8, 8, 8, 8, 8, 8, 8, 8, 8, 8, 8, 8, 8, 8, 8, 8, 8, 8, 8, 8, 8, 8, 8, 8, 8, 8, 8, 8, 8, 8, 8, 8, 8, 8, 8, 8, 8, 8, 8, 8, 8, 8, 8, 8, 8, 8, 8, 8, 8, 8, 8, 8, 8, 8, 8, 8, 8, 8, 8, 8, 8, 8, 8, 8, 8, 8, 8, 8, 8, 8, 8, 8, 8, 8, 8, 8, 8, 8]))) (.t 21), none, []⟩,
    ⟨(some 23), .toInt .i64 (.t 22), none, []⟩,
    ⟨(some 24), .bin .add (.t 19) (.t 23), none, []⟩,
    ⟨(some 2), .mov (.t 24), none, []⟩] false)
  (.mask ⟨[2], []⟩ (.ret)))))))))⟩
def mask_slices_insertionSortOrdered_string_0 : Mask := ⟨[0, 1, 2, 6, 7], []⟩
def body_slices_insertionSortOrdered_string_0 : ACode :=
  .seq (.seq (.region 4 [
    ⟨(some 16), .mov (.t 7), none, []⟩,
    ⟨(some 17), .mov (.t 1), none, []⟩,
    ⟨(some 18), .bin .gtr (.t 16) (.t 17), none, [0, 1]⟩,
    ⟨(some 19), .mov (.t 18), none, [0, 1, 2]⟩,
    ⟨(some 20), .mov (.t 0), (some (19, true)), [0, 1, 2, 3]⟩,
    ⟨(some 21), .mov (.t 7), (some (19, true)), [0, 1, 2, 3]⟩,
    ⟨(some 22), .iaddr 1 (.t 20) (.t 21), (some (19, true)), [0, 1, 2, 3, 4, 5]⟩,
    ⟨(some 23), .load 1 false (.t 22), (some (19, true)), [0, 1, 2, 3, 4, 5, 6]⟩,
    ⟨(some 24), .mov (.t 0), (some (19, true)), [0, 1, 2, 3]⟩,
    ⟨(some 25), .mov (.t 7), (some (19, true)), [0, 1, 2, 3]⟩,
    ⟨(some 26), .bin .sub (.t 25) (.c (.d (.int .i64 (1)))), (some (19, true)), [0, 1, 2, 3, 9]⟩,
    ⟨(some 27), .iaddr 1 (.t 24) (.t 26), (some (19, true)), [0, 1, 2, 3, 8, 9, 10]⟩,
    ⟨(some 28), .load 1 false (.t 27), (some (19, true)), [0, 1, 2, 3, 8, 9, 10, 11]⟩,
    ⟨(some 29), .call (.c (.fn F_cmp_Less_string [])) [(.t 23), (.t 28)], (some (19, true)), [0, 1, 2, 3, 4, 5, 6, 7, 8, 9, 10, 11, 12]⟩,
    ⟨(some 30), .pick (.t 19) (.t 29) (.c (.d (.bool false))), none, [0, 1, 2, 3, 4, 5, 6, 7, 8, 9, 10, 11, 12, 13]⟩] true)
  (.mask ⟨[0, 1, 2, 6, 7, 30], []⟩ (.cond (.t 30)
    (.skip)
    (.mask ⟨[0, 1, 2, 6], []⟩ (.exit 2)))))
  (.mask ⟨[0, 1, 2, 6, 7], []⟩ (.seq (.block 3 (.region 6 [
    ⟨(some 33), .mov (.t 0), none, []⟩,
    ⟨(some 34), .mov (.t 7), none, []⟩,
    ⟨(some 35), .mov (.t 0), none, []⟩,
    ⟨(some 36), .mov (.t 7), none, []⟩,
    ⟨(some 37), .bin .sub (.t 36) (.c (.d (.int .i64 (1)))), none, [3]⟩,
    ⟨(some 38), .mov (.t 0), none, []⟩,
    ⟨(some 39), .mov (.t 7), none, []⟩,
    ⟨(some 40), .bin .sub (.t 39) (.c (.d (.int .i64 (1)))), none, [6]⟩,
    ⟨(some 41), .iaddr 1 (.t 38) (.t 40), none, [5, 6, 7]⟩,
    ⟨(some 42), .load 1 false (.t 41), none, [5, 6, 7, 8]⟩,
    ⟨(some 43), .mov (.t 0), none, []⟩,
    ⟨(some 44), .mov (.t 7), none, []⟩,
    ⟨(some 45), .iaddr 1 (.t 43) (.t 44), none, [10, 11]⟩,
    ⟨(some 46), .load 1 false (.t 45), none, [10, 11, 12]⟩,
    ⟨(some 47), .iaddr 1 (.t 33) (.t 34), none, [0, 1, 5, 6, 7, 8, 9, 10, 11, 12, 13]⟩,
    ⟨none, .store 1 (.t 47) (.t 42), none, [0, 1, 5, 6, 7, 8, 9, 10, 11, 12, 13, 14]⟩,
    ⟨(some 48), .iaddr 1 (.t 35) (.t 37), none, [0, 1, 2, 3, 4, 5, 6, 7, 8, 9, 10, 11, 12, 13, 14, 15]⟩,
    ⟨none, .store 1 (.t 48) (.t 46), none, [0, 1, 2, 3, 4, 5, 6, 7, 8, 9, 10, 11, 12, 13, 14, 15, 16]⟩] true))
  (.mask ⟨[0, 1, 2, 6, 7], []⟩ (.region 5 [
    ⟨(some 31), .mov (.t 7), none, []⟩,
    ⟨(some 32), .bin .sub (.t 31) (.c (.d (.int .i64 (1)))), none, []⟩,
    ⟨(some 7), .mov (.t 32), none, []⟩] false))))
def mask_slices_insertionSortOrdered_string_1 : Mask := ⟨[0, 1, 2, 6], []⟩
def body_slices_insertionSortOrdered_string_1 : ACode :=
  .seq (.seq (.region 1 [
    ⟨(some 10), .mov (.t 6), none, []⟩,
    ⟨(some 11), .mov (.t 2), none, []⟩,
    ⟨(some 12), .bin .lss (.t 10) (.t 11), none, []⟩] false)
  (.cond (.t 12)
    (.skip)
    (.mask ⟨[], []⟩ (.exit 0))))
  (.mask ⟨[0, 1, 2, 6], []⟩ (.seq (.block 1 (.seq (.region 3 [
    ⟨(some 15), .mov (.t 6), none, []⟩,
    ⟨(some 7), .mov (.t 15), none, []⟩] false)
  (.block 2 (.loop mask_slices_insertionSortOrdered_string_0 body_slices_insertionSortOrdered_string_0))))
  (.mask ⟨[0, 1, 2, 6], []⟩ (.region 2 [
    ⟨(some 13), .mov (.t 6), none, []⟩,
    ⟨(some 14), .bin .add (.t 13) (.c (.d (.int .i64 (1)))), none, []⟩,
    ⟨(some 6), .mov (.t 14), none, []⟩] false))))
/-- slices.insertionSortOrdered[string] -/
def code_slices_insertionSortOrdered_string : AFunc := ⟨49, [],
  .seq (.region 0 [
    ⟨(some 8), .mov (.t 1), none, []⟩,
    ⟨(some 9), .bin .add (.t 8) (.c (.d (.int .i64 (1)))), none, []⟩,
    ⟨(some 6), .mov (.t 9), none, []⟩] false)
  (.block 0 (.loop mask_slices_insertionSortOrdered_string_1 body_slices_insertionSortOrdered_string_1))⟩
def mask_slices_heapSortOrdered_string_0 : Mask := ⟨[0, 6, 7, 8, 9], []⟩
def body_slices_heapSortOrdered_string_0 : ACode :=
  .seq (.seq (.region 4 [
    ⟨(some 18), .mov (.t 9), none, []⟩,
    ⟨(some 19), .bin .geq (.t 18) (.c (.d (.int .i64 (0)))), none, []⟩] false)
  (.cond (.t 19)
    (.skip)
    (.mask ⟨[0, 6, 7, 8], []⟩ (.exit 0))))
  (.mask ⟨[0, 6, 7, 8, 9], []⟩ (.seq (.block 1 (.region 6 [
    ⟨(some 22), .mov (.t 0), none, []⟩,
    ⟨(some 23), .mov (.t 9), none, []⟩,
    ⟨(some 24), .mov (.t 8), none, []⟩,
    ⟨(some 25), .mov (.t 6), none, []⟩,
    ⟨(some 26), .call (.c (.fn F_slices_siftDownOrdered_string [])) [(.t 22), (.t 23), (.t 24), (.t 25)], none, []⟩] false))
  (.mask ⟨[0, 6, 7, 8, 9], []⟩ (.region 5 [
    ⟨(some 20), .mov (.t 9), none, []⟩,
    ⟨(some 21), .bin .sub (.t 20) (.c (.d (.int .i64 (1)))), none, []⟩,
    ⟨(some 9), .mov (.t 21), none, []⟩] false))))
def mask_slices_heapSortOrdered_string_1 : Mask := ⟨[0, 6, 7, 10], []⟩
def body_slices_heapSortOrdered_string_1 : ACode :=
  .seq (.seq (.region 8 [
    ⟨(some 29), .mov (.t 10), none, []⟩,
    ⟨(some 30), .bin .geq (.t 29) (.c (.d (.int .i64 (0)))), none, []⟩] false)
  (.cond (.t 30)
    (.skip)
    (.mask ⟨[], []⟩ (.exit 2))))
  (.mask ⟨[0, 6, 7, 10], []⟩ (.seq (.block 3 (.seq (.region 10 [
    ⟨(some 33), .mov (.t 0), none, []⟩,
    ⟨(some 34), .mov (.t 6), none, []⟩,
    ⟨(some 35), .mov (.t 0), none, []⟩,
    ⟨(some 36), .mov (.t 6), none, []⟩,
    ⟨(some 37), .mov (.t 10), none, []⟩,
    ⟨(some 38), .bin .add (.t 36) (.t 37), none, [3, 4]⟩,
    ⟨(some 39), .mov (.t 0), none, []⟩,
    ⟨(some 40), .mov (.t 6), none, []⟩,
    ⟨(some 41), .mov (.t 10), none, []⟩,
    ⟨(some 42), .bin .add (.t 40) (.t 41), none, [7, 8]⟩,
    ⟨(some 43), .iaddr 1 (.t 39) (.t 42), none, [6, 7, 8, 9]⟩,
    ⟨(some 44), .load 1 false (.t 43), none, [6, 7, 8, 9, 10]⟩,
    ⟨(some 45), .mov (.t 0), none, []⟩,
    ⟨(some 46), .mov (.t 6), none, []⟩,
    ⟨(some 47), .iaddr 1 (.t 45) (.t 46), none, [12, 13]⟩,
    ⟨(some 48), .load 1 false (.t 47), none, [12, 13, 14]⟩,
    ⟨(some 49), .iaddr 1 (.t 33) (.t 34), none, [0, 1, 6, 7, 8, 9, 10, 11, 12, 13, 14, 15]⟩,
    ⟨none, .store 1 (.t 49) (.t 44), none, [0, 1, 6, 7, 8, 9, 10, 11, 12, 13, 14, 15, 16]⟩,
    ⟨(some 50), .iaddr 1 (.t 35) (.t 38), none, [0, 1, 2, 3, 4, 5, 6, 7, 8, 9, 10, 11, 12, 13, 14, 15, 16, 17]⟩,
    ⟨none, .store 1 (.t 50) (.t 48), none, [0, 1, 2, 3, 4, 5, 6, 7, 8, 9, 10, 11, 12, 13, 14, 15, 16, 17, 18]⟩] true)
  (.region 11 [
    ⟨(some 51), .mov (.t 0), none, []⟩,
    ⟨(some 52), .mov (.t 7), none, []⟩,
    ⟨(some 53), .mov (.t 10), none, []⟩,
    ⟨(some 54), .mov (.t 6), none, []⟩,
    ⟨(some 55), .call (.c (.fn F_slices_siftDownOrdered_string [])) [(.t 51), (.t 52), (.t 53), (.t 54)], none, []⟩] false)))
  (.mask ⟨[0, 6, 7, 10], []⟩ (.region 9 [
    ⟨(some 31), .mov (.t 10), none, []⟩,
    ⟨(some 32), .bin .sub (.t 31) (.c (.d (.int .i64 (1)))), none, []⟩,
    ⟨(some 10), .mov (.t 32), none, []⟩] false))))
/-- slices.heapSortOrdered[string] -/
def code_slices_heapSortOrdered_string : AFunc := ⟨56, [],
  .seq (.region 0 [
    ⟨(some 11), .mov (.t 1), none, []⟩,
    ⟨(some 6), .mov (.t 11), none, []⟩] false)
  (.seq (.region 1 [
    ⟨(some 7), .mov (.c (.d (.int .i64 (0)))), none, []⟩] false)
  (.seq (.region 2 [
    ⟨(some 12), .mov (.t 2), none, []⟩,
    ⟨(some 13), .mov (.t 1), none, []⟩,
    ⟨(some 14), .bin .sub (.t 12) (.t 13), none, []⟩,
    ⟨(some 8), .mov (.t 14), none, []⟩] false)
  (.seq (.seq (.region 3 [
    ⟨(some 15), .mov (.t 8), none, []⟩,
    ⟨(some 16), .bin .sub (.t 15) (.c (.d (.int .i64 (1)))), none, []⟩,
    ⟨(some 17), .bin .quo (.t 16) (.c (.d (.int .i64 (2)))), none, []⟩,
    ⟨(some 9), .mov (.t 17), none, []⟩] false)
  (.block 0 (.loop mask_slices_heapSortOrdered_string_0 body_slices_heapSortOrdered_string_0)))
  (.mask ⟨[0, 6, 7, 8], []⟩ (.seq (.region 7 [
    ⟨(some 27), .mov (.t 8), none, []⟩,
    ⟨(some 28), .bin .sub (.t 27) (.c (.d (.int .i64 (1)))), none, []⟩,
    ⟨(some 10), .mov (.t 28), none, []⟩] false)
  (.block 2 (.loop mask_slices_heapSortOrdered_string_1 body_slices_heapSortOrdered_string_1)))))))⟩
def mask_slices_breakPatternsOrdered_string_0 : Mask := ⟨[0, 1, 6, 7, 8, 9], []⟩
def body_slices_breakPatternsOrdered_string_0 : ACode :=
  .seq (.seq (.region 5 [
    ⟨(some 26), .mov (.t 9), none, []⟩,
    ⟨(some 27), .mov (.t 1), none, []⟩,
    ⟨(some 28), .mov (.t 6), none, []⟩,
    ⟨(some 29), .bin .quo (.t 28) (.c (.d (.int .i64 (4)))), none, []⟩,
    ⟨(some 30), .bin .mul (.t 29) (.c (.d (.int .i64 (2)))), none, []⟩,
    ⟨(some 31), .bin .add (.t 27) (.t 30), none, []⟩,
    ⟨(some 32), .bin .add (.t 31) (.c (.d (.int .i64 (1)))), none, []⟩,
    ⟨(some 33), .bin .leq (.t 26) (.t 32), none, []⟩] false)
  (.cond (.t 33)
    (.skip)
    (.mask ⟨[], []⟩ (.exit 0))))
  (.mask ⟨[0, 1, 6, 7, 8, 9], []⟩ (.seq (.block 1 (.seq (.region 7 [
    ⟨(some 36), .call (.c (.fn F_slices_xorshift_Next [])) [(.t 7)], none, []⟩,
    ⟨(some 37), .mov (.t 8), none, []⟩,
    ⟨(some 38), .bin .sub (.t 37) (.c (.d (.int .u64 (1)))), none, []⟩,
    ⟨(some 39), .bin .and (.t 36) (.t 38), none, []⟩,
    ⟨(some 40), .toInt .i64 (.t 39), none, []⟩,
    ⟨(some 10), .mov (.t 40), none, []⟩] false)
  (.seq (.seq (.region 8 [
    ⟨(some 41), .mov (.t 10), none, []⟩,
    ⟨(some 42), .mov (.t 6), none, []⟩,
    ⟨(some 43), .bin .geq (.t 41) (.t 42), none, []⟩] false)
  (.cond (.t 43)
    (.region 9 [
      ⟨(some 44), .mov (.t 10), none, []⟩,
      ⟨(some 45), .mov (.t 6), none, []⟩,
      ⟨(some 46), .bin .sub (.t 44) (.t 45), none, []⟩,
      ⟨(some 10), .mov (.t 46), none, []⟩] false)
    (.skip)))
  (.mask ⟨[0, 1, 6, 7, 8, 9, 10], []⟩ (.region 10 [
    ⟨(some 47), .mov (.t 0), none, []⟩,
    ⟨(some 48), .mov (.t 9), none, []⟩,
    ⟨(some 49), .mov (.t 0), none, []⟩,
    ⟨(some 50), .mov (.t 1), none, []⟩,
    ⟨(some 51), .mov (.t 10), none, []⟩,
    ⟨(some 52), .bin .add (.t 50) (.t 51), none, [3, 4]⟩,
    ⟨(some 53), .mov (.t 0), none, []⟩,
    ⟨(some 54), .mov (.t 1), none, []⟩,
    ⟨(some 55), .mov (.t 10), none, []⟩,
    ⟨(some 56), .bin .add (.t 54) (.t 55), none, [7, 8]⟩,
    ⟨(some 57), .iaddr 1 (.t 53) (.t 56), none, [6, 7, 8, 9]⟩,
    ⟨(some 58), .load 1 false (.t 57), none, [6, 7, 8, 9, 10]⟩,
    ⟨(some 59), .mov (.t 0), none, []⟩,
    ⟨(some 60), .mov (.t 9), none, []⟩,
    ⟨(some 61), .iaddr 1 (.t 59) (.t 60), none, [12, 13]⟩,
    ⟨(some 62), .load 1 false (.t 61), none, [12, 13, 14]⟩,
    ⟨(some 63), .iaddr 1 (.t 47) (.t 48), none, [0, 1, 6, 7, 8, 9, 10, 11, 12, 13, 14, 15]⟩,
    ⟨none, .store 1 (.t 63) (.t 58), none, [0, 1, 6, 7, 8, 9, 10, 11, 12, 13, 14, 15, 16]⟩,
    ⟨(some 64), .iaddr 1 (.t 49) (.t 52), none, [0, 1, 2, 3, 4, 5, 6, 7, 8, 9, 10, 11, 12, 13, 14, 15, 16, 17]⟩,
    ⟨none, .store 1 (.t 64) (.t 62), none, [0, 1, 2, 3, 4, 5, 6, 7, 8, 9, 10, 11, 12, 13, 14, 15, 16, 17, 18]⟩] true)))))
  (.mask ⟨[0, 1, 6, 7, 8, 9], []⟩ (.region 6 [
    ⟨(some 34), .mov (.t 9), none, []⟩,
    ⟨(some 35), .bin .add (.t 34) (.c (.d (.int .i64 (1)))), none, []⟩,
    ⟨(some 9), .mov (.t 35), none, []⟩] false))))
/-- slices.breakPatternsOrdered[string] -/
def code_slices_breakPatternsOrdered_string : AFunc := ⟨65, [],
  .seq (.region 0 [
    ⟨(some 11), .mov (.t 2), none, []⟩,
    ⟨(some 12), .mov (.t 1), none, []⟩,
    ⟨(some 13), .bin .sub (.t 11) (.t 12), none, []⟩,
    ⟨(some 6), .mov (.t 13), none, []⟩] false)
  (.seq (.region 1 [
    ⟨(some 14), .mov (.t 6), none, []⟩,
    ⟨(some 15), .bin .geq (.t 14) (.c (.d (.int .i64 (8)))), none, []⟩] false)
  (.cond (.t 15)
    (.seq (.region 2 [
      ⟨(some 16), .mov (.t 6), none, []⟩,
      ⟨(some 17), .toInt .u64 (.t 16), none, []⟩,
      ⟨(some 7), .box 1 (.c (.d (.int .u64 (0)))), none, []⟩,
      ⟨none, .store 1 (.t 7) (.t 17), none, []⟩] false)
    (.seq (.region 3 [
      ⟨(some 18), .mov (.t 6), none, []⟩,
      ⟨(some 19), .call (.c (.fn F_slices_nextPowerOfTwo [])) [(.t 18)], none, []⟩,
      ⟨(some 8), .mov (.t 19), none, []⟩] false)
    (.seq (.region 4 [
      ⟨(some 20), .mov (.t 1), none, []⟩,
      ⟨(some 21), .mov (.t 6), none, []⟩,
      ⟨(some 22), .bin .quo (.t 21) (.c (.d (.int .i64 (4)))), none, []⟩,
      ⟨(some 23), .bin .mul (.t 22) (.c (.d (.int .i64 (2)))), none, []⟩,
      ⟨(some 24), .bin .add (.t 20) (.t 23), none, []⟩,
      ⟨(some 25), .bin .sub (.t 24) (.c (.d (.int .i64 (1)))), none, []⟩,
      ⟨(some 9), .mov (.t 25), none, []⟩] false)
    (.block 0 (.loop mask_slices_breakPatternsOrdered_string_0 body_slices_breakPatternsOrdered_string_0)))))
    (.skip)))⟩
/-- slices.choosePivotOrdered[string] -/
def code_slices_choosePivotOrdered_string : AFunc := ⟨57, [.tmp 6, .tmp 7],
  .seq (.region 0 [
    ⟨(some 6), .mov (.c (.d (.int .i64 (0)))), none, []⟩,
    ⟨(some 7), .mov (.c (.d (.int .i64 (0)))), none, []⟩] false)
  (.seq (.region 1 [
    ⟨(some 13), .mov (.t 2), none, []⟩,
    ⟨(some 14), .mov (.t 1), none, []⟩,
    ⟨(some 15), .bin .sub (.t 13) (.t 14), none, []⟩,
    ⟨(some 8), .mov (.t 15), none, []⟩] false)
  (.seq (.region 2 [
    ⟨(some 9), .box 1 (.c (.d (.int .i64 (0)))), none, []⟩] false)
  (.seq (.region 3 [
    ⟨(some 16), .mov (.t 1), none, []⟩,
    ⟨(some 17), .mov (.t 8), none, []⟩,
    ⟨(some 18), .bin .quo (.t 17) (.c (.d (.int .i64 (4)))), none, []⟩,
    ⟨(some 19), .bin .mul (.t 18) (.c (.d (.int .i64 (1)))), none, []⟩,
    ⟨(some 20), .bin .add (.t 16) (.t 19), none, []⟩,
    ⟨(some 10), .mov (.t 20), none, []⟩] false)
  (.seq (.region 4 [
    ⟨(some 21), .mov (.t 1), none, []⟩,
    ⟨(some 22), .mov (.t 8), none, []⟩,
    ⟨(some 23), .bin .quo (.t 22) (.c (.d (.int .i64 (4)))), none, []⟩,
    ⟨(some 24), .bin .mul (.t 23) (.c (.d (.int .i64 (2)))), none, []⟩,
    ⟨(some 25), .bin .add (.t 21) (.t 24), none, []⟩,
    ⟨(some 11), .mov (.t 25), none, []⟩] false)
  (.seq (.region 5 [
    ⟨(some 26), .mov (.t 1), none, []⟩,
    ⟨(some 27), .mov (.t 8), none, []⟩,
    ⟨(some 28), .bin .quo (.t 27) (.c (.d (.int .i64 (4)))), none, []⟩,
    ⟨(some 29), .bin .mul (.t 28) (.c (.d (.int .i64 (3)))), none, []⟩,
    ⟨(some 30), .bin .add (.t 26) (.t 29), none, []⟩,
    ⟨(some 12), .mov (.t 30), none, []⟩] false)
  (.seq (.seq (.region 6 [
    ⟨(some 31), .mov (.t 8), none, []⟩,
    ⟨(some 32), .bin .geq (.t 31) (.c (.d (.int .i64 (8)))), none, []⟩] false)
  (.cond (.t 32)
    (.seq (.seq (.region 7 [
      ⟨(some 33), .mov (.t 8), none, []⟩,
      ⟨(some 34), .bin .geq (.t 33) (.c (.d (.int .i64 (50)))), none, []⟩] false)
    (.cond (.t 34)
      (.seq (.region 8 [
        ⟨(some 35), .mov (.t 0), none, []⟩,
        ⟨(some 36), .mov (.t 10), none, []⟩,
        ⟨(some 37), .call (.c (.fn F_slices_medianAdjacentOrdered_string [])) [(.t 35), (.t 36), (.t 9)], none, []⟩,
        ⟨(some 10), .mov (.t 37), none, []⟩] false)
      (.seq (.region 9 [
        ⟨(some 38), .mov (.t 0), none, []⟩,
        ⟨(some 39), .mov (.t 11), none, []⟩,
        ⟨(some 40), .call (.c (.fn F_slices_medianAdjacentOrdered_string [])) [(.t 38), (.t 39), (.t 9)], none, []⟩,
        ⟨(some 11), .mov (.t 40), none, []⟩] false)
      (.region 10 [
        ⟨(some 41), .mov (.t 0), none, []⟩,
        ⟨(some 42), .mov (.t 12), none, []⟩,
        ⟨(some 43), .call (.c (.fn F_slices_medianAdjacentOrdered_string [])) [(.t 41), (.t 42), (.t 9)], none, []⟩,
        ⟨(some 12), .mov (.t 43), none, []⟩] false)))
      (.skip)))
    (.mask ⟨[0, 9, 10, 11, 12], []⟩ (.region 11 [
      ⟨(some 44), .mov (.t 0), none, []⟩,
      ⟨(some 45), .mov (.t 10), none, []⟩,
      ⟨(some 46), .mov (.t 11), none, []⟩,
      ⟨(some 47), .mov (.t 12), none, []⟩,
      ⟨(some 48), .call (.c (.fn F_slices_medianOrdered_string [])) [(.t 44), (.t 45), (.t 46), (.t 47), (.t 9)], none, []⟩,
      ⟨(some 11), .mov (.t 48), none, []⟩] false)))
    (.skip)))
  (.mask ⟨[9, 11], []⟩ (.seq (.region 12 [
    ⟨(some 49), .load 1 false (.t 9), none, []⟩] false)
  (.block 0 (.seq (.region 14 [
    ⟨(some 52), .bin .eql (.t 49) (.c (.d (.int .i64 (0)))), none, []⟩,
    ⟨(some 51), .mov (.t 52), none, []⟩] false)
  (.cond (.t 51)
    (.seq (.region 15 [
      ⟨(some 53), .mov (.t 11), none, []⟩,
      ⟨(some 6), .mov (.t 53), none, []⟩,
      ⟨(some 7), .mov (.c (.d (.int .i64 (1)))), none, []⟩] false)
    (.mask ⟨[6, 7], []⟩ (.ret)))
    (.seq (.region 16 [
      ⟨(some 55), .bin .eql (.t 49) (.c (.d (.int .i64 (12)))), none, []⟩,
      ⟨(some 54), .mov (.t 55), none, []⟩] false)
    (.cond (.t 54)
      (.seq (.region 17 [
        ⟨(some 56), .mov (.t 11), none, []⟩,
        ⟨(some 6), .mov (.t 56), none, []⟩,
        ⟨(some 7), .mov (.c (.d (.int .i64 (2)))), none, []⟩] false)
      (.mask ⟨[6, 7], []⟩ (.ret)))
      (.seq (.region 13 [
        ⟨(some 50), .mov (.t 11), none, []⟩,
        ⟨(some 6), .mov (.t 50), none, []⟩,
        ⟨(some 7), .mov (.c (.d (.int .i64 (0)))), none, []⟩] false)
      (.mask ⟨[6, 7], []⟩ (.ret))))))))))))))))⟩
def mask_slices_reverseRangeOrdered_string_0 : Mask := ⟨[0, 6, 7], []⟩
def body_slices_reverseRangeOrdered_string_0 : ACode :=
  .seq (.seq (.region 2 [
    ⟨(some 11), .mov (.t 6), none, []⟩,
    ⟨(some 12), .mov (.t 7), none, []⟩,
    ⟨(some 13), .bin .lss (.t 11) (.t 12), none, []⟩] false)
  (.cond (.t 13)
    (.skip)
    (.mask ⟨[], []⟩ (.exit 0))))
  (.mask ⟨[0, 6, 7], []⟩ (.block 1 (.seq (.region 3 [
    ⟨(some 14), .mov (.t 0), none, []⟩,
    ⟨(some 15), .mov (.t 6), none, []⟩,
    ⟨(some 16), .mov (.t 0), none, []⟩,
    ⟨(some 17), .mov (.t 7), none, []⟩,
    ⟨(some 18), .mov (.t 0), none, []⟩,
    ⟨(some 19), .mov (.t 7), none, []⟩,
    ⟨(some 20), .iaddr 1 (.t 18) (.t 19), none, [4, 5]⟩,
    ⟨(some 21), .load 1 false (.t 20), none, [4, 5, 6]⟩,
    ⟨(some 22), .mov (.t 0), none, []⟩,
    ⟨(some 23), .mov (.t 6), none, []⟩,
    ⟨(some 24), .iaddr 1 (.t 22) (.t 23), none, [8, 9]⟩,
    ⟨(some 25), .load 1 false (.t 24), none, [8, 9, 10]⟩,
    ⟨(some 26), .iaddr 1 (.t 14) (.t 15), none, [0, 1, 4, 5, 6, 7, 8, 9, 10, 11]⟩,
    ⟨none, .store 1 (.t 26) (.t 21), none, [0, 1, 4, 5, 6, 7, 8, 9, 10, 11, 12]⟩,
    ⟨(some 27), .iaddr 1 (.t 16) (.t 17), none, [0, 1, 2, 3, 4, 5, 6, 7, 8, 9, 10, 11, 12, 13]⟩,
    ⟨none, .store 1 (.t 27) (.t 25), none, [0, 1, 2, 3, 4, 5, 6, 7, 8, 9, 10, 11, 12, 13, 14]⟩] true)
  (.seq (.region 4 [
    ⟨(some 28), .mov (.t 6), none, []⟩,
    ⟨(some 29), .bin .add (.t 28) (.c (.d (.int .i64 (1)))), none, []⟩,
    ⟨(some 6), .mov (.t 29), none, []⟩] false)
  (.region 5 [
    ⟨(some 30), .mov (.t 7), none, []⟩,
    ⟨(some 31), .bin .sub (.t 30) (.c (.d (.int .i64 (1)))), none, []⟩,
    ⟨(some 7), .mov (.t 31), none, []⟩] false)))))
/-- slices.reverseRangeOrdered[string] -/
def code_slices_reverseRangeOrdered_string : AFunc := ⟨32, [],
  .seq (.region 0 [
    ⟨(some 8), .mov (.t 1), none, []⟩,
    ⟨(some 6), .mov (.t 8), none, []⟩] false)
  (.seq (.region 1 [
    ⟨(some 9), .mov (.t 2), none, []⟩,
    ⟨(some 10), .bin .sub (.t 9) (.c (.d (.int .i64 (1)))), none, []⟩,
    ⟨(some 7), .mov (.t 10), none, []⟩] false)
  (.block 0 (.loop mask_slices_reverseRangeOrdered_string_0 body_slices_reverseRangeOrdered_string_0)))⟩
def mask_slices_partialInsertionSortOrdered_string_0 : Mask := ⟨[0, 1, 2, 7, 8], []⟩
def body_slices_partialInsertionSortOrdered_string_0 : ACode :=
  .seq (.seq (.region 5 [
    ⟨(some 17), .mov (.t 7), none, []⟩,
    ⟨(some 18), .mov (.t 2), none, []⟩,
    ⟨(some 19), .bin .lss (.t 17) (.t 18), none, [0, 1]⟩,
    ⟨(some 20), .mov (.t 19), none, [0, 1, 2]⟩,
    ⟨(some 21), .mov (.t 0), (some (20, true)), [0, 1, 2, 3]⟩,
    ⟨(some 22), .mov (.t 7), (some (20, true)), [0, 1, 2, 3]⟩,
    ⟨(some 23), .iaddr 1 (.t 21) (.t 22), (some (20, true)), [0, 1, 2, 3, 4, 5]⟩,
    ⟨(some 24), .load 1 false (.t 23), (some (20, true)), [0, 1, 2, 3, 4, 5, 6]⟩,
    ⟨(some 25), .mov (.t 0), (some (20, true)), [0, 1, 2, 3]⟩,
    ⟨(some 26), .mov (.t 7), (some (20, true)), [0, 1, 2, 3]⟩,
    ⟨(some 27), .bin .sub (.t 26) (.c (.d (.int .i64 (1)))), (some (20, true)), [0, 1, 2, 3, 9]⟩,
    ⟨(some 28), .iaddr 1 (.t 25) (.t 27), (some (20, true)), [0, 1, 2, 3, 8, 9, 10]⟩,
    ⟨(some 29), .load 1 false (.t 28), (some (20, true)), [0, 1, 2, 3, 8, 9, 10, 11]⟩,
    ⟨(some 30), .call (.c (.fn F_cmp_Less_string [])) [(.t 24), (.t 29)], (some (20, true)), [0, 1, 2, 3, 4, 5, 6, 7, 8, 9, 10, 11, 12]⟩,
    ⟨(some 31), .un .not (.t 30), (some (20, true)), [0, 1, 2, 3, 4, 5, 6, 7, 8, 9, 10, 11, 12, 13]⟩,
    ⟨(some 32), .pick (.t 20) (.t 31) (.c (.d (.bool false))), none, [0, 1, 2, 3, 4, 5, 6, 7, 8, 9, 10, 11, 12, 13, 14]⟩] true)
  (.mask ⟨[0, 1, 2, 7, 8, 32], []⟩ (.cond (.t 32)
    (.skip)
    (.mask ⟨[0, 1, 2, 7, 8], []⟩ (.exit 2)))))
  (.mask ⟨[0, 1, 2, 7, 8], []⟩ (.block 3 (.region 6 [
    ⟨(some 33), .mov (.t 7), none, []⟩,
    ⟨(some 34), .bin .add (.t 33) (.c (.d (.int .i64 (1)))), none, []⟩,
    ⟨(some 7), .mov (.t 34), none, []⟩] false)))
def mask_slices_partialInsertionSortOrdered_string_1 : Mask := ⟨[0, 1, 2, 7, 8, 9], []⟩
def body_slices_partialInsertionSortOrdered_string_1 : ACode :=
  .seq (.seq (.region 14 [
    ⟨(some 64), .mov (.t 9), none, []⟩,
    ⟨(some 65), .bin .geq (.t 64) (.c (.d (.int .i64 (1)))), none, []⟩] false)
  (.cond (.t 65)
    (.skip)
    (.mask ⟨[0, 1, 2, 7, 8], []⟩ (.exit 4))))
  (.mask ⟨[0, 1, 2, 7, 8, 9], []⟩ (.seq (.block 5 (.seq (.seq (.region 16 [
    ⟨(some 68), .mov (.t 0), none, []⟩,
    ⟨(some 69), .mov (.t 9), none, []⟩,
    ⟨(some 70), .iaddr 1 (.t 68) (.t 69), none, [0, 1]⟩,
    ⟨(some 71), .load 1 false (.t 70), none, [0, 1, 2]⟩,
    ⟨(some 72), .mov (.t 0), none, []⟩,
    ⟨(some 73), .mov (.t 9), none, []⟩,
    ⟨(some 74), .bin .sub (.t 73) (.c (.d (.int .i64 (1)))), none, [5]⟩,
    ⟨(some 75), .iaddr 1 (.t 72) (.t 74), none, [4, 5, 6]⟩,
    ⟨(some 76), .load 1 false (.t 75), none, [4, 5, 6, 7]⟩,
    ⟨(some 77), .call (.c (.fn F_cmp_Less_string [])) [(.t 71), (.t 76)], none, [0, 1, 2, 3, 4, 5, 6, 7, 8]⟩,
    ⟨(some 78), .un .not (.t 77), none, [0, 1, 2, 3, 4, 5, 6, 7, 8, 9]⟩] true)
  (.cond (.t 78)
    (.mask ⟨[0, 1, 2, 7, 8], []⟩ (.exit 4))
    (.skip)))
  (.mask ⟨[0, 1, 2, 7, 8, 9], []⟩ (.region 17 [
    ⟨(some 79), .mov (.t 0), none, []⟩,
    ⟨(some 80), .mov (.t 9), none, []⟩,
    ⟨(some 81), .mov (.t 0), none, []⟩,
    ⟨(some 82), .mov (.t 9), none, []⟩,
    ⟨(some 83), .bin .sub (.t 82) (.c (.d (.int .i64 (1)))), none, [3]⟩,
    ⟨(some 84), .mov (.t 0), none, []⟩,
    ⟨(some 85), .mov (.t 9), none, []⟩,
    ⟨(some 86), .bin .sub (.t 85) (.c (.d (.int .i64 (1)))), none, [6]⟩,
    ⟨(some 87), .iaddr 1 (.t 84) (.t 86), none, [5, 6, 7]⟩,
    ⟨(some 88), .load 1 false (.t 87), none, [5, 6, 7, 8]⟩,
    ⟨(some 89), .mov (.t 0), none, []⟩,
    ⟨(some 90), .mov (.t 9), none, []⟩,
    ⟨(some 91), .iaddr 1 (.t 89) (.t 90), none, [10, 11]⟩,
    ⟨(some 92), .load 1 false (.t 91), none, [10, 11, 12]⟩,
    ⟨(some 93), .iaddr 1 (.t 79) (.t 80), none, [0, 1, 5, 6, 7, 8, 9, 10, 11, 12, 13]⟩,
    ⟨none, .store 1 (.t 93) (.t 88), none, [0, 1, 5, 6, 7, 8, 9, 10, 11, 12, 13, 14]⟩,
    ⟨(some 94), .iaddr 1 (.t 81) (.t 83), none, [0, 1, 2, 3, 4, 5, 6, 7, 8, 9, 10, 11, 12, 13, 14, 15]⟩,
    ⟨none, .store 1 (.t 94) (.t 92), none, [0, 1, 2, 3, 4, 5, 6, 7, 8, 9, 10, 11, 12, 13, 14, 15, 16]⟩] true))))
  (.mask ⟨[0, 1, 2, 7, 8, 9], []⟩ (.region 15 [
    ⟨(some 66), .mov (.t 9), none, []⟩,
    ⟨(some 67), .bin .sub (.t 66) (.c (.d (.int .i64 (1)))), none, []⟩,
    ⟨(some 9), .mov (.t 67), none, []⟩] false))))
def mask_slices_partialInsertionSortOrdered_string_2 : Mask := ⟨[0, 1, 2, 7, 8, 10], []⟩
def body_slices_partialInsertionSortOrdered_string_2 : ACode :=
  .seq (.seq (.region 20 [
    ⟨(some 101), .mov (.t 10), none, []⟩,
    ⟨(some 102), .mov (.t 2), none, []⟩,
    ⟨(some 103), .bin .lss (.t 101) (.t 102), none, []⟩] false)
  (.cond (.t 103)
    (.skip)
    (.mask ⟨[0, 1, 2, 7, 8], []⟩ (.exit 6))))
  (.mask ⟨[0, 1, 2, 7, 8, 10], []⟩ (.seq (.block 7 (.seq (.seq (.region 22 [
    ⟨(some 106), .mov (.t 0), none, []⟩,
    ⟨(some 107), .mov (.t 10), none, []⟩,
    ⟨(some 108), .iaddr 1 (.t 106) (.t 107), none, [0, 1]⟩,
    ⟨(some 109), .load 1 false (.t 108), none, [0, 1, 2]⟩,
    ⟨(some 110), .mov (.t 0), none, []⟩,
    ⟨(some 111), .mov (.t 10), none, []⟩,
    ⟨(some 112), .bin .sub (.t 111) (.c (.d (.int .i64 (1)))), none, [5]⟩,
    ⟨(some 113), .iaddr 1 (.t 110) (.t 112), none, [4, 5, 6]⟩,
    ⟨(some 114), .load 1 false (.t 113), none, [4, 5, 6, 7]⟩,
    ⟨(some 115), .call (.c (.fn F_cmp_Less_string [])) [(.t 109), (.t 114)], none, [0, 1, 2, 3, 4, 5, 6, 7, 8]⟩,
    ⟨(some 116), .un .not (.t 115), none, [0, 1, 2, 3, 4, 5, 6, 7, 8, 9]⟩] true)
  (.cond (.t 116)
    (.mask ⟨[0, 1, 2, 7, 8], []⟩ (.exit 6))
    (.skip)))
  (.mask ⟨[0, 1, 2, 7, 8, 10], []⟩ (.region 23 [
    ⟨(some 117), .mov (.t 0), none, []⟩,
    ⟨(some 118), .mov (.t 10), none, []⟩,
    ⟨(some 119), .mov (.t 0), none, []⟩,
    ⟨(some 120), .mov (.t 10), none, []⟩,
    ⟨(some 121), .bin .sub (.t 120) (.c (.d (.int .i64 (1)))), none, [3]⟩,
    ⟨(some 122), .mov (.t 0), none, []⟩,
    ⟨(some 123), .mov (.t 10), none, []⟩,
    ⟨(some 124), .bin .sub (.t 123) (.c (.d (.int .i64 (1)))), none, [6]⟩,
    ⟨(some 125), .iaddr 1 (.t 122) (.t 124), none, [5, 6, 7]⟩,
    ⟨(some 126), .load 1 false (.t 125), none, [5, 6, 7, 8]⟩,
    ⟨(some 127), .mov (.t 0), none, []⟩,
    ⟨(some 128), .mov (.t 10), none, []⟩,
    ⟨(some 129), .iaddr 1 (.t 127) (.t 128), none, [10, 11]⟩,
    ⟨(some 130), .load 1 false (.t 129), none, [10, 11, 12]⟩,
    ⟨(some 131), .iaddr 1 (.t 117) (.t 118), none, [0, 1, 5, 6, 7, 8, 9, 10, 11, 12, 13]⟩,
    ⟨none, .store 1 (.t 131) (.t 126), none, [0, 1, 5, 6, 7, 8, 9, 10, 11, 12, 13, 14]⟩,
    ⟨(some 132), .iaddr 1 (.t 119) (.t 121), none, [0, 1, 2, 3, 4, 5, 6, 7, 8, 9, 10, 11, 12, 13, 14, 15]⟩,
    ⟨none, .store 1 (.t 132) (.t 130), none, [0, 1, 2, 3, 4, 5, 6, 7, 8, 9, 10, 11, 12, 13, 14, 15, 16]⟩] true))))
  (.mask ⟨[0, 1, 2, 7, 8, 10], []⟩ (.region 21 [
    ⟨(some 104), .mov (.t 10), none, []⟩,
    ⟨(some 105), .bin .add (.t 104) (.c (.d (.int .i64 (1)))), none, []⟩,
    ⟨(some 10), .mov (.t 105), none, []⟩] false))))
def mask_slices_partialInsertionSortOrdered_string_3 : Mask := ⟨[0, 1, 2, 7, 8], []⟩
def body_slices_partialInsertionSortOrdered_string_3 : ACode :=
  .seq (.seq (.region 3 [
    ⟨(some 13), .mov (.t 8), none, []⟩,
    ⟨(some 14), .bin .lss (.t 13) (.c (.d (.int .i64 (5)))), none, []⟩] false)
  (.cond (.t 14)
    (.skip)
    (.mask ⟨[], []⟩ (.exit 0))))
  (.mask ⟨[0, 1, 2, 7, 8], []⟩ (.seq (.block 1 (.seq (.block 2 (.loop mask_slices_partialInsertionSortOrdered_string_0 body_slices_partialInsertionSortOrdered_string_0))
  (.mask ⟨[0, 1, 2, 7, 8], []⟩ (.seq (.seq (.region 7 [
    ⟨(some 35), .mov (.t 7), none, []⟩,
    ⟨(some 36), .mov (.t 2), none, []⟩,
    ⟨(some 37), .bin .eql (.t 35) (.t 36), none, []⟩] false)
  (.cond (.t 37)
    (.seq (.region 8 [
      ⟨(some 6), .mov (.c (.d (.bool true))), none, []⟩] false)
    (.mask ⟨[6], []⟩ (.ret)))
    (.skip)))
  (.mask ⟨[0, 1, 2, 7, 8], []⟩ (.seq (.seq (.region 9 [
    ⟨(some 38), .mov (.t 2), none, []⟩,
    ⟨(some 39), .mov (.t 1), none, []⟩,
    ⟨(some 40), .bin .sub (.t 38) (.t 39), none, []⟩,
    ⟨(some 41), .bin .lss (.t 40) (.c (.d (.int .i64 (50)))), none, []⟩] false)
  (.cond (.t 41)
    (.seq (.region 10 [
      ⟨(some 6), .mov (.c (.d (.bool false))), none, []⟩] false)
    (.mask ⟨[6], []⟩ (.ret)))
    (.skip)))
  (.mask ⟨[0, 1, 2, 7, 8], []⟩ (.seq (.region 11 [
    ⟨(some 42), .mov (.t 0), none, []⟩,
    ⟨(some 43), .mov (.t 7), none, []⟩,
    ⟨(some 44), .mov (.t 0), none, []⟩,
    ⟨(some 45), .mov (.t 7), none, []⟩,
    ⟨(some 46), .bin .sub (.t 45) (.c (.d (.int .i64 (1)))), none, [3]⟩,
    ⟨(some 47), .mov (.t 0), none, []⟩,
    ⟨(some 48), .mov (.t 7), none, []⟩,
    ⟨(some 49), .bin .sub (.t 48) (.c (.d (.int .i64 (1)))), none, [6]⟩,
    ⟨(some 50), .iaddr 1 (.t 47) (.t 49), none, [5, 6, 7]⟩,
    ⟨(some 51), .load 1 false (.t 50), none, [5, 6, 7, 8]⟩,
    ⟨(some 52), .mov (.t 0), none, []⟩,
    ⟨(some 53), .mov (.t 7), none, []⟩,
    ⟨(some 54), .iaddr 1 (.t 52) (.t 53), none, [10, 11]⟩,
    ⟨(some 55), .load 1 false (.t 54), none, [10, 11, 12]⟩,
    ⟨(some 56), .iaddr 1 (.t 42) (.t 43), none, [0, 1, 5, 6, 7, 8, 9, 10, 11, 12, 13]⟩,
    ⟨none, .store 1 (.t 56) (.t 51), none, [0, 1, 5, 6, 7, 8, 9, 10, 11, 12, 13, 14]⟩,
    ⟨(some 57), .iaddr 1 (.t 44) (.t 46), none, [0, 1, 2, 3, 4, 5, 6, 7, 8, 9, 10, 11, 12, 13, 14, 15]⟩,
    ⟨none, .store 1 (.t 57) (.t 55), none, [0, 1, 2, 3, 4, 5, 6, 7, 8, 9, 10, 11, 12, 13, 14, 15, 16]⟩] true)
  (.seq (.seq (.region 12 [
    ⟨(some 58), .mov (.t 7), none, []⟩,
    ⟨(some 59), .mov (.t 1), none, []⟩,
    ⟨(some 60), .bin .sub (.t 58) (.t 59), none, []⟩,
    ⟨(some 61), .bin .geq (.t 60) (.c (.d (.int .i64 (2)))), none, []⟩] false)
  (.cond (.t 61)
    (.seq (.region 13 [
      ⟨(some 62), .mov (.t 7), none, []⟩,
      ⟨(some 63), .bin .sub (.t 62) (.c (.d (.int .i64 (1)))), none, []⟩,
      ⟨(some 9), .mov (.t 63), none, []⟩] false)
    (.block 4 (.loop mask_slices_partialInsertionSortOrdered_string_1 body_slices_partialInsertionSortOrdered_string_1)))
    (.skip)))
  (.mask ⟨[0, 1, 2, 7, 8], []⟩ (.seq (.region 18 [
    ⟨(some 95), .mov (.t 2), none, []⟩,
    ⟨(some 96), .mov (.t 7), none, []⟩,
    ⟨(some 97), .bin .sub (.t 95) (.t 96), none, []⟩,
    ⟨(some 98), .bin .geq (.t 97) (.c (.d (.int .i64 (2)))), none, []⟩] false)
  (.cond (.t 98)
    (.seq (.region 19 [
      ⟨(some 99), .mov (.t 7), none, []⟩,
      ⟨(some 100), .bin .add (.t 99) (.c (.d (.int .i64 (1)))), none, []⟩,
      ⟨(some 10), .mov (.t 100), none, []⟩] false)
    (.block 6 (.loop mask_slices_partialInsertionSortOrdered_string_2 body_slices_partialInsertionSortOrdered_string_2)))
    (.skip)))))))))))))
  (.mask ⟨[0, 1, 2, 7, 8], []⟩ (.region 4 [
    ⟨(some 15), .mov (.t 8), none, []⟩,
    ⟨(some 16), .bin .add (.t 15) (.c (.d (.int .i64 (1)))), none, []⟩,
    ⟨(some 8), .mov (.t 16), none, []⟩] false))))
/-- slices.partialInsertionSortOrdered[string] -/
def code_slices_partialInsertionSortOrdered_string : AFunc := ⟨133, [.tmp 6],
  .seq (.region 0 [
    ⟨(some 6), .mov (.c (.d (.bool false))), none, []⟩] false)
  (.seq (.region 1 [
    ⟨(some 11), .mov (.t 1), none, []⟩,
    ⟨(some 12), .bin .add (.t 11) (.c (.d (.int .i64 (1)))), none, []⟩,
    ⟨(some 7), .mov (.t 12), none, []⟩] false)
  (.seq (.seq (.region 2 [
    ⟨(some 8), .mov (.c (.d (.int .i64 (0)))), none, []⟩] false)
  (.block 0 (.loop mask_slices_partialInsertionSortOrdered_string_3 body_slices_partialInsertionSortOrdered_string_3)))
  (.mask ⟨[], []⟩ (.seq (.region 24 [
    ⟨(some 6), .mov (.c (.d (.bool false))), none, []⟩] false)
  (.mask ⟨[6], []⟩ (.ret))))))⟩
/-- cmp.Less[string] -/
def code_cmp_Less_string : AFunc := ⟨17, [.tmp 4],
  .seq (.region 0 [
    ⟨(some 4), .mov (.c (.d (.bool false))), none, []⟩] false)
  (.seq (.region 1 [
    ⟨(some 5), .mov (.t 0), none, []⟩,
    ⟨(some 6), .call (.c (.fn F_cmp_isNaN_string [])) [(.t 5)], none, []⟩,
    ⟨(some 7), .mov (.t 6), none, []⟩,
    ⟨(some 8), .mov (.t 1), (some (7, true)), []⟩,
    ⟨(some 9), .call (.c (.fn F_cmp_isNaN_string [])) [(.t 8)], (some (7, true)), []⟩,
    ⟨(some 10), .un .not (.t 9), (some (7, true)), []⟩,
    ⟨(some 11), .pick (.t 7) (.t 10) (.c (.d (.bool false))), none, []⟩,
    ⟨(some 12), .mov (.t 11), none, []⟩,
    ⟨(some 13), .mov (.t 0), (some (12, false)), []⟩,
    ⟨(some 14), .mov (.t 1), (some (12, false)), []⟩,
    ⟨(some 15), .bin .lss (.t 13) (.t 14), (some (12, false)), []⟩,
    ⟨(some 16), .pick (.t 12) (.c (.d (.bool true))) (.t 15), none, []⟩,
    ⟨(some 4), .mov (.t 16), none, []⟩] false)
  (.mask ⟨[4], []⟩ (.ret)))⟩
def mask_slices_partitionEqualOrdered_string_0 : Mask := ⟨[0, 1, 9, 10], []⟩
def body_slices_partitionEqualOrdered_string_0 : ACode :=
  .seq (.seq (.region 3 [
    ⟨(some 29), .mov (.t 9), none, []⟩,
    ⟨(some 30), .mov (.t 10), none, []⟩,
    ⟨(some 31), .bin .leq (.t 29) (.t 30), none, [0, 1]⟩,
    ⟨(some 32), .mov (.t 31), none, [0, 1, 2]⟩,
    ⟨(some 33), .mov (.t 0), (some (32, true)), [0, 1, 2, 3]⟩,
    ⟨(some 34), .mov (.t 1), (some (32, true)), [0, 1, 2, 3]⟩,
    ⟨(some 35), .iaddr 1 (.t 33) (.t 34), (some (32, true)), [0, 1, 2, 3, 4, 5]⟩,
    ⟨(some 36), .load 1 false (.t 35), (some (32, true)), [0, 1, 2, 3, 4, 5, 6]⟩,
    ⟨(some 37), .mov (.t 0), (some (32, true)), [0, 1, 2, 3]⟩,
    ⟨(some 38), .mov (.t 9), (some (32, true)), [0, 1, 2, 3]⟩,
    ⟨(some 39), .iaddr 1 (.t 37) (.t 38), (some (32, true)), [0, 1, 2, 3, 8, 9]⟩,
    ⟨(some 40), .load 1 false (.t 39), (some (32, true)), [0, 1, 2, 3, 8, 9, 10]⟩,
    ⟨(some 41), .call (.c (.fn F_cmp_Less_string [])) [(.t 36), (.t 40)], (some (32, true)), [0, 1, 2, 3, 4, 5, 6, 7, 8, 9, 10, 11]⟩,
    ⟨(some 42), .un .not (.t 41), (some (32, true)), [0, 1, 2, 3, 4, 5, 6, 7, 8, 9, 10, 11, 12]⟩,
    ⟨(some 43), .pick (.t 32) (.t 42) (.c (.d (.bool false))), none, [0, 1, 2, 3, 4, 5, 6, 7, 8, 9, 10, 11, 12, 13]⟩] true)
  (.mask ⟨[0, 1, 9, 10, 43], []⟩ (.cond (.t 43)
    (.skip)
    (.mask ⟨[0, 1, 9, 10], []⟩ (.exit 2)))))
  (.mask ⟨[0, 1, 9, 10], []⟩ (.block 3 (.region 4 [
    ⟨(some 44), .mov (.t 9), none, []⟩,
    ⟨(some 45), .bin .add (.t 44) (.c (.d (.int .i64 (1)))), none, []⟩,
    ⟨(some 9), .mov (.t 45), none, []⟩] false)))
def mask_slices_partitionEqualOrdered_string_1 : Mask := ⟨[0, 1, 9, 10], []⟩
def body_slices_partitionEqualOrdered_string_1 : ACode :=
  .seq (.seq (.region 5 [
    ⟨(some 46), .mov (.t 9), none, []⟩,
    ⟨(some 47), .mov (.t 10), none, []⟩,
    ⟨(some 48), .bin .leq (.t 46) (.t 47), none, [0, 1]⟩,
    ⟨(some 49), .mov (.t 48), none, [0, 1, 2]⟩,
    ⟨(some 50), .mov (.t 0), (some (49, true)), [0, 1, 2, 3]⟩,
    ⟨(some 51), .mov (.t 1), (some (49, true)), [0, 1, 2, 3]⟩,
    ⟨(some 52), .iaddr 1 (.t 50) (.t 51), (some (49, true)), [0, 1, 2, 3, 4, 5]⟩,
    ⟨(some 53), .load 1 false (.t 52), (some (49, true)), [0, 1, 2, 3, 4, 5, 6]⟩,
    ⟨(some 54), .mov (.t 0), (some (49, true)), [0, 1, 2, 3]⟩,
    ⟨(some 55), .mov (.t 10), (some (49, true)), [0, 1, 2, 3]⟩,
    ⟨(some 56), .iaddr 1 (.t 54) (.t 55), (some (49, true)), [0, 1, 2, 3, 8, 9]⟩,
    ⟨(some 57), .load 1 false (.t 56), (some (49, true)), [0, 1, 2, 3, 8, 9, 10]⟩,
    ⟨(some 58), .call (.c (.fn F_cmp_Less_string [])) [(.t 53), (.t 57)], (some (49, true)), [0, 1, 2, 3, 4, 5, 6, 7, 8, 9, 10, 11]⟩,
    ⟨(some 59), .pick (.t 49) (.t 58) (.c (.d (.bool false))), none, [0, 1, 2, 3, 4, 5, 6, 7, 8, 9, 10, 11, 12]⟩] true)
  (.mask ⟨[0, 1, 9, 10, 59], []⟩ (.cond (.t 59)
    (.skip)
    (.mask ⟨[0, 1, 9, 10], []⟩ (.exit 4)))))
  (.mask ⟨[0, 1, 9, 10], []⟩ (.block 5 (.region 6 [
    ⟨(some 60), .mov (.t 10), none, []⟩,
    ⟨(some 61), .bin .sub (.t 60) (.c (.d (.int .i64 (1)))), none, []⟩,
    ⟨(some 10), .mov (.t 61), none, []⟩] false)))
def mask_slices_partitionEqualOrdered_string_2 : Mask := ⟨[0, 1, 9, 10], []⟩
def body_slices_partitionEqualOrdered_string_2 : ACode :=
  .block 1 (.seq (.block 2 (.loop mask_slices_partitionEqualOrdered_string_0 body_slices_partitionEqualOrdered_string_0))
  (.mask ⟨[0, 1, 9, 10], []⟩ (.seq (.block 4 (.loop mask_slices_partitionEqualOrdered_string_1 body_slices_partitionEqualOrdered_string_1))
  (.mask ⟨[0, 1, 9, 10], []⟩ (.seq (.seq (.region 7 [
    ⟨(some 62), .mov (.t 9), none, []⟩,
    ⟨(some 63), .mov (.t 10), none, []⟩,
    ⟨(some 64), .bin .gtr (.t 62) (.t 63), none, []⟩] false)
  (.cond (.t 64)
    (.mask ⟨[9], []⟩ (.exit 0))
    (.skip)))
  (.mask ⟨[0, 1, 9, 10], []⟩ (.seq (.region 8 [
    ⟨(some 65), .mov (.t 0), none, []⟩,
    ⟨(some 66), .mov (.t 9), none, []⟩,
    ⟨(some 67), .mov (.t 0), none, []⟩,
    ⟨(some 68), .mov (.t 10), none, []⟩,
    ⟨(some 69), .mov (.t 0), none, []⟩,
    ⟨(some 70), .mov (.t 10), none, []⟩,
    ⟨(some 71), .iaddr 1 (.t 69) (.t 70), none, [4, 5]⟩,
    ⟨(some 72), .load 1 false (.t 71), none, [4, 5, 6]⟩,
    ⟨(some 73), .mov (.t 0), none, []⟩,
    ⟨(some 74), .mov (.t 9), none, []⟩,
    ⟨(some 75), .iaddr 1 (.t 73) (.t 74), none, [8, 9]⟩,
    ⟨(some 76), .load 1 false (.t 75), none, [8, 9, 10]⟩,
    ⟨(some 77), .iaddr 1 (.t 65) (.t 66), none, [0, 1, 4, 5, 6, 7, 8, 9, 10, 11]⟩,
    ⟨none, .store 1 (.t 77) (.t 72), none, [0, 1, 4, 5, 6, 7, 8, 9, 10, 11, 12]⟩,
    ⟨(some 78), .iaddr 1 (.t 67) (.t 68), none, [0, 1, 2, 3, 4, 5, 6, 7, 8, 9, 10, 11, 12, 13]⟩,
    ⟨none, .store 1 (.t 78) (.t 76), none, [0, 1, 2, 3, 4, 5, 6, 7, 8, 9, 10, 11, 12, 13, 14]⟩] true)
  (.seq (.region 9 [
    ⟨(some 79), .mov (.t 9), none, []⟩,
    ⟨(some 80), .bin .add (.t 79) (.c (.d (.int .i64 (1)))), none, []⟩,
    ⟨(some 9), .mov (.t 80), none, []⟩] false)
  (.region 10 [
    ⟨(some 81), .mov (.t 10), none, []⟩,
    ⟨(some 82), .bin .sub (.t 81) (.c (.d (.int .i64 (1)))), none, []⟩,
    ⟨(some 10), .mov (.t 82), none, []⟩] false)))))))))
/-- slices.partitionEqualOrdered[string] -/
def code_slices_partitionEqualOrdered_string : AFunc := ⟨84, [.tmp 8],
  .seq (.region 0 [
    ⟨(some 8), .mov (.c (.d (.int .i64 (0)))), none, []⟩] false)
  (.seq (.region 1 [
    ⟨(some 11), .mov (.t 0), none, []⟩,
    ⟨(some 12), .mov (.t 1), none, []⟩,
    ⟨(some 13), .mov (.t 0), none, []⟩,
    ⟨(some 14), .mov (.t 3), none, []⟩,
    ⟨(some 15), .mov (.t 0), none, []⟩,
    ⟨(some 16), .mov (.t 3), none, []⟩,
    ⟨(some 17), .iaddr 1 (.t 15) (.t 16), none, [4, 5]⟩,
    ⟨(some 18), .load 1 false (.t 17), none, [4, 5, 6]⟩,
    ⟨(some 19), .mov (.t 0), none, []⟩,
    ⟨(some 20), .mov (.t 1), none, []⟩,
    ⟨(some 21), .iaddr 1 (.t 19) (.t 20), none, [8, 9]⟩,
    ⟨(some 22), .load 1 false (.t 21), none, [8, 9, 10]⟩,
    ⟨(some 23), .iaddr 1 (.t 11) (.t 12), none, [0, 1, 4, 5, 6, 7, 8, 9, 10, 11]⟩,
    ⟨none, .store 1 (.t 23) (.t 18), none, [0, 1, 4, 5, 6, 7, 8, 9, 10, 11, 12]⟩,
    ⟨(some 24), .iaddr 1 (.t 13) (.t 14), none, [0, 1, 2, 3, 4, 5, 6, 7, 8, 9, 10, 11, 12, 13]⟩,
    ⟨none, .store 1 (.t 24) (.t 22), none, [0, 1, 2, 3, 4, 5, 6, 7, 8, 9, 10, 11, 12, 13, 14]⟩] true)
  (.seq (.region 2 [
    ⟨(some 25), .mov (.t 1), none, []⟩,
    ⟨(some 26), .bin .add (.t 25) (.c (.d (.int .i64 (1)))), none, []⟩,
    ⟨(some 27), .mov (.t 2), none, []⟩,
    ⟨(some 28), .bin .sub (.t 27) (.c (.d (.int .i64 (1)))), none, []⟩,
    ⟨(some 9), .mov (.t 26), none, []⟩,
    ⟨(some 10), .mov (.t 28), none, []⟩] false)
  (.seq (.block 0 (.loop mask_slices_partitionEqualOrdered_string_2 body_slices_partitionEqualOrdered_string_2))
  (.mask ⟨[9], []⟩ (.seq (.region 11 [
    ⟨(some 83), .mov (.t 9), none, []⟩,
    ⟨(some 8), .mov (.t 83), none, []⟩] false)
  (.mask ⟨[8], []⟩ (.ret)))))))⟩
def mask_slices_partitionOrdered_string_0 : Mask := ⟨[0, 1, 10, 11], []⟩
def body_slices_partitionOrdered_string_0 : ACode :=
  .seq (.seq (.region 3 [
    ⟨(some 30), .mov (.t 10), none, []⟩,
    ⟨(some 31), .mov (.t 11), none, []⟩,
    ⟨(some 32), .bin .leq (.t 30) (.t 31), none, [0, 1]⟩,
    ⟨(some 33), .mov (.t 32), none, [0, 1, 2]⟩,
    ⟨(some 34), .mov (.t 0), (some (33, true)), [0, 1, 2, 3]⟩,
    ⟨(some 35), .mov (.t 10), (some (33, true)), [0, 1, 2, 3]⟩,
    ⟨(some 36), .iaddr 1 (.t 34) (.t 35), (some (33, true)), [0, 1, 2, 3, 4, 5]⟩,
    ⟨(some 37), .load 1 false (.t 36), (some (33, true)), [0, 1, 2, 3, 4, 5, 6]⟩,
    ⟨(some 38), .mov (.t 0), (some (33, true)), [0, 1, 2, 3]⟩,
    ⟨(some 39), .mov (.t 1), (some (33, true)), [0, 1, 2, 3]⟩,
    ⟨(some 40), .iaddr 1 (.t 38) (.t 39), (some (33, true)), [0, 1, 2, 3, 8, 9]⟩,
    ⟨(some 41), .load 1 false (.t 40), (some (33, true)), [0, 1, 2, 3, 8, 9, 10]⟩,
    ⟨(some 42), .call (.c (.fn F_cmp_Less_string [])) [(.t 37), (.t 41)], (some (33, true)), [0, 1, 2, 3, 4, 5, 6, 7, 8, 9, 10, 11]⟩,
    ⟨(some 43), .pick (.t 33) (.t 42) (.c (.d (.bool false))), none, [0, 1, 2, 3, 4, 5, 6, 7, 8, 9, 10, 11, 12]⟩] true)
  (.mask ⟨[0, 1, 10, 11, 43], []⟩ (.cond (.t 43)
    (.skip)
    (.mask ⟨[0, 1, 10, 11], []⟩ (.exit 0)))))
  (.mask ⟨[0, 1, 10, 11], []⟩ (.block 1 (.region 4 [
    ⟨(some 44), .mov (.t 10), none, []⟩,
    ⟨(some 45), .bin .add (.t 44) (.c (.d (.int .i64 (1)))), none, []⟩,
    ⟨(some 10), .mov (.t 45), none, []⟩] false)))
def mask_slices_partitionOrdered_string_1 : Mask := ⟨[0, 1, 10, 11], []⟩
def body_slices_partitionOrdered_string_1 : ACode :=
  .seq (.seq (.region 5 [
    ⟨(some 46), .mov (.t 10), none, []⟩,
    ⟨(some 47), .mov (.t 11), none, []⟩,
    ⟨(some 48), .bin .leq (.t 46) (.t 47), none, [0, 1]⟩,
    ⟨(some 49), .mov (.t 48), none, [0, 1, 2]⟩,
    ⟨(some 50), .mov (.t 0), (some (49, true)), [0, 1, 2, 3]⟩,
    ⟨(some 51), .mov (.t 11), (some (49, true)), [0, 1, 2, 3]⟩,
    ⟨(some 52), .iaddr 1 (.t 50) (.t 51), (some (49, true)), [0, 1, 2, 3, 4, 5]⟩,
    ⟨(some 53), .load 1 false (.t 52), (some (49, true)), [0, 1, 2, 3, 4, 5, 6]⟩,
    ⟨(some 54), .mov (.t 0), (some (49, true)), [0, 1, 2, 3]⟩,
    ⟨(some 55), .mov (.t 1), (some (49, true)), [0, 1, 2, 3]⟩,
    ⟨(some 56), .iaddr 1 (.t 54) (.t 55), (some (49, true)), [0, 1, 2, 3, 8, 9]⟩,
    ⟨(some 57), .load 1 false (.t 56), (some (49, true)), [0, 1, 2, 3, 8, 9, 10]⟩,
    ⟨(some 58), .call (.c (.fn F_cmp_Less_string [])) [(.t 53), (.t 57)], (some (49, true)), [0, 1, 2, 3, 4, 5, 6, 7, 8, 9, 10, 11]⟩,
    ⟨(some 59), .un .not (.t 58), (some (49, true)), [0, 1, 2, 3, 4, 5, 6, 7, 8, 9, 10, 11, 12]⟩,
    ⟨(some 60), .pick (.t 49) (.t 59) (.c (.d (.bool false))), none, [0, 1, 2, 3, 4, 5, 6, 7, 8, 9, 10, 11, 12, 13]⟩] true)
  (.mask ⟨[0, 1, 10, 11, 60], []⟩ (.cond (.t 60)
    (.skip)
    (.mask ⟨[0, 1, 10, 11], []⟩ (.exit 2)))))
  (.mask ⟨[0, 1, 10, 11], []⟩ (.block 3 (.region 6 [
    ⟨(some 61), .mov (.t 11), none, []⟩,
    ⟨(some 62), .bin .sub (.t 61) (.c (.d (.int .i64 (1)))), none, []⟩,
    ⟨(some 11), .mov (.t 62), none, []⟩] false)))
def mask_slices_partitionOrdered_string_2 : Mask := ⟨[0, 1, 10, 11], []⟩
def body_slices_partitionOrdered_string_2 : ACode :=
  .seq (.seq (.region 13 [
    ⟨(some 99), .mov (.t 10), none, []⟩,
    ⟨(some 100), .mov (.t 11), none, []⟩,
    ⟨(some 101), .bin .leq (.t 99) (.t 100), none, [0, 1]⟩,
    ⟨(some 102), .mov (.t 101), none, [0, 1, 2]⟩,
    ⟨(some 103), .mov (.t 0), (some (102, true)), [0, 1, 2, 3]⟩,
    ⟨(some 104), .mov (.t 10), (some (102, true)), [0, 1, 2, 3]⟩,
    ⟨(some 105), .iaddr 1 (.t 103) (.t 104), (some (102, true)), [0, 1, 2, 3, 4, 5]⟩,
    ⟨(some 106), .load 1 false (.t 105), (some (102, true)), [0, 1, 2, 3, 4, 5, 6]⟩,
    ⟨(some 107), .mov (.t 0), (some (102, true)), [0, 1, 2, 3]⟩,
    ⟨(some 108), .mov (.t 1), (some (102, true)), [0, 1, 2, 3]⟩,
    ⟨(some 109), .iaddr 1 (.t 107) (.t 108), (some (102, true)), [0, 1, 2, 3, 8, 9]⟩,
    ⟨(some 110), .load 1 false (.t 109), (some (102, true)), [0, 1, 2, 3, 8, 9, 10]⟩,
    ⟨(some 111), .call (.c (.fn F_cmp_Less_string [])) [(.t 106), (.t 110)], (some (102, true)), [0, 1, 2, 3, 4, 5, 6, 7, 8, 9, 10, 11]⟩,
    ⟨(some 112), .pick (.t 102) (.t 111) (.c (.d (.bool false))), none, [0, 1, 2, 3, 4, 5, 6, 7, 8, 9, 10, 11, 12]⟩] true)
  (.mask ⟨[0, 1, 10, 11, 112], []⟩ (.cond (.t 112)
    (.skip)
    (.mask ⟨[0, 1, 10, 11], []⟩ (.exit 6)))))
  (.mask ⟨[0, 1, 10, 11], []⟩ (.block 7 (.region 14 [
    ⟨(some 113), .mov (.t 10), none, []⟩,
    ⟨(some 114), .bin .add (.t 113) (.c (.d (.int .i64 (1)))), none, []⟩,
    ⟨(some 10), .mov (.t 114), none, []⟩] false)))
def mask_slices_partitionOrdered_string_3 : Mask := ⟨[0, 1, 10, 11], []⟩
def body_slices_partitionOrdered_string_3 : ACode :=
  .seq (.seq (.region 15 [
    ⟨(some 115), .mov (.t 10), none, []⟩,
    ⟨(some 116), .mov (.t 11), none, []⟩,
    ⟨(some 117), .bin .leq (.t 115) (.t 116), none, [0, 1]⟩,
    ⟨(some 118), .mov (.t 117), none, [0, 1, 2]⟩,
    ⟨(some 119), .mov (.t 0), (some (118, true)), [0, 1, 2, 3]⟩,
    ⟨(some 120), .mov (.t 11), (some (118, true)), [0, 1, 2, 3]⟩,
    ⟨(some 121), .iaddr 1 (.t 119) (.t 120), (some (118, true)), [0, 1, 2, 3, 4, 5]⟩,
    ⟨(some 122), .load 1 false (.t 121), (some (118, true)), [0, 1, 2, 3, 4, 5, 6]⟩,
    ⟨(some 123), .mov (.t 0), (some (118, true)), [0, 1, 2, 3]⟩,
    ⟨(some 124), .mov (.t 1), (some (118, true)), [0, 1, 2, 3]⟩,
    ⟨(some 125), .iaddr 1 (.t 123) (.t 124), (some (118, true)), [0, 1, 2, 3, 8, 9]⟩,
    ⟨(some 126), .load 1 false (.t 125), (some (118, true)), [0, 1, 2, 3, 8, 9, 10]⟩,
    ⟨(some 127), .call (.c (.fn F_cmp_Less_string [])) [(.t 122), (.t 126)], (some (118, true)), [0, 1, 2, 3, 4, 5, 6, 7, 8, 9, 10, 11]⟩,
    ⟨(some 128), .un .not (.t 127), (some (118, true)), [0, 1, 2, 3, 4, 5, 6, 7, 8, 9, 10, 11, 12]⟩,
    ⟨(some 129), .pick (.t 118) (.t 128) (.c (.d (.bool false))), none, [0, 1, 2, 3, 4, 5, 6, 7, 8, 9, 10, 11, 12, 13]⟩] true)
  (.mask ⟨[0, 1, 10, 11, 129], []⟩ (.cond (.t 129)
    (.skip)
    (.mask ⟨[0, 1, 10, 11], []⟩ (.exit 8)))))
  (.mask ⟨[0, 1, 10, 11], []⟩ (.block 9 (.region 16 [
    ⟨(some 130), .mov (.t 11), none, []⟩,
    ⟨(some 131), .bin .sub (.t 130) (.c (.d (.int .i64 (1)))), none, []⟩,
    ⟨(some 11), .mov (.t 131), none, []⟩] false)))
def mask_slices_partitionOrdered_string_4 : Mask := ⟨[0, 1, 10, 11], []⟩
def body_slices_partitionOrdered_string_4 : ACode :=
  .block 5 (.seq (.block 6 (.loop mask_slices_partitionOrdered_string_2 body_slices_partitionOrdered_string_2))
  (.mask ⟨[0, 1, 10, 11], []⟩ (.seq (.block 8 (.loop mask_slices_partitionOrdered_string_3 body_slices_partitionOrdered_string_3))
  (.mask ⟨[0, 1, 10, 11], []⟩ (.seq (.seq (.region 17 [
    ⟨(some 132), .mov (.t 10), none, []⟩,
    ⟨(some 133), .mov (.t 11), none, []⟩,
    ⟨(some 134), .bin .gtr (.t 132) (.t 133), none, []⟩] false)
  (.cond (.t 134)
    (.mask ⟨[0, 1, 11], []⟩ (.exit 4))
    (.skip)))
  (.mask ⟨[0, 1, 10, 11], []⟩ (.seq (.region 18 [
    ⟨(some 135), .mov (.t 0), none, []⟩,
    ⟨(some 136), .mov (.t 10), none, []⟩,
    ⟨(some 137), .mov (.t 0), none, []⟩,
    ⟨(some 138), .mov (.t 11), none, []⟩,
    ⟨(some 139), .mov (.t 0), none, []⟩,
    ⟨(some 140), .mov (.t 11), none, []⟩,
    ⟨(some 141), .iaddr 1 (.t 139) (.t 140), none, [4, 5]⟩,
    ⟨(some 142), .load 1 false (.t 141), none, [4, 5, 6]⟩,
    ⟨(some 143), .mov (.t 0), none, []⟩,
    ⟨(some 144), .mov (.t 10), none, []⟩,
    ⟨(some 145), .iaddr 1 (.t 143) (.t 144), none, [8, 9]⟩,
    ⟨(some 146), .load 1 false (.t 145), none, [8, 9, 10]⟩,
    ⟨(some 147), .iaddr 1 (.t 135) (.t 136), none, [0, 1, 4, 5, 6, 7, 8, 9, 10, 11]⟩,
    ⟨none, .store 1 (.t 147) (.t 142), none, [0, 1, 4, 5, 6, 7, 8, 9, 10, 11, 12]⟩,
    ⟨(some 148), .iaddr 1 (.t 137) (.t 138), none, [0, 1, 2, 3, 4, 5, 6, 7, 8, 9, 10, 11, 12, 13]⟩,
    ⟨none, .store 1 (.t 148) (.t 146), none, [0, 1, 2, 3, 4, 5, 6, 7, 8, 9, 10, 11, 12, 13, 14]⟩] true)
  (.seq (.region 19 [
    ⟨(some 149), .mov (.t 10), none, []⟩,
    ⟨(some 150), .bin .add (.t 149) (.c (.d (.int .i64 (1)))), none, []⟩,
    ⟨(some 10), .mov (.t 150), none, []⟩] false)
  (.region 20 [
    ⟨(some 151), .mov (.t 11), none, []⟩,
    ⟨(some 152), .bin .sub (.t 151) (.c (.d (.int .i64 (1)))), none, []⟩,
    ⟨(some 11), .mov (.t 152), none, []⟩] false)))))))))
/-- slices.partitionOrdered[string] -/
def code_slices_partitionOrdered_string : AFunc := ⟨168, [.tmp 8, .tmp 9],
  .seq (.region 0 [
    ⟨(some 8), .mov (.c (.d (.int .i64 (0)))), none, []⟩,
    ⟨(some 9), .mov (.c (.d (.bool false))), none, []⟩] false)
  (.seq (.region 1 [
    ⟨(some 12), .mov (.t 0), none, []⟩,
    ⟨(some 13), .mov (.t 1), none, []⟩,
    ⟨(some 14), .mov (.t 0), none, []⟩,
    ⟨(some 15), .mov (.t 3), none, []⟩,
    ⟨(some 16), .mov (.t 0), none, []⟩,
    ⟨(some 17), .mov (.t 3), none, []⟩,
    ⟨(some 18), .iaddr 1 (.t 16) (.t 17), none, [4, 5]⟩,
    ⟨(some 19), .load 1 false (.t 18), none, [4, 5, 6]⟩,
    ⟨(some 20), .mov (.t 0), none, []⟩,
    ⟨(some 21), .mov (.t 1), none, []⟩,
    ⟨(some 22), .iaddr 1 (.t 20) (.t 21), none, [8, 9]⟩,
    ⟨(some 23), .load 1 false (.t 22), none, [8, 9, 10]⟩,
    ⟨(some 24), .iaddr 1 (.t 12) (.t 13), none, [0, 1, 4, 5, 6, 7, 8, 9, 10, 11]⟩,
    ⟨none, .store 1 (.t 24) (.t 19), none, [0, 1, 4, 5, 6, 7, 8, 9, 10, 11, 12]⟩,
    ⟨(some 25), .iaddr 1 (.t 14) (.t 15), none, [0, 1, 2, 3, 4, 5, 6, 7, 8, 9, 10, 11, 12, 13]⟩,
    ⟨none, .store 1 (.t 25) (.t 23), none, [0, 1, 2, 3, 4, 5, 6, 7, 8, 9, 10, 11, 12, 13, 14]⟩] true)
  (.seq (.region 2 [
    ⟨(some 26), .mov (.t 1), none, []⟩,
    ⟨(some 27), .bin .add (.t 26) (.c (.d (.int .i64 (1)))), none, []⟩,
    ⟨(some 28), .mov (.t 2), none, []⟩,
    ⟨(some 29), .bin .sub (.t 28) (.c (.d (.int .i64 (1)))), none, []⟩,
    ⟨(some 10), .mov (.t 27), none, []⟩,
    ⟨(some 11), .mov (.t 29), none, []⟩] false)
  (.seq (.block 0 (.loop mask_slices_partitionOrdered_string_0 body_slices_partitionOrdered_string_0))
  (.mask ⟨[0, 1, 10, 11], []⟩ (.seq (.block 2 (.loop mask_slices_partitionOrdered_string_1 body_slices_partitionOrdered_string_1))
  (.mask ⟨[0, 1, 10, 11], []⟩ (.seq (.seq (.region 7 [
    ⟨(some 63), .mov (.t 10), none, []⟩,
    ⟨(some 64), .mov (.t 11), none, []⟩,
    ⟨(some 65), .bin .gtr (.t 63) (.t 64), none, []⟩] false)
  (.cond (.t 65)
    (.seq (.region 8 [
      ⟨(some 66), .mov (.t 0), none, []⟩,
      ⟨(some 67), .mov (.t 11), none, []⟩,
      ⟨(some 68), .mov (.t 0), none, []⟩,
      ⟨(some 69), .mov (.t 1), none, []⟩,
      ⟨(some 70), .mov (.t 0), none, []⟩,
      ⟨(some 71), .mov (.t 1), none, []⟩,
      ⟨(some 72), .iaddr 1 (.t 70) (.t 71), none, [4, 5]⟩,
      ⟨(some 73), .load 1 false (.t 72), none, [4, 5, 6]⟩,
      ⟨(some 74), .mov (.t 0), none, []⟩,
      ⟨(some 75), .mov (.t 11), none, []⟩,
      ⟨(some 76), .iaddr 1 (.t 74) (.t 75), none, [8, 9]⟩,
      ⟨(some 77), .load 1 false (.t 76), none, [8, 9, 10]⟩,
      ⟨(some 78), .iaddr 1 (.t 66) (.t 67), none, [0, 1, 4, 5, 6, 7, 8, 9, 10, 11]⟩,
      ⟨none, .store 1 (.t 78) (.t 73), none, [0, 1, 4, 5, 6, 7, 8, 9, 10, 11, 12]⟩,
      ⟨(some 79), .iaddr 1 (.t 68) (.t 69), none, [0, 1, 2, 3, 4, 5, 6, 7, 8, 9, 10, 11, 12, 13]⟩,
      ⟨none, .store 1 (.t 79) (.t 77), none, [0, 1, 2, 3, 4, 5, 6, 7, 8, 9, 10, 11, 12, 13, 14]⟩] true)
    (.seq (.region 9 [
      ⟨(some 80), .mov (.t 11), none, []⟩,
      ⟨(some 8), .mov (.t 80), none, []⟩,
      ⟨(some 9), .mov (.c (.d (.bool true))), none, []⟩] false)
    (.mask ⟨[8, 9], []⟩ (.ret))))
    (.skip)))
  (.mask ⟨[0, 1, 10, 11], []⟩ (.seq (.region 10 [
    ⟨(some 81), .mov (.t 0), none, []⟩,
    ⟨(some 82), .mov (.t 10), none, []⟩,
    ⟨(some 83), .mov (.t 0), none, []⟩,
    ⟨(some 84), .mov (.t 11), none, []⟩,
    ⟨(some 85), .mov (.t 0), none, []⟩,
    ⟨(some 86), .mov (.t 11), none, []⟩,
    ⟨(some 87), .iaddr 1 (.t 85) (.t 86), none, [4, 5]⟩,
    ⟨(some 88), .load 1 false (.t 87), none, [4, 5, 6]⟩,
    ⟨(some 89), .mov (.t 0), none, []⟩,
    ⟨(some 90), .mov (.t 10), none, []⟩,
    ⟨(some 91), .iaddr 1 (.t 89) (.t 90), none, [8, 9]⟩,
    ⟨(some 92), .load 1 false (.t 91), none, [8, 9, 10]⟩,
    ⟨(some 93), .iaddr 1 (.t 81) (.t 82), none, [0, 1, 4, 5, 6, 7, 8, 9, 10, 11]⟩,
    ⟨none, .store 1 (.t 93) (.t 88), none, [0, 1, 4, 5, 6, 7, 8, 9, 10, 11, 12]⟩,
    ⟨(some 94), .iaddr 1 (.t 83) (.t 84), none, [0, 1, 2, 3, 4, 5, 6, 7, 8, 9, 10, 11, 12, 13]⟩,
    ⟨none, .store 1 (.t 94) (.t 92), none, [0, 1, 2, 3, 4, 5, 6, 7, 8, 9, 10, 11, 12, 13, 14]⟩] true)
  (.seq (.region 11 [
    ⟨(some 95), .mov (.t 10), none, []⟩,
    ⟨(some 96), .bin .add (.t 95) (.c (.d (.int .i64 (1)))), none, []⟩,
    ⟨(some 10), .mov (.t 96), none, []⟩] false)
  (.seq (.region 12 [
    ⟨(some 97), .mov (.t 11), none, []⟩,
    ⟨(some 98), .bin .sub (.t 97) (.c (.d (.int .i64 (1)))), none, []⟩,
    ⟨(some 11), .mov (.t 98), none, []⟩] false)
  (.seq (.block 4 (.loop mask_slices_partitionOrdered_string_4 body_slices_partitionOrdered_string_4))
  (.mask ⟨[0, 1, 11], []⟩ (.seq (.region 21 [
    ⟨(some 153), .mov (.t 0), none, []⟩,
    ⟨(some 154), .mov (.t 11), none, []⟩,
    ⟨(some 155), .mov (.t 0), none, []⟩,
    ⟨(some 156), .mov (.t 1), none, []⟩,
    ⟨(some 157), .mov (.t 0), none, []⟩,
    ⟨(some 158), .mov (.t 1), none, []⟩,
    ⟨(some 159), .iaddr 1 (.t 157) (.t 158), none, [4, 5]⟩,
    ⟨(some 160), .load 1 false (.t 159), none, [4, 5, 6]⟩,
    ⟨(some 161), .mov (.t 0), none, []⟩,
    ⟨(some 162), .mov (.t 11), none, []⟩,
    ⟨(some 163), .iaddr 1 (.t 161) (.t 162), none, [8, 9]⟩,
    ⟨(some 164), .load 1 false (.t 163), none, [8, 9, 10]⟩,
    ⟨(some 165), .iaddr 1 (.t 153) (.t 154), none, [0, 1, 4, 5, 6, 7, 8, 9, 10, 11]⟩,
    ⟨none, .store 1 (.t 165) (.t 160), none, [0, 1, 4, 5, 6, 7, 8, 9, 10, 11, 12]⟩,
    ⟨(some 166), .iaddr 1 (.t 155) (.t 156), none, [0, 1, 2, 3, 4, 5, 6, 7, 8, 9, 10, 11, 12, 13]⟩,
    ⟨none, .store 1 (.t 166) (.t 164), none, [0, 1, 2, 3, 4, 5, 6, 7, 8, 9, 10, 11, 12, 13, 14]⟩] true)
  (.seq (.region 22 [
    ⟨(some 167), .mov (.t 11), none, []⟩,
    ⟨(some 8), .mov (.t 167), none, []⟩,
    ⟨(some 9), .mov (.c (.d (.bool false))), none, []⟩] false)
  (.mask ⟨[8, 9], []⟩ (.ret)))))))))))))))))⟩
def mask_ref02_bad_0 : Mask := ⟨[0, 3], []⟩
def body_ref02_bad_0 : ACode :=
  .seq (.seq (.region 2 [
    ⟨(some 5), .mov (.t 3), none, []⟩,
    ⟨(some 6), .mov (.t 0), none, []⟩,
    ⟨(some 7), .len .sl (.t 6), none, []⟩,
    ⟨(some 8), .bin .lss (.t 5) (.t 7), none, []⟩] false)
  (.cond (.t 8)
    (.skip)
    (.mask ⟨[0], []⟩ (.exit 0))))
  (.mask ⟨[0, 3], []⟩ (.seq (.block 1 (.seq (.region 4 [
    ⟨(some 11), .mov (.t 0), none, []⟩,
    ⟨(some 12), .mov (.t 3), none, []⟩,
    ⟨(some 13), .iaddr 1 (.t 11) (.t 12), none, []⟩,
    ⟨(some 14), .load 1 false (.t 13), none, []⟩,
    ⟨(some 15), .len .str (.t 14), none, []⟩,
    ⟨(some 16), .bin .gtr (.t 15) (.c (.d (.int .i64 (32)))), none, []⟩] false)
  (.cond (.t 16)
    (.seq (.region 5 [
      ⟨(some 2), .mov (.c (.d (.int .i64 (1)))), none, []⟩] false)
    (.mask ⟨[2], []⟩ (.ret)))
    (.skip))))
  (.mask ⟨[0, 3], []⟩ (.region 3 [
    ⟨(some 9), .mov (.t 3), none, []⟩,
    ⟨(some 10), .bin .add (.t 9) (.c (.d (.int .i64 (1)))), none, []⟩,
    ⟨(some 3), .mov (.t 10), none, []⟩] false))))
def mask_ref02_bad_1 : Mask := ⟨[0, 4], []⟩
def body_ref02_bad_1 : ACode :=
  .seq (.seq (.region 7 [
    ⟨(some 17), .mov (.t 4), none, []⟩,
    ⟨(some 18), .bin .add (.t 17) (.c (.d (.int .i64 (1)))), none, []⟩,
    ⟨(some 19), .mov (.t 0), none, []⟩,
    ⟨(some 20), .len .sl (.t 19), none, []⟩,
    ⟨(some 21), .bin .lss (.t 18) (.t 20), none, []⟩] false)
  (.cond (.t 21)
    (.skip)
    (.mask ⟨[], []⟩ (.exit 2))))
  (.mask ⟨[0, 4], []⟩ (.seq (.block 3 (.seq (.region 9 [
    ⟨(some 24), .mov (.t 0), none, []⟩,
    ⟨(some 25), .mov (.t 4), none, []⟩,
    ⟨(some 26), .iaddr 1 (.t 24) (.t 25), none, [0, 1]⟩,
    ⟨(some 27), .load 1 false (.t 26), none, [0, 1, 2]⟩,
    ⟨(some 28), .mov (.t 0), none, []⟩,
    ⟨(some 29), .mov (.t 4), none, []⟩,
    ⟨(some 30), .bin .add (.t 29) (.c (.d (.int .i64 (1)))), none, [5]⟩,
    ⟨(some 31), .iaddr 1 (.t 28) (.t 30), none, [4, 5, 6]⟩,
    ⟨(some 32), .load 1 false (.t 31), none, [4, 5, 6, 7]⟩,
    ⟨(some 33), .bin .geq (.t 27) (.t 32), none, [0, 1, 2, 3, 4, 5, 6, 7, 8]⟩] true)
  (.cond (.t 33)
    (.seq (.region 10 [
      ⟨(some 2), .mov (.c (.d (.int .i64 (2)))), none, []⟩] false)
    (.mask ⟨[2], []⟩ (.ret)))
    (.skip))))
  (.mask ⟨[0, 4], []⟩ (.region 8 [
    ⟨(some 22), .mov (.t 4), none, []⟩,
    ⟨(some 23), .bin .add (.t 22) (.c (.d (.int .i64 (1)))), none, []⟩,
    ⟨(some 4), .mov (.t 23), none, []⟩] false))))
/-- beadle/beadleref02.bad -/
def code_ref02_bad : AFunc := ⟨34, [.tmp 2],
  .seq (.region 0 [
    ⟨(some 2), .mov (.c (.d (.int .i64 (0)))), none, []⟩] false)
  (.seq (.seq (.region 1 [
    ⟨(some 3), .mov (.c (.d (.int .i64 (0)))), none, []⟩] false)
  (.block 0 (.loop mask_ref02_bad_0 body_ref02_bad_0)))
  (.mask ⟨[0], []⟩ (.seq (.seq (.region 6 [
    ⟨(some 4), .mov (.c (.d (.int .i64 (0)))), none, []⟩] false)
  (.block 2 (.loop mask_ref02_bad_1 body_ref02_bad_1)))
  (.mask ⟨[], []⟩ (.seq (.region 11 [
    ⟨(some 2), .mov (.c (.d (.int .i64 (0)))), none, []⟩] false)
  (.mask ⟨[2], []⟩ (.ret)))))))⟩
def mask_slices_siftDownOrdered_string_0 : Mask := ⟨[0, 2, 3, 8], []⟩
def body_slices_siftDownOrdered_string_0 : ACode :=
  .block 1 (.seq (.region 1 [
    ⟨(some 11), .mov (.t 8), none, []⟩,
    ⟨(some 12), .bin .mul (.c (.d (.int .i64 (2)))) (.t 11), none, []⟩,
    ⟨(some 13), .bin .add (.t 12) (.c (.d (.int .i64 (1)))), none, []⟩,
    ⟨(some 9), .mov (.t 13), none, []⟩] false)
  (.seq (.seq (.region 2 [
    ⟨(some 14), .mov (.t 9), none, []⟩,
    ⟨(some 15), .mov (.t 2), none, []⟩,
    ⟨(some 16), .bin .geq (.t 14) (.t 15), none, []⟩] false)
  (.cond (.t 16)
    (.mask ⟨[], []⟩ (.exit 0))
    (.skip)))
  (.mask ⟨[0, 2, 3, 8, 9], []⟩ (.seq (.seq (.region 3 [
    ⟨(some 17), .mov (.t 9), none, []⟩,
    ⟨(some 18), .bin .add (.t 17) (.c (.d (.int .i64 (1)))), none, [0]⟩,
    ⟨(some 19), .mov (.t 2), none, []⟩,
    ⟨(some 20), .bin .lss (.t 18) (.t 19), none, [0, 1, 2]⟩,
    ⟨(some 21), .mov (.t 20), none, [0, 1, 2, 3]⟩,
    ⟨(some 22), .mov (.t 0), (some (21, true)), [0, 1, 2, 3, 4]⟩,
    ⟨(some 23), .mov (.t 3), (some (21, true)), [0, 1, 2, 3, 4]⟩,
    ⟨(some 24), .mov (.t 9), (some (21, true)), [0, 1, 2, 3, 4]⟩,
    ⟨(some 25), .bin .add (.t 23) (.t 24), (some (21, true)), [0, 1, 2, 3, 4, 6, 7]⟩,
    ⟨(some 26), .iaddr 1 (.t 22) (.t 25), (some (21, true)), [0, 1, 2, 3, 4, 5, 6, 7, 8]⟩,
    ⟨(some 27), .load 1 false (.t 26), (some (21, true)), [0, 1, 2, 3, 4, 5, 6, 7, 8, 9]⟩,
    ⟨(some 28), .mov (.t 0), (some (21, true)), [0, 1, 2, 3, 4]⟩,
    ⟨(some 29), .mov (.t 3), (some (21, true)), [0, 1, 2, 3, 4]⟩,
    ⟨(some 30), .mov (.t 9), (some (21, true)), [0, 1, 2, 3, 4]⟩,
    ⟨(some 31), .bin .add (.t 29) (.t 30), (some (21, true)), [0, 1, 2, 3, 4, 12, 13]⟩,
    ⟨(some 32), .bin .add (.t 31) (.c (.d (.int .i64 (1)))), (some (21, true)), [0, 1, 2, 3, 4, 12, 13, 14]⟩,
    ⟨(some 33), .iaddr 1 (.t 28) (.t 32), (some (21, true)), [0, 1, 2, 3, 4, 11, 12, 13, 14, 15]⟩,
    ⟨(some 34), .load 1 false (.t 33), (some (21, true)), [0, 1, 2, 3, 4, 11, 12, 13, 14, 15, 16]⟩,
    ⟨(some 35), .call (.c (.fn F_cmp_Less_string [])) [(.t 27), (.t 34)], (some (21, true)), [0, 1, 2, 3, 4, 5, 6, 7, 8, 9, 10, 11, 12, 13, 14, 15, 16, 17]⟩,
    ⟨(some 36), .pick (.t 21) (.t 35) (.c (.d (.bool false))), none, [0, 1, 2, 3, 4, 5, 6, 7, 8, 9, 10, 11, 12, 13, 14, 15, 16, 17, 18]⟩] true)
  (.mask ⟨[0, 2, 3, 8, 9, 36], []⟩ (.cond (.t 36)
    (.region 4 [
      ⟨(some 37), .mov (.t 9), none, []⟩,
      ⟨(some 38), .bin .add (.t 37) (.c (.d (.int .i64 (1)))), none, []⟩,
      ⟨(some 9), .mov (.t 38), none, []⟩] false)
    (.skip))))
  (.mask ⟨[0, 2, 3, 8, 9], []⟩ (.seq (.seq (.region 5 [
    ⟨(some 39), .mov (.t 0), none, []⟩,
    ⟨(some 40), .mov (.t 3), none, []⟩,
    ⟨(some 41), .mov (.t 8), none, []⟩,
    ⟨(some 42), .bin .add (.t 40) (.t 41), none, [1, 2]⟩,
    ⟨(some 43), .iaddr 1 (.t 39) (.t 42), none, [0, 1, 2, 3]⟩,
    ⟨(some 44), .load 1 false (.t 43), none, [0, 1, 2, 3, 4]⟩,
    ⟨(some 45), .mov (.t 0), none, []⟩,
    ⟨(some 46), .mov (.t 3), none, []⟩,
    ⟨(some 47), .mov (.t 9), none, []⟩,
    ⟨(some 48), .bin .add (.t 46) (.t 47), none, [7, 8]⟩,
    ⟨(some 49), .iaddr 1 (.t 45) (.t 48), none, [6, 7, 8, 9]⟩,
    ⟨(some 50), .load 1 false (.t 49), none, [6, 7, 8, 9, 10]⟩,
    ⟨(some 51), .call (.c (.fn F_cmp_Less_string [])) [(.t 44), (.t 50)], none, [0, 1, 2, 3, 4, 5, 6, 7, 8, 9, 10, 11]⟩,
    ⟨(some 52), .un .not (.t 51), none, [0, 1, 2, 3, 4, 5, 6, 7, 8, 9, 10, 11, 12]⟩] true)
  (.cond (.t 52)
    (.mask ⟨[], []⟩ (.ret))
    (.skip)))
  (.mask ⟨[0, 2, 3, 8, 9], []⟩ (.seq (.region 6 [
    ⟨(some 53), .mov (.t 0), none, []⟩,
    ⟨(some 54), .mov (.t 3), none, []⟩,
    ⟨(some 55), .mov (.t 8), none, []⟩,
    ⟨(some 56), .bin .add (.t 54) (.t 55), none, [1, 2]⟩,
    ⟨(some 57), .mov (.t 0), none, []⟩,
    ⟨(some 58), .mov (.t 3), none, []⟩,
    ⟨(some 59), .mov (.t 9), none, []⟩,
    ⟨(some 60), .bin .add (.t 58) (.t 59), none, [5, 6]⟩,
    ⟨(some 61), .mov (.t 0), none, []⟩,
    ⟨(some 62), .mov (.t 3), none, []⟩,
    ⟨(some 63), .mov (.t 9), none, []⟩,
    ⟨(some 64), .bin .add (.t 62) (.t 63), none, [9, 10]⟩,
    ⟨(some 65), .iaddr 1 (.t 61) (.t 64), none, [8, 9, 10, 11]⟩,
    ⟨(some 66), .load 1 false (.t 65), none, [8, 9, 10, 11, 12]⟩,
    ⟨(some 67), .mov (.t 0), none, []⟩,
    ⟨(some 68), .mov (.t 3), none, []⟩,
    ⟨(some 69), .mov (.t 8), none, []⟩,
    ⟨(some 70), .bin .add (.t 68) (.t 69), none, [15, 16]⟩,
    ⟨(some 71), .iaddr 1 (.t 67) (.t 70), none, [14, 15, 16, 17]⟩,
    ⟨(some 72), .load 1 false (.t 71), none, [14, 15, 16, 17, 18]⟩,
    ⟨(some 73), .iaddr 1 (.t 53) (.t 56), none, [0, 1, 2, 3, 8, 9, 10, 11, 12, 13, 14, 15, 16, 17, 18, 19]⟩,
    ⟨none, .store 1 (.t 73) (.t 66), none, [0, 1, 2, 3, 8, 9, 10, 11, 12, 13, 14, 15, 16, 17, 18, 19, 20]⟩,
    ⟨(some 74), .iaddr 1 (.t 57) (.t 60), none, [0, 1, 2, 3, 4, 5, 6, 7, 8, 9, 10, 11, 12, 13, 14, 15, 16, 17, 18, 19, 20, 21]⟩,
    ⟨none, .store 1 (.t 74) (.t 72), none, [0, 1, 2, 3, 4, 5, 6, 7, 8, 9, 10, 11, 12, 13, 14, 15, 16, 17, 18, 19, 20, 21, 22]⟩] true)
  (.region 7 [
    ⟨(some 75), .mov (.t 9), none, []⟩,
    ⟨(some 8), .mov (.t 75), none, []⟩] false)))))))))
/-- slices.siftDownOrdered[string] -/
def code_slices_siftDownOrdered_string : AFunc := ⟨76, [],
  .seq (.region 0 [
    ⟨(some 10), .mov (.t 1), none, []⟩,
    ⟨(some 8), .mov (.t 10), none, []⟩] false)
  (.block 0 (.loop mask_slices_siftDownOrdered_string_0 body_slices_siftDownOrdered_string_0))⟩
/-- slices.nextPowerOfTwo -/
def code_slices_nextPowerOfTwo : AFunc := ⟨7, [.tmp 2],
  .seq (.region 0 [
    ⟨(some 2), .mov (.c (.d (.int .u64 (0)))), none, []⟩] false)
  (.seq (.region 1 [
    ⟨(some 3), .mov (.t 0), none, []⟩,
    ⟨(some 4), .toInt .u64 (.t 3), none, []⟩,
    ⟨(some 5), .call (.c (.fn F_math_bits_Len [])) [(.t 4)], none, []⟩,
    ⟨(some 6), .bin .shl (.c (.d (.int .u64 (1)))) (.t 5), none, []⟩,
    ⟨(some 2), .mov (.t 6), none, []⟩] false)
  (.mask ⟨[2], []⟩ (.ret)))⟩
/-- (*slices.xorshift).Next -/
def code_slices_xorshift_Next : AFunc := ⟨33, [.tmp 2],
  .seq (.region 0 [
    ⟨(some 2), .mov (.c (.d (.int .u64 (0)))), none, []⟩] false)
  (.seq (.region 1 [
    ⟨(some 3), .mov (.t 0), none, []⟩,
    ⟨(some 4), .nilchk (.t 3), none, [0]⟩,
    ⟨(some 5), .load 1 false (.t 4), none, [0, 1]⟩,
    ⟨(some 6), .mov (.t 0), none, []⟩,
    ⟨(some 7), .nilchk (.t 6), none, [3]⟩,
    ⟨(some 8), .load 1 false (.t 7), none, [3, 4]⟩,
    ⟨(some 9), .bin .shl (.t 8) (.c (.d (.int .u64 (13)))), none, [3, 4, 5]⟩,
    ⟨(some 10), .bin .xor (.t 5) (.t 9), none, [0, 1, 2, 3, 4, 5, 6]⟩,
    ⟨(some 11), .nilchk (.t 3), none, [0, 1, 2, 3, 4, 5, 6, 7]⟩,
    ⟨none, .store 1 (.t 11) (.t 10), none, [0, 1, 2, 3, 4, 5, 6, 7, 8]⟩] true)
  (.seq (.region 2 [
    ⟨(some 12), .mov (.t 0), none, []⟩,
    ⟨(some 13), .nilchk (.t 12), none, [0]⟩,
    ⟨(some 14), .load 1 false (.t 13), none, [0, 1]⟩,
    ⟨(some 15), .mov (.t 0), none, []⟩,
    ⟨(some 16), .nilchk (.t 15), none, [3]⟩,
    ⟨(some 17), .load 1 false (.t 16), none, [3, 4]⟩,
    ⟨(some 18), .bin .shr (.t 17) (.c (.d (.int .u64 (7)))), none, [3, 4, 5]⟩,
    ⟨(some 19), .bin .xor (.t 14) (.t 18), none, [0, 1, 2, 3, 4, 5, 6]⟩,
    ⟨(some 20), .nilchk (.t 12), none, [0, 1, 2, 3, 4, 5, 6, 7]⟩,
    ⟨none, .store 1 (.t 20) (.t 19), none, [0, 1, 2, 3, 4, 5, 6, 7, 8]⟩] true)
  (.seq (.region 3 [
    ⟨(some 21), .mov (.t 0), none, []⟩,
    ⟨(some 22), .nilchk (.t 21), none, [0]⟩,
    ⟨(some 23), .load 1 false (.t 22), none, [0, 1]⟩,
    ⟨(some 24), .mov (.t 0), none, []⟩,
    ⟨(some 25), .nilchk (.t 24), none, [3]⟩,
    ⟨(some 26), .load 1 false (.t 25), none, [3, 4]⟩,
    ⟨(some 27), .bin .shl (.t 26) (.c (.d (.int .u64 (17)))), none, [3, 4, 5]⟩,
    ⟨(some 28), .bin .xor (.t 23) (.t 27), none, [0, 1, 2, 3, 4, 5, 6]⟩,
    ⟨(some 29), .nilchk (.t 21), none, [0, 1, 2, 3, 4, 5, 6, 7]⟩,
    ⟨none, .store 1 (.t 29) (.t 28), none, [0, 1, 2, 3, 4, 5, 6, 7, 8]⟩] true)
  (.seq (.region 4 [
    ⟨(some 30), .mov (.t 0), none, []⟩,
    ⟨(some 31), .nilchk (.t 30), none, []⟩,
    ⟨(some 32), .load 1 false (.t 31), none, []⟩,
    ⟨(some 2), .mov (.t 32), none, []⟩] false)
  (.mask ⟨[2], []⟩ (.ret))))))⟩
/-- slices.medianAdjacentOrdered[string] -/
def code_slices_medianAdjacentOrdered_string : AFunc := ⟨15, [.tmp 6],
  .seq (.region 0 [
    ⟨(some 6), .mov (.c (.d (.int .i64 (0)))), none, []⟩] false)
  (.seq (.region 1 [
    ⟨(some 7), .mov (.t 0), none, []⟩,
    ⟨(some 8), .mov (.t 1), none, []⟩,
    ⟨(some 9), .bin .sub (.t 8) (.c (.d (.int .i64 (1)))), none, []⟩,
    ⟨(some 10), .mov (.t 1), none, []⟩,
    ⟨(some 11), .mov (.t 1), none, []⟩,
    ⟨(some 12), .bin .add (.t 11) (.c (.d (.int .i64 (1)))), none, []⟩,
    ⟨(some 13), .mov (.t 2), none, []⟩,
    ⟨(some 14), .call (.c (.fn F_slices_medianOrdered_string [])) [(.t 7), (.t 9), (.t 10), (.t 12), (.t 13)], none, []⟩,
    ⟨(some 6), .mov (.t 14), none, []⟩] false)
  (.mask ⟨[6], []⟩ (.ret)))⟩
/-- slices.medianOrdered[string] -/
def code_slices_medianOrdered_string : AFunc := ⟨36, [.tmp 10],
  .seq (.region 0 [
    ⟨(some 10), .mov (.c (.d (.int .i64 (0)))), none, []⟩] false)
  (.seq (.region 1 [
    ⟨(some 12), .mov (.t 0), none, []⟩,
    ⟨(some 13), .mov (.t 1), none, []⟩,
    ⟨(some 14), .mov (.t 2), none, []⟩,
    ⟨(some 15), .mov (.t 4), none, []⟩,
    ⟨(some 16), .call (.c (.fn F_slices_order2Ordered_string [])) [(.t 12), (.t 13), (.t 14), (.t 15)], none, []⟩,
    ⟨(some 11), .mov (.t 16), none, []⟩,
    ⟨(some 17), .extract (.t 11) 0, none, []⟩,
    ⟨(some 18), .extract (.t 11) 1, none, []⟩,
    ⟨(some 1), .mov (.t 17), none, []⟩,
    ⟨(some 2), .mov (.t 18), none, []⟩] false)
  (.seq (.region 2 [
    ⟨(some 20), .mov (.t 0), none, []⟩,
    ⟨(some 21), .mov (.t 2), none, []⟩,
    ⟨(some 22), .mov (.t 3), none, []⟩,
    ⟨(some 23), .mov (.t 4), none, []⟩,
    ⟨(some 24), .call (.c (.fn F_slices_order2Ordered_string [])) [(.t 20), (.t 21), (.t 22), (.t 23)], none, []⟩,
    ⟨(some 19), .mov (.t 24), none, []⟩,
    ⟨(some 25), .extract (.t 19) 0, none, []⟩,
    ⟨(some 26), .extract (.t 19) 1, none, []⟩,
    ⟨(some 2), .mov (.t 25), none, []⟩,
    ⟨(some 3), .mov (.t 26), none, []⟩] false)
  (.seq (.region 3 [
    ⟨(some 28), .mov (.t 0), none, []⟩,
    ⟨(some 29), .mov (.t 1), none, []⟩,
    ⟨(some 30), .mov (.t 2), none, []⟩,
    ⟨(some 31), .mov (.t 4), none, []⟩,
    ⟨(some 32), .call (.c (.fn F_slices_order2Ordered_string [])) [(.t 28), (.t 29), (.t 30), (.t 31)], none, []⟩,
    ⟨(some 27), .mov (.t 32), none, []⟩,
    ⟨(some 33), .extract (.t 27) 0, none, []⟩,
    ⟨(some 34), .extract (.t 27) 1, none, []⟩,
    ⟨(some 1), .mov (.t 33), none, []⟩,
    ⟨(some 2), .mov (.t 34), none, []⟩] false)
  (.seq (.region 4 [
    ⟨(some 35), .mov (.t 2), none, []⟩,
    ⟨(some 10), .mov (.t 35), none, []⟩] false)
  (.mask ⟨[10], []⟩ (.ret))))))⟩
/-- cmp.isNaN[string] -/
def code_cmp_isNaN_string : AFunc := ⟨6, [.tmp 2],
  .seq (.region 0 [
    ⟨(some 2), .mov (.c (.d (.bool false))), none, []⟩] false)
  (.seq (.region 1 [
    ⟨(some 3), .mov (.t 0), none, []⟩,
    ⟨(some 4), .mov (.t 0), none, []⟩,
    ⟨(some 5), .bin .neq (.t 3) (.t 4), none, []⟩,
    ⟨(some 2), .mov (.t 5), none, []⟩] false)
  (.mask ⟨[2], []⟩ (.ret)))⟩
/-- slices.order2Ordered[string] -/
def code_slices_order2Ordered_string : AFunc := ⟨28, [.tmp 8, .tmp 9],
  .seq (.region 0 [
    ⟨(some 8), .mov (.c (.d (.int .i64 (0)))), none, []⟩,
    ⟨(some 9), .mov (.c (.d (.int .i64 (0)))), none, []⟩] false)
  (.seq (.seq (.region 1 [
    ⟨(some 10), .mov (.t 0), none, []⟩,
    ⟨(some 11), .mov (.t 2), none, []⟩,
    ⟨(some 12), .iaddr 1 (.t 10) (.t 11), none, [0, 1]⟩,
    ⟨(some 13), .load 1 false (.t 12), none, [0, 1, 2]⟩,
    ⟨(some 14), .mov (.t 0), none, []⟩,
    ⟨(some 15), .mov (.t 1), none, []⟩,
    ⟨(some 16), .iaddr 1 (.t 14) (.t 15), none, [4, 5]⟩,
    ⟨(some 17), .load 1 false (.t 16), none, [4, 5, 6]⟩,
    ⟨(some 18), .call (.c (.fn F_cmp_Less_string [])) [(.t 13), (.t 17)], none, [0, 1, 2, 3, 4, 5, 6, 7]⟩] true)
  (.cond (.t 18)
    (.seq (.region 2 [
      ⟨(some 19), .mov (.t 3), none, []⟩,
      ⟨(some 20), .nilchk (.t 19), none, []⟩,
      ⟨(some 21), .load 1 false (.t 20), none, []⟩,
      ⟨(some 22), .bin .add (.t 21) (.c (.d (.int .i64 (1)))), none, []⟩,
      ⟨(some 23), .nilchk (.t 19), none, []⟩,
      ⟨none, .store 1 (.t 23) (.t 22), none, []⟩] false)
    (.seq (.region 3 [
      ⟨(some 24), .mov (.t 2), none, []⟩,
      ⟨(some 25), .mov (.t 1), none, []⟩,
      ⟨(some 8), .mov (.t 24), none, []⟩,
      ⟨(some 9), .mov (.t 25), none, []⟩] false)
    (.mask ⟨[8, 9], []⟩ (.ret))))
    (.skip)))
  (.mask ⟨[1, 2], []⟩ (.seq (.region 4 [
    ⟨(some 26), .mov (.t 1), none, []⟩,
    ⟨(some 27), .mov (.t 2), none, []⟩,
    ⟨(some 8), .mov (.t 26), none, []⟩,
    ⟨(some 9), .mov (.t 27), none, []⟩] false)
  (.mask ⟨[8, 9], []⟩ (.ret)))))⟩
def codeL : List (Nat × AFunc) := [(F_law05_StoreKeeps, code_law05_StoreKeeps),
  (F_law05_StoreRuns, code_law05_StoreRuns),
  (F_law05_StoreClones, code_law05_StoreClones),
  (F_law05_StoreNobody, code_law05_StoreNobody),
  (F_law05_alive, code_law05_alive),
  (F_plain_Rising, code_plain_Rising),
  (F_store_New, code_store_New),
  (F_store_Store_Set, code_store_Store_Set),
  (F_law05_long, code_law05_long),
  (F_store_Store_Get, code_store_Store_Get),
  (F_plain_Texts, code_plain_Texts),
  (F_law05_few, code_law05_few),
  (F_law05_run, code_law05_run),
  (F_store_Store_Clone, code_store_Store_Clone),
  (F_plain_Value, code_plain_Value),
  (F_store_Store_Count, code_store_Store_Count),
  (F_store_Store_Kind, code_store_Store_Kind),
  (F_plain_In, code_plain_In),
  (F_store_Store_is, code_store_Store_is),
  (F_value_Check, code_value_Check),
  (F_store_own, code_store_own),
  (F_value_Zero, code_value_Zero),
  (F_law05_step, code_law05_step),
  (F_maps_Clone_map_string_int_string_int, code_maps_Clone_map_string_int_string_int),
  (F_maps_Clone_map_store_key_api_Value_store_key_api_Value, code_maps_Clone_map_store_key_api_Value_store_key_api_Value),
  (F_slices_Sort_string_string, code_slices_Sort_string_string),
  (F_value_long, code_value_long),
  (F_slices_ContainsFunc_string_string, code_slices_ContainsFunc_string_string),
  (F_value_odd, code_value_odd),
  (F_slices_Clone_string_string, code_slices_Clone_string_string),
  (F_ref05_Set, code_ref05_Set),
  (F_ref05_Get, code_ref05_Get),
  (F_ref05_Kind, code_ref05_Kind),
  (F_law05_names, code_law05_names),
  (F_math_bits_Len, code_math_bits_Len),
  (F_slices_pdqsortOrdered_string, code_slices_pdqsortOrdered_string),
  (F_slices_IndexFunc_string_string, code_slices_IndexFunc_string_string),
  (F_value_rises, code_value_rises),
  (F_ref02_Check, code_ref02_Check),
  (F_math_bits_Len32, code_math_bits_Len32),
  (F_math_bits_Len64, code_math_bits_Len64),
  (F_slices_insertionSortOrdered_string, code_slices_insertionSortOrdered_string),
  (F_slices_heapSortOrdered_string, code_slices_heapSortOrdered_string),
  (F_slices_breakPatternsOrdered_string, code_slices_breakPatternsOrdered_string),
  (F_slices_choosePivotOrdered_string, code_slices_choosePivotOrdered_string),
  (F_slices_reverseRangeOrdered_string, code_slices_reverseRangeOrdered_string),
  (F_slices_partialInsertionSortOrdered_string, code_slices_partialInsertionSortOrdered_string),
  (F_cmp_Less_string, code_cmp_Less_string),
  (F_slices_partitionEqualOrdered_string, code_slices_partitionEqualOrdered_string),
  (F_slices_partitionOrdered_string, code_slices_partitionOrdered_string),
  (F_ref02_bad, code_ref02_bad),
  (F_slices_siftDownOrdered_string, code_slices_siftDownOrdered_string),
  (F_slices_nextPowerOfTwo, code_slices_nextPowerOfTwo),
  (F_slices_xorshift_Next, code_slices_xorshift_Next),
  (F_slices_medianAdjacentOrdered_string, code_slices_medianAdjacentOrdered_string),
  (F_slices_medianOrdered_string, code_slices_medianOrdered_string),
  (F_cmp_isNaN_string, code_cmp_isNaN_string),
  (F_slices_order2Ordered_string, code_slices_order2Ordered_string)]
def code : Nat → Option AFunc := tableAt codeL
theorem at_law05_StoreKeeps : code F_law05_StoreKeeps = some code_law05_StoreKeeps := by kernel_rfl
theorem at_law05_StoreRuns : code F_law05_StoreRuns = some code_law05_StoreRuns := by kernel_rfl
theorem at_law05_StoreClones : code F_law05_StoreClones = some code_law05_StoreClones := by kernel_rfl
theorem at_law05_StoreNobody : code F_law05_StoreNobody = some code_law05_StoreNobody := by kernel_rfl
theorem at_law05_alive : code F_law05_alive = some code_law05_alive := by kernel_rfl
theorem at_plain_Rising : code F_plain_Rising = some code_plain_Rising := by kernel_rfl
theorem at_store_New : code F_store_New = some code_store_New := by kernel_rfl
theorem at_store_Store_Set : code F_store_Store_Set = some code_store_Store_Set := by kernel_rfl
theorem at_law05_long : code F_law05_long = some code_law05_long := by kernel_rfl
theorem at_store_Store_Get : code F_store_Store_Get = some code_store_Store_Get := by kernel_rfl
theorem at_plain_Texts : code F_plain_Texts = some code_plain_Texts := by kernel_rfl
theorem at_law05_few : code F_law05_few = some code_law05_few := by kernel_rfl
theorem at_law05_run : code F_law05_run = some code_law05_run := by kernel_rfl
theorem at_store_Store_Clone : code F_store_Store_Clone = some code_store_Store_Clone := by kernel_rfl
theorem at_plain_Value : code F_plain_Value = some code_plain_Value := by kernel_rfl
theorem at_store_Store_Count : code F_store_Store_Count = some code_store_Store_Count := by kernel_rfl
theorem at_store_Store_Kind : code F_store_Store_Kind = some code_store_Store_Kind := by kernel_rfl
theorem at_plain_In : code F_plain_In = some code_plain_In := by kernel_rfl
theorem at_store_Store_is : code F_store_Store_is = some code_store_Store_is := by kernel_rfl
theorem at_value_Check : code F_value_Check = some code_value_Check := by kernel_rfl
theorem at_store_own : code F_store_own = some code_store_own := by kernel_rfl
theorem at_value_Zero : code F_value_Zero = some code_value_Zero := by kernel_rfl
theorem at_law05_step : code F_law05_step = some code_law05_step := by kernel_rfl
theorem at_maps_Clone_map_string_int_string_int : code F_maps_Clone_map_string_int_string_int = some code_maps_Clone_map_string_int_string_int := by kernel_rfl
theorem at_maps_Clone_map_store_key_api_Value_store_key_api_Value : code F_maps_Clone_map_store_key_api_Value_store_key_api_Value = some code_maps_Clone_map_store_key_api_Value_store_key_api_Value := by kernel_rfl
theorem at_slices_Sort_string_string : code F_slices_Sort_string_string = some code_slices_Sort_string_string := by kernel_rfl
theorem at_value_long : code F_value_long = some code_value_long := by kernel_rfl
theorem at_slices_ContainsFunc_string_string : code F_slices_ContainsFunc_string_string = some code_slices_ContainsFunc_string_string := by kernel_rfl
theorem at_value_odd : code F_value_odd = some code_value_odd := by kernel_rfl
theorem at_slices_Clone_string_string : code F_slices_Clone_string_string = some code_slices_Clone_string_string := by kernel_rfl
theorem at_ref05_Set : code F_ref05_Set = some code_ref05_Set := by kernel_rfl
theorem at_ref05_Get : code F_ref05_Get = some code_ref05_Get := by kernel_rfl
theorem at_ref05_Kind : code F_ref05_Kind = some code_ref05_Kind := by kernel_rfl
theorem at_law05_names : code F_law05_names = some code_law05_names := by kernel_rfl
theorem at_math_bits_Len : code F_math_bits_Len = some code_math_bits_Len := by kernel_rfl
theorem at_slices_pdqsortOrdered_string : code F_slices_pdqsortOrdered_string = some code_slices_pdqsortOrdered_string := by kernel_rfl
theorem at_slices_IndexFunc_string_string : code F_slices_IndexFunc_string_string = some code_slices_IndexFunc_string_string := by kernel_rfl
theorem at_value_rises : code F_value_rises = some code_value_rises := by kernel_rfl
theorem at_ref02_Check : code F_ref02_Check = some code_ref02_Check := by kernel_rfl
theorem at_math_bits_Len32 : code F_math_bits_Len32 = some code_math_bits_Len32 := by kernel_rfl
theorem at_math_bits_Len64 : code F_math_bits_Len64 = some code_math_bits_Len64 := by kernel_rfl
theorem at_slices_insertionSortOrdered_string : code F_slices_insertionSortOrdered_string = some code_slices_insertionSortOrdered_string := by kernel_rfl
theorem at_slices_heapSortOrdered_string : code F_slices_heapSortOrdered_string = some code_slices_heapSortOrdered_string := by kernel_rfl
theorem at_slices_breakPatternsOrdered_string : code F_slices_breakPatternsOrdered_string = some code_slices_breakPatternsOrdered_string := by kernel_rfl
theorem at_slices_choosePivotOrdered_string : code F_slices_choosePivotOrdered_string = some code_slices_choosePivotOrdered_string := by kernel_rfl
theorem at_slices_reverseRangeOrdered_string : code F_slices_reverseRangeOrdered_string = some code_slices_reverseRangeOrdered_string := by kernel_rfl
theorem at_slices_partialInsertionSortOrdered_string : code F_slices_partialInsertionSortOrdered_string = some code_slices_partialInsertionSortOrdered_string := by kernel_rfl
theorem at_cmp_Less_string : code F_cmp_Less_string = some code_cmp_Less_string := by kernel_rfl
theorem at_slices_partitionEqualOrdered_string : code F_slices_partitionEqualOrdered_string = some code_slices_partitionEqualOrdered_string := by kernel_rfl
theorem at_slices_partitionOrdered_string : code F_slices_partitionOrdered_string = some code_slices_partitionOrdered_string := by kernel_rfl
theorem at_ref02_bad : code F_ref02_bad = some code_ref02_bad := by kernel_rfl
theorem at_slices_siftDownOrdered_string : code F_slices_siftDownOrdered_string = some code_slices_siftDownOrdered_string := by kernel_rfl
theorem at_slices_nextPowerOfTwo : code F_slices_nextPowerOfTwo = some code_slices_nextPowerOfTwo := by kernel_rfl
theorem at_slices_xorshift_Next : code F_slices_xorshift_Next = some code_slices_xorshift_Next := by kernel_rfl
theorem at_slices_medianAdjacentOrdered_string : code F_slices_medianAdjacentOrdered_string = some code_slices_medianAdjacentOrdered_string := by kernel_rfl
theorem at_slices_medianOrdered_string : code F_slices_medianOrdered_string = some code_slices_medianOrdered_string := by kernel_rfl
theorem at_cmp_isNaN_string : code F_cmp_isNaN_string = some code_cmp_isNaN_string := by kernel_rfl
theorem at_slices_order2Ordered_string : code F_slices_order2Ordered_string = some code_slices_order2Ordered_string := by kernel_rfl
end Bz.S
