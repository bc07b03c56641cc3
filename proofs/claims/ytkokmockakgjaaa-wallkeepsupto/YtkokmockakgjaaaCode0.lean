/- The code of functions, as the clean machine reads it (printed by a program of ours out of the seat's translation). -/
import Derived.Test.YtkokmockakgjaaaBz3
import Derived.KernelRfl
set_option linter.unusedSimpArgs false
set_option linter.unusedVariables false
set_option maxRecDepth 100000
namespace Bz.S
open Go Bz
def F_law33_WallRuns : Nat := 3
def F_law33_WallNever : Nat := 4
def F_law33_WallKeeps : Nat := 5
def F_law33_WallClones : Nat := 6
def F_law33_alive : Nat := 7
def F_wall_New : Nat := 9
def F_law33_few : Nat := 10
def F_law33_run : Nat := 8
def F_wall_Wall_Forget : Nat := 11
def F_wall_Wall_See : Nat := 12
def F_wall_Wall_Seen : Nat := 14
def F_law33_clash : Nat := 13
def F_wall_Wall_Leak : Nat := 15
def F_wall_Wall_May : Nat := 16
def F_law33_foes : Nat := 17
def F_wall_Wall_Clone : Nat := 18
def F_law33_step : Nat := 19
def F_900000004 : Nat := 900000004
def F_900000005 : Nat := 900000005
def F_wall_Wall_is : Nat := 20
def F_900000001 : Nat := 900000001
def F_900000002 : Nat := 900000002
def F_900000003 : Nat := 900000003
def F_slices_Sort_string_string : Nat := 21
def F_wall_Wall_Leak_1 : Nat := 23
def F_slices_ContainsFunc_string_string : Nat := 22
def F_wall_Wall_May_1 : Nat := 25
def F_law33_class : Nat := 26
def F_maps_Clone_map_string_wall_class_string_wall_class : Nat := 27
def F_maps_Clone_map_wall_sight_int_wall_sight_int : Nat := 28
def F_law33_may : Nat := 29
def F_law33_of : Nat := 30
def F_plain_Texts : Nat := 31
def F_math_bits_Len : Nat := 33
def F_slices_pdqsortOrdered_string : Nat := 32
def F_wall_Wall_foes : Nat := 24
def F_slices_IndexFunc_string_string : Nat := 34
def F_maps_clone : Nat := 35
def F_plain_Rising : Nat := 36
def F_math_bits_Len32 : Nat := 46
def F_math_bits_Len64 : Nat := 47
def F_slices_insertionSortOrdered_string : Nat := 37
def F_slices_heapSortOrdered_string : Nat := 38
def F_slices_breakPatternsOrdered_string : Nat := 39
def F_slices_choosePivotOrdered_string : Nat := 40
def F_slices_reverseRangeOrdered_string : Nat := 41
def F_slices_partialInsertionSortOrdered_string : Nat := 42
def F_cmp_Less_string : Nat := 43
def F_slices_partitionEqualOrdered_string : Nat := 44
def F_slices_partitionOrdered_string : Nat := 45
def F_plain_In : Nat := 48
def F_slices_siftDownOrdered_string : Nat := 49
def F_slices_nextPowerOfTwo : Nat := 50
def F_slices_xorshift_Next : Nat := 51
def F_slices_medianAdjacentOrdered_string : Nat := 52
def F_slices_medianOrdered_string : Nat := 53
def F_cmp_isNaN_string : Nat := 54
def F_slices_order2Ordered_string : Nat := 55
/-- beadle/beadlelaw33.WallRuns -/
def code_law33_WallRuns : AFunc := ⟨19, [.tmp 4],
  .seq (.region 0 [
    ⟨(some 4), .mov (.c (.d (.bool false))), none, []⟩] false)
  (.seq (.seq (.region 1 [
    ⟨(some 7), .call (.c (.fn F_law33_alive [])) [], none, []⟩,
    ⟨(some 8), .un .not (.t 7), none, []⟩] false)
  (.cond (.t 8)
    (.seq (.region 2 [
      ⟨(some 4), .mov (.c (.d (.bool false))), none, []⟩] false)
    (.mask ⟨[4], []⟩ (.ret)))
    (.skip)))
  (.mask ⟨[0, 1], []⟩ (.seq (.region 3 [
    ⟨(some 10), .mov (.t 0), none, []⟩,
    ⟨(some 11), .call (.c (.fn F_wall_New [])) [(.t 10)], none, []⟩,
    ⟨(some 12), .mov (.t 0), none, []⟩,
    ⟨(some 13), .mov (.t 1), none, []⟩,
    ⟨(some 14), .call (.c (.fn F_law33_few [])) [(.t 13)], none, []⟩,
    ⟨(some 15), .call (.c (.fn F_law33_run [])) [(.t 11), (.t 12), (.c (.d (.vs true []))), (.t 14)], none, []⟩,
    ⟨(some 9), .mov (.t 15), none, []⟩,
    ⟨(some 16), .extract (.t 9) 0, none, []⟩,
    ⟨(some 17), .extract (.t 9) 1, none, []⟩,
    ⟨(some 5), .mov (.t 16), none, []⟩,
    ⟨(some 6), .mov (.t 17), none, []⟩] false)
  (.seq (.region 4 [
    ⟨(some 18), .mov (.t 6), none, []⟩,
    ⟨(some 4), .mov (.t 18), none, []⟩] false)
  (.mask ⟨[4], []⟩ (.ret))))))⟩
def mask_law33_WallNever_0 : Mask := ⟨[0, 1, 2, 7, 8], []⟩
def body_law33_WallNever_0 : ACode :=
  .seq (.seq (.region 6 [
    ⟨(some 16), .mov (.t 8), none, []⟩,
    ⟨(some 17), .mov (.t 1), none, []⟩,
    ⟨(some 18), .len .sl (.t 17), none, []⟩,
    ⟨(some 19), .bin .lss (.t 16) (.t 18), none, []⟩] false)
  (.cond (.t 19)
    (.skip)
    (.mask ⟨[], []⟩ (.exit 0))))
  (.mask ⟨[0, 1, 2, 7, 8], []⟩ (.seq (.block 1 (.seq (.region 8 [
    ⟨(some 22), .mov (.t 1), none, []⟩,
    ⟨(some 23), .mov (.t 8), none, []⟩,
    ⟨(some 24), .iaddr 3 (.t 22) (.t 23), none, []⟩,
    ⟨(some 25), .load 3 true (.t 24), none, []⟩,
    ⟨(some 9), .box 3 (.c (.agg [(.d (.int .i64 (0))), (.d (.str [])), (.d (.str []))])), none, []⟩,
    ⟨none, .store 3 (.t 9) (.t 25), none, []⟩] false)
  (.seq (.seq (.region 9 [
    ⟨(some 26), .faddr 0 (.t 9), none, []⟩,
    ⟨(some 27), .load 1 false (.t 26), none, []⟩,
    ⟨(some 28), .bin .eql (.t 27) (.c (.d (.int .i64 (3)))), none, []⟩] false)
  (.cond (.t 28)
    (.region 10 [
      ⟨(some 29), .mov (.t 7), none, []⟩,
      ⟨(some 30), .faddr 1 (.t 9), none, []⟩,
      ⟨(some 31), .load 1 false (.t 30), none, []⟩,
      ⟨(some 32), .call (.c (.fn F_wall_Wall_Forget [])) [(.t 29), (.t 31)], none, []⟩] false)
    (.region 11 [
      ⟨(some 33), .mov (.t 7), none, []⟩,
      ⟨(some 34), .faddr 1 (.t 9), none, []⟩,
      ⟨(some 35), .load 1 false (.t 34), none, []⟩,
      ⟨(some 36), .faddr 2 (.t 9), none, []⟩,
      ⟨(some 37), .load 1 false (.t 36), none, []⟩,
      ⟨(some 38), .call (.c (.fn F_wall_Wall_See [])) [(.t 33), (.t 35), (.t 37)], none, []⟩] false)))
  (.mask ⟨[0, 1, 2, 7, 8, 9], []⟩ (.seq (.region 12 [
    ⟨(some 39), .mov (.t 0), none, []⟩,
    ⟨(some 40), .mov (.t 7), none, []⟩,
    ⟨(some 41), .faddr 1 (.t 9), none, []⟩,
    ⟨(some 42), .load 1 false (.t 41), none, []⟩,
    ⟨(some 43), .call (.c (.fn F_wall_Wall_Seen [])) [(.t 40), (.t 42)], none, []⟩,
    ⟨(some 44), .call (.c (.fn F_law33_clash [])) [(.t 39), (.t 43)], none, []⟩,
    ⟨(some 45), .mov (.t 44), none, []⟩,
    ⟨(some 46), .mov (.t 0), (some (45, false)), []⟩,
    ⟨(some 47), .mov (.t 7), (some (45, false)), []⟩,
    ⟨(some 48), .mov (.t 2), (some (45, false)), []⟩,
    ⟨(some 49), .call (.c (.fn F_wall_Wall_Seen [])) [(.t 47), (.t 48)], (some (45, false)), []⟩,
    ⟨(some 50), .call (.c (.fn F_law33_clash [])) [(.t 46), (.t 49)], (some (45, false)), []⟩,
    ⟨(some 51), .pick (.t 45) (.c (.d (.bool true))) (.t 50), none, []⟩,
    ⟨(some 52), .mov (.t 51), none, []⟩,
    ⟨(some 53), .mov (.t 7), (some (52, false)), []⟩,
    ⟨(some 54), .mov (.t 2), (some (52, false)), []⟩,
    ⟨(some 55), .mov (.t 2), (some (52, false)), []⟩,
    ⟨(some 56), .call (.c (.fn F_wall_Wall_Leak [])) [(.t 53), (.t 54), (.t 55)], (some (52, false)), []⟩,
    ⟨(some 57), .pick (.t 52) (.c (.d (.bool true))) (.t 56), none, []⟩] false)
  (.mask ⟨[0, 1, 2, 7, 8, 57], []⟩ (.cond (.t 57)
    (.seq (.region 13 [
      ⟨(some 6), .mov (.c (.d (.bool false))), none, []⟩] false)
    (.mask ⟨[6], []⟩ (.ret)))
    (.skip))))))))
  (.mask ⟨[0, 1, 2, 7, 8], []⟩ (.region 7 [
    ⟨(some 20), .mov (.t 8), none, []⟩,
    ⟨(some 21), .bin .add (.t 20) (.c (.d (.int .i64 (1)))), none, []⟩,
    ⟨(some 8), .mov (.t 21), none, []⟩] false))))
/-- beadle/beadlelaw33.WallNever -/
def code_law33_WallNever : AFunc := ⟨58, [.tmp 6],
  .seq (.region 0 [
    ⟨(some 6), .mov (.c (.d (.bool false))), none, []⟩] false)
  (.seq (.seq (.region 1 [
    ⟨(some 10), .call (.c (.fn F_law33_alive [])) [], none, []⟩,
    ⟨(some 11), .un .not (.t 10), none, []⟩] false)
  (.cond (.t 11)
    (.seq (.region 2 [
      ⟨(some 6), .mov (.c (.d (.bool false))), none, []⟩] false)
    (.mask ⟨[6], []⟩ (.ret)))
    (.skip)))
  (.mask ⟨[0, 1, 2], []⟩ (.seq (.region 3 [
    ⟨(some 12), .mov (.t 0), none, []⟩,
    ⟨(some 13), .call (.c (.fn F_wall_New [])) [(.t 12)], none, []⟩,
    ⟨(some 7), .mov (.t 13), none, []⟩] false)
  (.seq (.region 4 [
    ⟨(some 14), .mov (.t 1), none, []⟩,
    ⟨(some 15), .call (.c (.fn F_law33_few [])) [(.t 14)], none, []⟩,
    ⟨(some 1), .mov (.t 15), none, []⟩] false)
  (.seq (.seq (.region 5 [
    ⟨(some 8), .mov (.c (.d (.int .i64 (0)))), none, []⟩] false)
  (.block 0 (.loop mask_law33_WallNever_0 body_law33_WallNever_0)))
  (.mask ⟨[], []⟩ (.seq (.region 14 [
    ⟨(some 6), .mov (.c (.d (.bool true))), none, []⟩] false)
  (.mask ⟨[6], []⟩ (.ret)))))))))⟩
/-- beadle/beadlelaw33.WallKeeps -/
def code_law33_WallKeeps : AFunc := ⟨87, [.tmp 12],
  .seq (.region 0 [
    ⟨(some 12), .mov (.c (.d (.bool false))), none, []⟩] false)
  (.seq (.seq (.region 1 [
    ⟨(some 19), .call (.c (.fn F_law33_alive [])) [], none, []⟩,
    ⟨(some 20), .un .not (.t 19), none, []⟩] false)
  (.cond (.t 20)
    (.seq (.region 2 [
      ⟨(some 12), .mov (.c (.d (.bool false))), none, []⟩] false)
    (.mask ⟨[12], []⟩ (.ret)))
    (.skip)))
  (.mask ⟨[0, 1, 2, 3, 4, 5], []⟩ (.seq (.region 3 [
    ⟨(some 21), .mov (.t 0), none, []⟩,
    ⟨(some 22), .call (.c (.fn F_wall_New [])) [(.t 21)], none, []⟩,
    ⟨(some 13), .mov (.t 22), none, []⟩] false)
  (.seq (.region 4 [
    ⟨(some 24), .mov (.t 13), none, []⟩,
    ⟨(some 25), .mov (.t 0), none, []⟩,
    ⟨(some 26), .mov (.t 1), none, []⟩,
    ⟨(some 27), .call (.c (.fn F_law33_few [])) [(.t 26)], none, []⟩,
    ⟨(some 28), .call (.c (.fn F_law33_run [])) [(.t 24), (.t 25), (.c (.d (.vs true []))), (.t 27)], none, []⟩,
    ⟨(some 23), .mov (.t 28), none, []⟩,
    ⟨(some 29), .extract (.t 23) 0, none, []⟩,
    ⟨(some 30), .extract (.t 23) 1, none, []⟩,
    ⟨(some 14), .mov (.t 29), none, []⟩,
    ⟨(some 15), .mov (.t 30), none, []⟩] false)
  (.seq (.region 5 [
    ⟨(some 31), .mov (.t 13), none, []⟩,
    ⟨(some 32), .mov (.t 2), none, []⟩,
    ⟨(some 33), .mov (.t 3), none, []⟩,
    ⟨(some 34), .call (.c (.fn F_wall_Wall_May [])) [(.t 31), (.t 32), (.t 33)], none, []⟩,
    ⟨(some 35), .mov (.t 13), none, []⟩,
    ⟨(some 36), .mov (.t 2), none, []⟩,
    ⟨(some 37), .mov (.t 4), none, []⟩,
    ⟨(some 38), .call (.c (.fn F_wall_Wall_May [])) [(.t 35), (.t 36), (.t 37)], none, []⟩,
    ⟨(some 39), .mov (.t 13), none, []⟩,
    ⟨(some 40), .mov (.t 5), none, []⟩,
    ⟨(some 41), .mov (.t 4), none, []⟩,
    ⟨(some 42), .call (.c (.fn F_wall_Wall_May [])) [(.t 39), (.t 40), (.t 41)], none, []⟩,
    ⟨(some 16), .mov (.t 34), none, []⟩,
    ⟨(some 17), .mov (.t 38), none, []⟩,
    ⟨(some 18), .mov (.t 42), none, []⟩] false)
  (.seq (.seq (.region 6 [
    ⟨(some 43), .mov (.t 13), none, []⟩,
    ⟨(some 44), .mov (.t 2), none, []⟩,
    ⟨(some 45), .mov (.t 3), none, []⟩,
    ⟨(some 46), .call (.c (.fn F_wall_Wall_See [])) [(.t 43), (.t 44), (.t 45)], none, []⟩,
    ⟨(some 47), .mov (.t 16), none, []⟩,
    ⟨(some 48), .binb true (.t 46) (.t 47), none, []⟩,
    ⟨(some 49), .mov (.t 48), none, []⟩,
    ⟨(some 50), .mov (.t 13), (some (49, false)), []⟩,
    ⟨(some 51), .mov (.t 2), (some (49, false)), []⟩,
    ⟨(some 52), .mov (.t 3), (some (49, false)), []⟩,
    ⟨(some 53), .call (.c (.fn F_wall_Wall_May [])) [(.t 50), (.t 51), (.t 52)], (some (49, false)), []⟩,
    ⟨(some 54), .mov (.t 16), (some (49, false)), []⟩,
    ⟨(some 55), .binb true (.t 53) (.t 54), (some (49, false)), []⟩,
    ⟨(some 56), .pick (.t 49) (.c (.d (.bool true))) (.t 55), none, []⟩] false)
  (.mask ⟨[0, 2, 3, 4, 5, 13, 15, 16, 17, 18, 56], []⟩ (.cond (.t 56)
    (.seq (.region 7 [
      ⟨(some 12), .mov (.c (.d (.bool false))), none, []⟩] false)
    (.mask ⟨[12], []⟩ (.ret)))
    (.skip))))
  (.mask ⟨[0, 2, 3, 4, 5, 13, 15, 16, 17, 18], []⟩ (.seq (.seq (.region 8 [
    ⟨(some 57), .mov (.t 5), none, []⟩,
    ⟨(some 58), .mov (.t 2), none, []⟩,
    ⟨(some 59), .bin .neq (.t 57) (.t 58), none, []⟩,
    ⟨(some 60), .mov (.t 59), none, []⟩,
    ⟨(some 61), .mov (.t 13), (some (60, true)), []⟩,
    ⟨(some 62), .mov (.t 5), (some (60, true)), []⟩,
    ⟨(some 63), .mov (.t 4), (some (60, true)), []⟩,
    ⟨(some 64), .call (.c (.fn F_wall_Wall_May [])) [(.t 61), (.t 62), (.t 63)], (some (60, true)), []⟩,
    ⟨(some 65), .mov (.t 18), (some (60, true)), []⟩,
    ⟨(some 66), .binb true (.t 64) (.t 65), (some (60, true)), []⟩,
    ⟨(some 67), .pick (.t 60) (.t 66) (.c (.d (.bool false))), none, []⟩] false)
  (.mask ⟨[0, 2, 3, 4, 13, 15, 16, 17, 67], []⟩ (.cond (.t 67)
    (.seq (.region 9 [
      ⟨(some 12), .mov (.c (.d (.bool false))), none, []⟩] false)
    (.mask ⟨[12], []⟩ (.ret)))
    (.skip))))
  (.mask ⟨[0, 2, 3, 4, 13, 15, 16, 17], []⟩ (.seq (.region 10 [
    ⟨(some 68), .mov (.t 15), none, []⟩,
    ⟨(some 69), .mov (.t 68), none, []⟩,
    ⟨(some 70), .mov (.t 13), (some (69, true)), []⟩,
    ⟨(some 71), .mov (.t 2), (some (69, true)), []⟩,
    ⟨(some 72), .mov (.t 4), (some (69, true)), []⟩,
    ⟨(some 73), .call (.c (.fn F_wall_Wall_May [])) [(.t 70), (.t 71), (.t 72)], (some (69, true)), []⟩,
    ⟨(some 74), .mov (.t 17), (some (69, true)), []⟩,
    ⟨(some 75), .mov (.t 74), (some (69, true)), []⟩,
    ⟨(some 76), .mov (.t 16), (some (75, true)), []⟩,
    ⟨(some 77), .mov (.t 76), (some (75, true)), []⟩,
    ⟨(some 78), .mov (.t 0), (some (77, true)), []⟩,
    ⟨(some 79), .mov (.t 3), (some (77, true)), []⟩,
    ⟨(some 80), .mov (.t 4), (some (77, true)), []⟩,
    ⟨(some 81), .call (.c (.fn F_law33_foes [])) [(.t 78), (.t 79), (.t 80)], (some (77, true)), []⟩,
    ⟨(some 82), .pick (.t 77) (.t 81) (.c (.d (.bool false))), (some (75, true)), []⟩,
    ⟨(some 83), .un .not (.t 82), (some (75, true)), []⟩,
    ⟨(some 84), .pick (.t 75) (.t 83) (.c (.d (.bool false))), (some (69, true)), []⟩,
    ⟨(some 85), .binb false (.t 73) (.t 84), (some (69, true)), []⟩,
    ⟨(some 86), .pick (.t 69) (.t 85) (.c (.d (.bool false))), none, []⟩,
    ⟨(some 12), .mov (.t 86), none, []⟩] false)
  (.mask ⟨[12], []⟩ (.ret))))))))))))⟩
/-- beadle/beadlelaw33.WallClones -/
def code_law33_WallClones : AFunc := ⟨150, [.tmp 8],
  .seq (.region 0 [
    ⟨(some 8), .mov (.c (.d (.bool false))), none, []⟩] false)
  (.seq (.seq (.region 1 [
    ⟨(some 23), .call (.c (.fn F_law33_alive [])) [], none, []⟩,
    ⟨(some 24), .un .not (.t 23), none, []⟩] false)
  (.cond (.t 24)
    (.seq (.region 2 [
      ⟨(some 8), .mov (.c (.d (.bool false))), none, []⟩] false)
    (.mask ⟨[8], []⟩ (.ret)))
    (.skip)))
  (.mask ⟨[0, 1, 2, 3], []⟩ (.seq (.region 3 [
    ⟨(some 25), .mov (.t 0), none, []⟩,
    ⟨(some 26), .call (.c (.fn F_wall_New [])) [(.t 25)], none, []⟩,
    ⟨(some 9), .mov (.t 26), none, []⟩] false)
  (.seq (.region 4 [
    ⟨(some 28), .mov (.t 9), none, []⟩,
    ⟨(some 29), .mov (.t 0), none, []⟩,
    ⟨(some 30), .mov (.t 1), none, []⟩,
    ⟨(some 31), .call (.c (.fn F_law33_few [])) [(.t 30)], none, []⟩,
    ⟨(some 32), .call (.c (.fn F_law33_run [])) [(.t 28), (.t 29), (.c (.d (.vs true []))), (.t 31)], none, []⟩,
    ⟨(some 27), .mov (.t 32), none, []⟩,
    ⟨(some 33), .extract (.t 27) 0, none, []⟩,
    ⟨(some 34), .extract (.t 27) 1, none, []⟩,
    ⟨(some 10), .mov (.t 33), none, []⟩,
    ⟨(some 11), .mov (.t 34), none, []⟩] false)
  (.seq (.region 5 [
    ⟨(some 35), .mov (.t 9), none, []⟩,
    ⟨(some 36), .call (.c (.fn F_wall_Wall_Clone [])) [(.t 35)], none, []⟩,
    ⟨(some 12), .mov (.t 36), none, []⟩] false)
  (.seq (.region 6 [
    ⟨(some 38), .mov (.t 9), none, []⟩,
    ⟨(some 39), .mov (.t 0), none, []⟩,
    ⟨(some 40), .mov (.t 10), none, []⟩,
    ⟨(some 41), .mov (.t 2), none, []⟩,
    ⟨(some 42), .call (.c (.fn F_law33_few [])) [(.t 41)], none, []⟩,
    ⟨(some 43), .call (.c (.fn F_law33_run [])) [(.t 38), (.t 39), (.t 40), (.t 42)], none, []⟩,
    ⟨(some 37), .mov (.t 43), none, []⟩,
    ⟨(some 44), .extract (.t 37) 0, none, []⟩,
    ⟨(some 45), .extract (.t 37) 1, none, []⟩,
    ⟨(some 13), .mov (.t 44), none, []⟩,
    ⟨(some 14), .mov (.t 45), none, []⟩] false)
  (.seq (.region 7 [
    ⟨(some 47), .mov (.t 12), none, []⟩,
    ⟨(some 48), .mov (.t 0), none, []⟩,
    ⟨(some 49), .mov (.t 10), none, []⟩,
    ⟨(some 50), .mov (.t 3), none, []⟩,
    ⟨(some 51), .call (.c (.fn F_law33_few [])) [(.t 50)], none, []⟩,
    ⟨(some 52), .call (.c (.fn F_law33_run [])) [(.t 47), (.t 48), (.t 49), (.t 51)], none, []⟩,
    ⟨(some 46), .mov (.t 52), none, []⟩,
    ⟨(some 53), .extract (.t 46) 0, none, []⟩,
    ⟨(some 54), .extract (.t 46) 1, none, []⟩,
    ⟨(some 15), .mov (.t 53), none, []⟩,
    ⟨(some 16), .mov (.t 54), none, []⟩] false)
  (.seq (.region 8 [
    ⟨(some 56), .mov (.t 9), none, []⟩,
    ⟨(some 57), .mov (.t 0), none, []⟩,
    ⟨(some 58), .mov (.t 13), none, []⟩,
    ⟨(some 59), .mov (.t 3), none, []⟩,
    ⟨(some 60), .call (.c (.fn F_law33_few [])) [(.t 59)], none, []⟩,
    ⟨(some 61), .call (.c (.fn F_law33_run [])) [(.t 56), (.t 57), (.t 58), (.t 60)], none, []⟩,
    ⟨(some 55), .mov (.t 61), none, []⟩,
    ⟨(some 62), .extract (.t 55) 0, none, []⟩,
    ⟨(some 63), .extract (.t 55) 1, none, []⟩,
    ⟨(some 17), .mov (.t 62), none, []⟩,
    ⟨(some 18), .mov (.t 63), none, []⟩] false)
  (.seq (.region 9 [
    ⟨(some 65), .mov (.t 12), none, []⟩,
    ⟨(some 66), .mov (.t 0), none, []⟩,
    ⟨(some 67), .mov (.t 15), none, []⟩,
    ⟨(some 68), .mov (.t 2), none, []⟩,
    ⟨(some 69), .call (.c (.fn F_law33_few [])) [(.t 68)], none, []⟩,
    ⟨(some 70), .call (.c (.fn F_law33_run [])) [(.t 65), (.t 66), (.t 67), (.t 69)], none, []⟩,
    ⟨(some 64), .mov (.t 70), none, []⟩,
    ⟨(some 71), .extract (.t 64) 0, none, []⟩,
    ⟨(some 72), .extract (.t 64) 1, none, []⟩,
    ⟨(some 19), .mov (.t 71), none, []⟩,
    ⟨(some 20), .mov (.t 72), none, []⟩] false)
  (.seq (.region 10 [
    ⟨(some 21), .mov (.c (.d .nilp)), none, []⟩] false)
  (.seq (.region 11 [
    ⟨(some 73), .build [(.d .nilm), (.d .nilm)] [], none, []⟩,
    ⟨(some 74), .box 2 (.t 73), none, []⟩,
    ⟨(some 22), .mov (.t 74), none, []⟩] false)
  (.seq (.region 12 [
    ⟨(some 75), .mov (.t 11), none, []⟩,
    ⟨(some 76), .mov (.t 75), none, []⟩,
    ⟨(some 77), .mov (.t 14), (some (76, true)), []⟩,
    ⟨(some 78), .pick (.t 76) (.t 77) (.c (.d (.bool false))), none, []⟩,
    ⟨(some 79), .mov (.t 78), none, []⟩,
    ⟨(some 80), .mov (.t 16), (some (79, true)), []⟩,
    ⟨(some 81), .pick (.t 79) (.t 80) (.c (.d (.bool false))), none, []⟩,
    ⟨(some 82), .mov (.t 81), none, []⟩,
    ⟨(some 83), .mov (.t 18), (some (82, true)), []⟩,
    ⟨(some 84), .pick (.t 82) (.t 83) (.c (.d (.bool false))), none, []⟩,
    ⟨(some 85), .mov (.t 84), none, []⟩,
    ⟨(some 86), .mov (.t 20), (some (85, true)), []⟩,
    ⟨(some 87), .pick (.t 85) (.t 86) (.c (.d (.bool false))), none, []⟩,
    ⟨(some 88), .mov (.t 87), none, []⟩,
    ⟨(some 89), .mov (.t 21), (some (88, true)), []⟩,
    ⟨(some 90), .call (.c (.fn F_wall_Wall_May [])) [(.t 89), (.c (.d (.str []))), (.c (.d (.str [])))], (some (88, true)), []⟩,
    ⟨(some 91), .un .not (.t 90), (some (88, true)), []⟩,
    ⟨(some 92), .pick (.t 88) (.t 91) (.c (.d (.bool false))), none, []⟩,
    ⟨(some 93), .mov (.t 92), none, []⟩,
    ⟨(some 94), .mov (.t 22), (some (93, true)), []⟩,
    ⟨(some 95), .call (.c (.fn F_wall_Wall_May [])) [(.t 94), (.c (.d (.str []))), (.c (.d (.str [])))], (some (93, true)), []⟩,
    ⟨(some 96), .un .not (.t 95), (some (93, true)), []⟩,
    ⟨(some 97), .pick (.t 93) (.t 96) (.c (.d (.bool false))), none, []⟩,
    ⟨(some 98), .mov (.t 97), none, []⟩,
    ⟨(some 99), .mov (.t 21), (some (98, true)), []⟩,
    ⟨(some 100), .call (.c (.fn F_wall_Wall_See [])) [(.t 99), (.c (.d (.str []))), (.c (.d (.str [])))], (some (98, true)), []⟩,
    ⟨(some 101), .un .not (.t 100), (some (98, true)), []⟩,
    ⟨(some 102), .pick (.t 98) (.t 101) (.c (.d (.bool false))), none, []⟩,
    ⟨(some 103), .mov (.t 102), none, []⟩,
    ⟨(some 104), .mov (.t 22), (some (103, true)), []⟩,
    ⟨(some 105), .call (.c (.fn F_wall_Wall_See [])) [(.t 104), (.c (.d (.str []))), (.c (.d (.str [])))], (some (103, true)), []⟩,
    ⟨(some 106), .un .not (.t 105), (some (103, true)), []⟩,
    ⟨(some 107), .pick (.t 103) (.t 106) (.c (.d (.bool false))), none, []⟩,
    ⟨(some 108), .mov (.t 107), none, []⟩,
    ⟨(some 109), .mov (.t 21), (some (108, true)), []⟩,
    ⟨(some 110), .call (.c (.fn F_wall_Wall_Seen [])) [(.t 109), (.c (.d (.str [])))], (some (108, true)), []⟩,
    ⟨(some 111), .len .sl (.t 110), (some (108, true)), []⟩,
    ⟨(some 112), .bin .eql (.t 111) (.c (.d (.int .i64 (0)))), (some (108, true)), []⟩,
    ⟨(some 113), .pick (.t 108) (.t 112) (.c (.d (.bool false))), none, []⟩,
    ⟨(some 114), .mov (.t 113), none, []⟩,
    ⟨(some 115), .mov (.t 22), (some (114, true)), []⟩,
    ⟨(some 116), .call (.c (.fn F_wall_Wall_Seen [])) [(.t 115), (.c (.d (.str [])))], (some (114, true)), []⟩,
    ⟨(some 117), .len .sl (.t 116), (some (114, true)), []⟩,
    ⟨(some 118), .bin .eql (.t 117) (.c (.d (.int .i64 (0)))), (some (114, true)), []⟩,
    ⟨(some 119), .pick (.t 114) (.t 118) (.c (.d (.bool false))), none, []⟩,
    ⟨(some 120), .mov (.t 119), none, []⟩,
    ⟨(some 121), .mov (.t 21), (some (120, true)), []⟩,
    ⟨(some 122), .call (.c (.fn F_wall_Wall_Forget [])) [(.t 121), (.c (.d (.str [])))], (some (120, true)), []⟩,
    ⟨(some 123), .bin .eql (.t 122) (.c (.d (.int .i64 (0)))), (some (120, true)), []⟩,
    ⟨(some 124), .pick (.t 120) (.t 123) (.c (.d (.bool false))), none, []⟩,
    ⟨(some 125), .mov (.t 124), none, []⟩,
    ⟨(some 126), .mov (.t 22), (some (125, true)), []⟩,
    ⟨(some 127), .call (.c (.fn F_wall_Wall_Forget [])) [(.t 126), (.c (.d (.str [])))], (some (125, true)), []⟩,
    ⟨(some 128), .bin .eql (.t 127) (.c (.d (.int .i64 (0)))), (some (125, true)), []⟩,
    ⟨(some 129), .pick (.t 125) (.t 128) (.c (.d (.bool false))), none, []⟩,
    ⟨(some 130), .mov (.t 129), none, []⟩,
    ⟨(some 131), .mov (.t 21), (some (130, true)), []⟩,
    ⟨(some 132), .call (.c (.fn F_wall_Wall_Leak [])) [(.t 131), (.c (.d (.str []))), (.c (.d (.str [])))], (some (130, true)), []⟩,
    ⟨(some 133), .un .not (.t 132), (some (130, true)), []⟩,
    ⟨(some 134), .pick (.t 130) (.t 133) (.c (.d (.bool false))), none, []⟩,
    ⟨(some 135), .mov (.t 134), none, []⟩,
    ⟨(some 136), .mov (.t 22), (some (135, true)), []⟩,
    ⟨(some 137), .call (.c (.fn F_wall_Wall_Leak [])) [(.t 136), (.c (.d (.str []))), (.c (.d (.str [])))], (some (135, true)), []⟩,
    ⟨(some 138), .un .not (.t 137), (some (135, true)), []⟩,
    ⟨(some 139), .pick (.t 135) (.t 138) (.c (.d (.bool false))), none, []⟩,
    ⟨(some 140), .mov (.t 139), none, []⟩,
    ⟨(some 141), .mov (.t 21), (some (140, true)), []⟩,
    ⟨(some 142), .call (.c (.fn F_wall_Wall_Clone [])) [(.t 141)], (some (140, true)), []⟩,
    ⟨(some 143), .isnil .p false (.t 142), (some (140, true)), []⟩,
    ⟨(some 144), .pick (.t 140) (.t 143) (.c (.d (.bool false))), none, []⟩,
    ⟨(some 145), .mov (.t 144), none, []⟩,
    ⟨(some 146), .mov (.t 22), (some (145, true)), []⟩,
    ⟨(some 147), .call (.c (.fn F_wall_Wall_Clone [])) [(.t 146)], (some (145, true)), []⟩,
    ⟨(some 148), .isnil .p false (.t 147), (some (145, true)), []⟩,
    ⟨(some 149), .pick (.t 145) (.t 148) (.c (.d (.bool false))), none, []⟩,
    ⟨(some 8), .mov (.t 149), none, []⟩] false)
  (.mask ⟨[8], []⟩ (.ret))))))))))))))⟩
/-- beadle/beadlelaw33.alive -/
def code_law33_alive : AFunc := ⟨27, [.tmp 0],
  .seq (.region 0 [
    ⟨(some 0), .mov (.c (.d (.bool false))), none, []⟩] false)
  (.seq (.region 1 [
    ⟨(some 2), .build [(.d (.str [])), (.d (.str []))] [(0, 1, (.c (.d (.str [97])))), (1, 1, (.c (.d (.str [98, 97, 110, 107]))))], none, []⟩,
    ⟨(some 3), .build [(.d (.str [])), (.d (.str []))] [(0, 1, (.c (.d (.str [98])))), (1, 1, (.c (.d (.str [98, 97, 110, 107]))))], none, []⟩,
    ⟨(some 4), .buildSl 2 [(.str []), (.str [])] 2 [(0, (.t 2)), (1, (.t 3))], none, []⟩,
    ⟨(some 5), .call (.c (.fn F_wall_New [])) [(.t 4)], none, []⟩,
    ⟨(some 1), .mov (.t 5), none, []⟩] false)
  (.seq (.region 2 [
    ⟨(some 6), .mov (.t 1), none, []⟩,
    ⟨(some 7), .call (.c (.fn F_wall_Wall_See [])) [(.t 6), (.c (.d (.str [120]))), (.c (.d (.str [97])))], none, []⟩,
    ⟨(some 8), .mov (.t 7), none, []⟩,
    ⟨(some 9), .mov (.t 1), (some (8, true)), []⟩,
    ⟨(some 10), .call (.c (.fn F_wall_Wall_May [])) [(.t 9), (.c (.d (.str [120]))), (.c (.d (.str [98])))], (some (8, true)), []⟩,
    ⟨(some 11), .un .not (.t 10), (some (8, true)), []⟩,
    ⟨(some 12), .pick (.t 8) (.t 11) (.c (.d (.bool false))), none, []⟩,
    ⟨(some 13), .mov (.t 12), none, []⟩,
    ⟨(some 14), .mov (.t 1), (some (13, true)), []⟩,
    ⟨(some 15), .call (.c (.fn F_wall_Wall_May [])) [(.t 14), (.c (.d (.str [120]))), (.c (.d (.str [99])))], (some (13, true)), []⟩,
    ⟨(some 16), .pick (.t 13) (.t 15) (.c (.d (.bool false))), none, []⟩,
    ⟨(some 17), .mov (.t 16), none, []⟩,
    ⟨(some 18), .mov (.t 1), (some (17, true)), []⟩,
    ⟨(some 19), .call (.c (.fn F_wall_Wall_May [])) [(.t 18), (.c (.d (.str [121]))), (.c (.d (.str [98])))], (some (17, true)), []⟩,
    ⟨(some 20), .pick (.t 17) (.t 19) (.c (.d (.bool false))), none, []⟩,
    ⟨(some 21), .mov (.t 20), none, []⟩,
    ⟨(some 22), .mov (.t 1), (some (21, true)), []⟩,
    ⟨(some 23), .call (.c (.fn F_wall_Wall_Seen [])) [(.t 22), (.c (.d (.str [120])))], (some (21, true)), []⟩,
    ⟨(some 24), .len .sl (.t 23), (some (21, true)), []⟩,
    ⟨(some 25), .bin .eql (.t 24) (.c (.d (.int .i64 (1)))), (some (21, true)), []⟩,
    ⟨(some 26), .pick (.t 21) (.t 25) (.c (.d (.bool false))), none, []⟩,
    ⟨(some 0), .mov (.t 26), none, []⟩] false)
  (.mask ⟨[0], []⟩ (.ret))))⟩
def mask_wall_New_0 : Mask := ⟨[3, 12, 13, 14], []⟩
def body_wall_New_0 : ACode :=
  .seq (.region 3 [
    ⟨(some 15), .bin .lss (.t 14) (.t 13), none, []⟩] false)
  (.seq (.cond (.t 15)
    (.skip)
    (.mask ⟨[3], []⟩ (.exit 0)))
  (.mask ⟨[3, 12, 13, 14], []⟩ (.seq (.block 1 (.seq (.region 4 [
    ⟨(some 16), .iaddr 2 (.t 12) (.t 14), none, []⟩,
    ⟨(some 17), .load 2 true (.t 16), none, []⟩,
    ⟨(some 5), .box 2 (.c (.agg [(.d (.str [])), (.d (.str []))])), none, []⟩,
    ⟨none, .store 2 (.t 5) (.t 17), none, []⟩] false)
  (.seq (.region 5 [
    ⟨(some 19), .mov (.t 3), none, []⟩,
    ⟨(some 20), .nilchk (.t 19), none, [0]⟩,
    ⟨(some 21), .faddr 0 (.t 20), none, [0, 1]⟩,
    ⟨(some 22), .load 1 false (.t 21), none, [0, 1, 2]⟩,
    ⟨(some 23), .faddr 0 (.t 5), none, []⟩,
    ⟨(some 24), .load 1 false (.t 23), none, [4]⟩,
    ⟨(some 25), .lookup false [.str] (.agg [(.d (.str []))]) (.t 22) (.t 24) true, none, [0, 1, 2, 3, 4, 5]⟩,
    ⟨(some 18), .mov (.t 25), none, [0, 1, 2, 3, 4, 5, 6]⟩,
    ⟨(some 26), .extract (.t 18) 0, none, [0, 1, 2, 3, 4, 5, 6, 7]⟩,
    ⟨(some 27), .extract (.t 18) 1, none, [0, 1, 2, 3, 4, 5, 6, 7]⟩,
    ⟨(some 6), .box 1 (.c (.agg [(.d (.str []))])), none, []⟩,
    ⟨none, .store 1 (.t 6) (.t 26), none, [0, 1, 2, 3, 4, 5, 6, 7, 8, 10]⟩,
    ⟨(some 7), .mov (.t 27), none, [0, 1, 2, 3, 4, 5, 6, 7, 8, 9, 10, 11]⟩] true)
  (.seq (.region 6 [
    ⟨(some 28), .mov (.t 7), none, []⟩,
    ⟨(some 29), .un .not (.t 28), none, []⟩] false)
  (.cond (.t 29)
    (.region 7 [
      ⟨(some 30), .mov (.t 3), none, []⟩,
      ⟨(some 31), .nilchk (.t 30), none, [0]⟩,
      ⟨(some 32), .faddr 0 (.t 31), none, [0, 1]⟩,
      ⟨(some 33), .load 1 false (.t 32), none, [0, 1, 2]⟩,
      ⟨(some 34), .faddr 0 (.t 5), none, []⟩,
      ⟨(some 35), .load 1 false (.t 34), none, [4]⟩,
      ⟨(some 36), .faddr 1 (.t 5), none, []⟩,
      ⟨(some 37), .load 1 false (.t 36), none, [6]⟩,
      ⟨(some 38), .build [(.d (.str []))] [(0, 1, (.t 37))], none, [6, 7]⟩,
      ⟨none, .mapupd false [.str] (.t 33) (.t 35) (.t 38), none, [0, 1, 2, 3, 4, 5, 6, 7, 8]⟩] true)
    (.skip))))))
  (.mask ⟨[3, 12, 13, 14], []⟩ (.region 8 [
    ⟨(some 39), .bin .add (.t 14) (.c (.d (.int .i64 (1)))), none, []⟩,
    ⟨(some 14), .mov (.t 39), none, []⟩] false)))))
/-- beadle/wall.New -/
def code_wall_New : AFunc := ⟨41, [.tmp 2],
  .seq (.region 0 [
    ⟨(some 2), .mov (.c (.d .nilp)), none, []⟩] false)
  (.seq (.region 1 [
    ⟨(some 8), .mkmap false [.str], none, []⟩,
    ⟨(some 9), .mkmap true [.str, .str], none, []⟩,
    ⟨(some 10), .build [(.d .nilm), (.d .nilm)] [(0, 1, (.t 8)), (1, 1, (.t 9))], none, []⟩,
    ⟨(some 11), .box 2 (.t 10), none, []⟩,
    ⟨(some 3), .mov (.t 11), none, []⟩] false)
  (.seq (.seq (.region 2 [
    ⟨(some 12), .mov (.t 0), none, []⟩,
    ⟨(some 13), .len .sl (.t 12), none, []⟩,
    ⟨(some 14), .mov (.c (.d (.int .i64 (0)))), none, []⟩] false)
  (.block 0 (.loop mask_wall_New_0 body_wall_New_0)))
  (.mask ⟨[3], []⟩ (.seq (.region 9 [
    ⟨(some 40), .mov (.t 3), none, []⟩,
    ⟨(some 2), .mov (.t 40), none, []⟩] false)
  (.mask ⟨[2], []⟩ (.ret))))))⟩
/-- beadle/beadlelaw33.few -/
def code_law33_few : AFunc := ⟨9, [.tmp 2],
  .seq (.region 0 [
    ⟨(some 2), .mov (.c (.d (.vs true []))), none, []⟩] false)
  (.seq (.seq (.region 1 [
    ⟨(some 3), .mov (.t 0), none, []⟩,
    ⟨(some 4), .len .sl (.t 3), none, []⟩,
    ⟨(some 5), .bin .gtr (.t 4) (.c (.d (.int .i64 (40)))), none, []⟩] false)
  (.cond (.t 5)
    (.seq (.region 2 [
      ⟨(some 6), .mov (.t 0), none, []⟩,
      ⟨(some 7), .slice 3 (.t 6) none (some (.c (.d (.int .i64 (40))))) none, none, []⟩,
      ⟨(some 2), .mov (.t 7), none, []⟩] false)
    (.mask ⟨[2], []⟩ (.ret)))
    (.skip)))
  (.mask ⟨[0], []⟩ (.seq (.region 3 [
    ⟨(some 8), .mov (.t 0), none, []⟩,
    ⟨(some 2), .mov (.t 8), none, []⟩] false)
  (.mask ⟨[2], []⟩ (.ret)))))⟩
def mask_law33_run_0 : Mask := ⟨[0, 1, 2, 3, 10, 11], []⟩
def body_law33_run_0 : ACode :=
  .seq (.seq (.region 3 [
    ⟨(some 12), .mov (.t 11), none, []⟩,
    ⟨(some 13), .mov (.t 3), none, []⟩,
    ⟨(some 14), .len .sl (.t 13), none, []⟩,
    ⟨(some 15), .bin .lss (.t 12) (.t 14), none, []⟩,
    ⟨(some 16), .mov (.t 15), none, []⟩,
    ⟨(some 17), .mov (.t 10), (some (16, true)), []⟩,
    ⟨(some 18), .pick (.t 16) (.t 17) (.c (.d (.bool false))), none, []⟩] false)
  (.mask ⟨[0, 1, 2, 3, 10, 11, 18], []⟩ (.cond (.t 18)
    (.skip)
    (.mask ⟨[2, 10], []⟩ (.exit 0)))))
  (.mask ⟨[0, 1, 2, 3, 11], []⟩ (.seq (.block 1 (.region 5 [
    ⟨(some 22), .mov (.t 0), none, []⟩,
    ⟨(some 23), .mov (.t 1), none, []⟩,
    ⟨(some 24), .mov (.t 2), none, []⟩,
    ⟨(some 25), .mov (.t 3), none, []⟩,
    ⟨(some 26), .mov (.t 11), none, []⟩,
    ⟨(some 27), .iaddr 3 (.t 25) (.t 26), none, []⟩,
    ⟨(some 28), .load 3 true (.t 27), none, []⟩,
    ⟨(some 29), .call (.c (.fn F_law33_step [])) [(.t 22), (.t 23), (.t 24), (.t 28)], none, []⟩,
    ⟨(some 21), .mov (.t 29), none, []⟩,
    ⟨(some 30), .extract (.t 21) 0, none, []⟩,
    ⟨(some 31), .extract (.t 21) 1, none, []⟩,
    ⟨(some 2), .mov (.t 30), none, []⟩,
    ⟨(some 10), .mov (.t 31), none, []⟩] false))
  (.mask ⟨[0, 1, 2, 3, 10, 11], []⟩ (.region 4 [
    ⟨(some 19), .mov (.t 11), none, []⟩,
    ⟨(some 20), .bin .add (.t 19) (.c (.d (.int .i64 (1)))), none, []⟩,
    ⟨(some 11), .mov (.t 20), none, []⟩] false))))
/-- beadle/beadlelaw33.run -/
def code_law33_run : AFunc := ⟨34, [.tmp 8, .tmp 9],
  .seq (.region 0 [
    ⟨(some 8), .mov (.c (.d (.vs true []))), none, []⟩,
    ⟨(some 9), .mov (.c (.d (.bool false))), none, []⟩] false)
  (.seq (.region 1 [
    ⟨(some 10), .mov (.c (.d (.bool true))), none, []⟩] false)
  (.seq (.seq (.region 2 [
    ⟨(some 11), .mov (.c (.d (.int .i64 (0)))), none, []⟩] false)
  (.block 0 (.loop mask_law33_run_0 body_law33_run_0)))
  (.mask ⟨[2, 10], []⟩ (.seq (.region 6 [
    ⟨(some 32), .mov (.t 2), none, []⟩,
    ⟨(some 33), .mov (.t 10), none, []⟩,
    ⟨(some 8), .mov (.t 32), none, []⟩,
    ⟨(some 9), .mov (.t 33), none, []⟩] false)
  (.mask ⟨[8, 9], []⟩ (.ret))))))⟩
def mask_wall_Wall_Forget_0 : Mask := ⟨[0, 1, 5, 10, 11, 12], []⟩
def body_wall_Wall_Forget_0 : ACode :=
  .seq (.region 3 [
    ⟨(some 13), .bin .lss (.t 12) (.t 11), none, []⟩] false)
  (.seq (.cond (.t 13)
    (.skip)
    (.mask ⟨[5], []⟩ (.exit 0)))
  (.mask ⟨[0, 1, 5, 10, 11, 12], []⟩ (.seq (.block 1 (.seq (.region 4 [
    ⟨(some 14), .iaddr 1 (.t 10) (.t 12), none, []⟩,
    ⟨(some 15), .load 1 false (.t 14), none, []⟩,
    ⟨(some 7), .mov (.t 15), none, []⟩] false)
  (.seq (.region 5 [
    ⟨(some 16), .mov (.t 0), none, []⟩,
    ⟨(some 17), .nilchk (.t 16), none, []⟩,
    ⟨(some 18), .faddr 1 (.t 17), none, []⟩,
    ⟨(some 19), .load 1 false (.t 18), none, []⟩,
    ⟨(some 20), .mov (.t 1), none, []⟩,
    ⟨(some 21), .mov (.t 7), none, []⟩,
    ⟨(some 22), .build [(.d (.str [])), (.d (.str []))] [(0, 1, (.t 20)), (1, 1, (.t 21))], none, []⟩,
    ⟨none, .delete true [.str, .str] (.t 19) (.t 22), none, []⟩] false)
  (.region 6 [
    ⟨(some 23), .mov (.t 5), none, []⟩,
    ⟨(some 24), .bin .add (.t 23) (.c (.d (.int .i64 (1)))), none, []⟩,
    ⟨(some 5), .mov (.t 24), none, []⟩] false))))
  (.mask ⟨[0, 1, 5, 10, 11, 12], []⟩ (.region 7 [
    ⟨(some 25), .bin .add (.t 12) (.c (.d (.int .i64 (1)))), none, []⟩,
    ⟨(some 12), .mov (.t 25), none, []⟩] false)))))
/-- (*beadle/wall.Wall).Forget -/
def code_wall_Wall_Forget : AFunc := ⟨27, [.tmp 4],
  .seq (.region 0 [
    ⟨(some 4), .mov (.c (.d (.int .i64 (0)))), none, []⟩] false)
  (.seq (.region 1 [
    ⟨(some 5), .mov (.c (.d (.int .i64 (0)))), none, []⟩] false)
  (.seq (.seq (.region 2 [
    ⟨(some 8), .mov (.t 0), none, []⟩,
    ⟨(some 9), .mov (.t 1), none, []⟩,
    ⟨(some 10), .call (.c (.fn F_wall_Wall_Seen [])) [(.t 8), (.t 9)], none, []⟩,
    ⟨(some 11), .len .sl (.t 10), none, []⟩,
    ⟨(some 12), .mov (.c (.d (.int .i64 (0)))), none, []⟩] false)
  (.block 0 (.loop mask_wall_Wall_Forget_0 body_wall_Wall_Forget_0)))
  (.mask ⟨[5], []⟩ (.seq (.region 8 [
    ⟨(some 26), .mov (.t 5), none, []⟩,
    ⟨(some 4), .mov (.t 26), none, []⟩] false)
  (.mask ⟨[4], []⟩ (.ret))))))⟩
/-- (*beadle/wall.Wall).See -/
def rcode_wall_Wall_See : RFunc := ⟨23, [.tmp 6],
  .seq (.code (.region 0 [
    ⟨(some 6), .mov (.c (.d (.bool false))), none, []⟩] false))
  (.seq (.code (.seq (.region 1 [
    ⟨(some 7), .mov (.t 0), none, []⟩,
    ⟨(some 8), .mov (.t 1), none, []⟩,
    ⟨(some 9), .mov (.t 2), none, []⟩,
    ⟨(some 10), .call (.c (.fn F_wall_Wall_May [])) [(.t 7), (.t 8), (.t 9)], none, []⟩,
    ⟨(some 11), .un .not (.t 10), none, []⟩] false)
  (.cond (.t 11)
    (.seq (.region 2 [
      ⟨(some 6), .mov (.c (.d (.bool false))), none, []⟩] false)
    (.mask ⟨[6], []⟩ (.ret)))
    (.skip))))
  (.mask ⟨[0, 1, 2], []⟩ (.seq (.bump ⟨1, true, [.str, .str], 0, 1, 1, 1⟩)
  (.code (.seq (.region 4 [
    ⟨(some 6), .mov (.c (.d (.bool true))), none, []⟩] false)
  (.mask ⟨[6], []⟩ (.ret)))))))⟩
def each_wall_Wall_Seen_0 : Each where
  rid := 4
  ops := [
    ⟨(some 10), .mov (.t 0), none, []⟩,
    ⟨(some 11), .nilchk (.t 10), none, []⟩,
    ⟨(some 12), .faddr 1 (.t 11), none, []⟩,
    ⟨(some 13), .load 1 false (.t 12), none, []⟩]
  x := (.t 13)
  it := 14
  bid := 0
  mask := ⟨[1, 5, 14], [.slot 5 10000050 1]⟩
  nx := 15
  ok := 16
  endM := ⟨[5], [.slot 5 10000050 1]⟩
  bodyM := ⟨[1, 5, 14], [.slot 5 10000050 1]⟩
  bid2 := 1
  en := 17
  rid2 := 6
  ops2 := [
    ⟨(some 18), .extract (.t 17) 0, none, []⟩,
    ⟨(some 6), .box 2 (.c (.agg [(.d (.str [])), (.d (.str []))])), none, []⟩,
    ⟨none, .store 2 (.t 6) (.t 18), none, []⟩]
  rest := (.seq (.region 7 [
    ⟨(some 19), .faddr 0 (.t 6), none, []⟩,
    ⟨(some 20), .load 1 false (.t 19), none, []⟩,
    ⟨(some 21), .mov (.t 1), none, []⟩,
    ⟨(some 22), .bin .eql (.t 20) (.t 21), none, []⟩] false)
  (.cond (.t 22)
    (.region 8 [
      ⟨(some 23), .mov (.t 5), none, []⟩,
      ⟨(some 24), .faddr 1 (.t 6), none, []⟩,
      ⟨(some 25), .load 1 false (.t 24), none, []⟩,
      ⟨(some 26), .buildSl 1 [(.str [])] 1 [(0, (.t 25))], none, []⟩,
      ⟨(some 27), .append 1 (.t 23) (.t 26), none, []⟩,
      ⟨(some 5), .mov (.t 27), none, []⟩] false)
    (.skip)))
/-- (*beadle/wall.Wall).Seen -/
def rcode_wall_Wall_Seen : RFunc := ⟨31, [.tmp 4],
  .seq (.code (.region 0 [
    ⟨(some 4), .mov (.c (.d (.vs true []))), none, []⟩] false))
  (.seq (.code (.seq (.region 1 [
    ⟨(some 7), .mov (.t 0), none, []⟩,
    ⟨(some 8), .call (.c (.fn F_wall_Wall_is [])) [(.t 7)], none, []⟩,
    ⟨(some 9), .un .not (.t 8), none, []⟩] false)
  (.cond (.t 9)
    (.seq (.region 2 [
      ⟨(some 4), .mov (.c (.d (.vs true []))), none, []⟩] false)
    (.mask ⟨[4], [.slot 4 10000040 1]⟩ (.ret)))
    (.skip))))
  (.mask ⟨[0, 1], []⟩ (.seq (.code (.region 3 [
    ⟨(some 5), .mov (.c (.d (.vs true []))), none, []⟩] false))
  (.seq (.each each_wall_Wall_Seen_0)
  (.code (.mask ⟨[5], [.slot 5 10000050 1]⟩ (.seq (.region 9 [
    ⟨(some 28), .mov (.t 5), none, []⟩,
    ⟨(some 29), .call (.c (.fn F_slices_Sort_string_string [])) [(.t 28)], none, []⟩] false)
  (.seq (.region 10 [
    ⟨(some 30), .mov (.t 5), none, []⟩,
    ⟨(some 4), .mov (.t 30), none, []⟩] false)
  (.mask ⟨[4], [.slot 4 10000040 1]⟩ (.ret))))))))))⟩
def mask_law33_clash_0 : Mask := ⟨[0, 1, 5, 6], []⟩
def body_law33_clash_0 : ACode :=
  .seq (.seq (.region 5 [
    ⟨(some 13), .mov (.t 6), none, []⟩,
    ⟨(some 14), .mov (.t 5), none, []⟩,
    ⟨(some 15), .bin .lss (.t 13) (.t 14), none, []⟩] false)
  (.cond (.t 15)
    (.skip)
    (.mask ⟨[0, 1, 5], []⟩ (.exit 2))))
  (.mask ⟨[0, 1, 5, 6], []⟩ (.seq (.block 3 (.seq (.region 7 [
    ⟨(some 18), .mov (.t 0), none, []⟩,
    ⟨(some 19), .mov (.t 1), none, []⟩,
    ⟨(some 20), .mov (.t 5), none, []⟩,
    ⟨(some 21), .iaddr 1 (.t 19) (.t 20), none, [1, 2]⟩,
    ⟨(some 22), .load 1 false (.t 21), none, [1, 2, 3]⟩,
    ⟨(some 23), .mov (.t 1), none, []⟩,
    ⟨(some 24), .mov (.t 6), none, []⟩,
    ⟨(some 25), .iaddr 1 (.t 23) (.t 24), none, [5, 6]⟩,
    ⟨(some 26), .load 1 false (.t 25), none, [5, 6, 7]⟩,
    ⟨(some 27), .call (.c (.fn F_law33_foes [])) [(.t 18), (.t 22), (.t 26)], none, [0, 1, 2, 3, 4, 5, 6, 7, 8]⟩] true)
  (.cond (.t 27)
    (.seq (.region 8 [
      ⟨(some 4), .mov (.c (.d (.bool true))), none, []⟩] false)
    (.mask ⟨[4], []⟩ (.ret)))
    (.skip))))
  (.mask ⟨[0, 1, 5, 6], []⟩ (.region 6 [
    ⟨(some 16), .mov (.t 6), none, []⟩,
    ⟨(some 17), .bin .add (.t 16) (.c (.d (.int .i64 (1)))), none, []⟩,
    ⟨(some 6), .mov (.t 17), none, []⟩] false))))
def mask_law33_clash_1 : Mask := ⟨[0, 1, 5], []⟩
def body_law33_clash_1 : ACode :=
  .seq (.seq (.region 2 [
    ⟨(some 7), .mov (.t 5), none, []⟩,
    ⟨(some 8), .mov (.t 1), none, []⟩,
    ⟨(some 9), .len .sl (.t 8), none, []⟩,
    ⟨(some 10), .bin .lss (.t 7) (.t 9), none, []⟩] false)
  (.cond (.t 10)
    (.skip)
    (.mask ⟨[], []⟩ (.exit 0))))
  (.mask ⟨[0, 1, 5], []⟩ (.seq (.block 1 (.seq (.region 4 [
    ⟨(some 6), .mov (.c (.d (.int .i64 (0)))), none, []⟩] false)
  (.block 2 (.loop mask_law33_clash_0 body_law33_clash_0))))
  (.mask ⟨[0, 1, 5], []⟩ (.region 3 [
    ⟨(some 11), .mov (.t 5), none, []⟩,
    ⟨(some 12), .bin .add (.t 11) (.c (.d (.int .i64 (1)))), none, []⟩,
    ⟨(some 5), .mov (.t 12), none, []⟩] false))))
/-- beadle/beadlelaw33.clash -/
def code_law33_clash : AFunc := ⟨28, [.tmp 4],
  .seq (.region 0 [
    ⟨(some 4), .mov (.c (.d (.bool false))), none, []⟩] false)
  (.seq (.seq (.region 1 [
    ⟨(some 5), .mov (.c (.d (.int .i64 (0)))), none, []⟩] false)
  (.block 0 (.loop mask_law33_clash_1 body_law33_clash_1)))
  (.mask ⟨[], []⟩ (.seq (.region 9 [
    ⟨(some 4), .mov (.c (.d (.bool false))), none, []⟩] false)
  (.mask ⟨[4], []⟩ (.ret)))))⟩
def mask_wall_Wall_Leak_0 : Mask := ⟨[3, 7, 17, 18, 19], [.fslot 7, .fslot 17]⟩
def body_wall_Wall_Leak_0 : ACode :=
  .seq (.region 3 [
    ⟨(some 20), .bin .lss (.t 19) (.t 18), none, []⟩] false)
  (.mask ⟨[3, 7, 17, 18, 19, 20], [.fslot 7, .fslot 17]⟩ (.seq (.cond (.t 20)
    (.skip)
    (.mask ⟨[], []⟩ (.exit 0)))
  (.mask ⟨[3, 7, 17, 18, 19], [.fslot 7, .fslot 17]⟩ (.seq (.block 1 (.seq (.region 4 [
    ⟨(some 21), .mov (.t 19), none, []⟩,
    ⟨(some 22), .iaddr 1 (.t 17) (.t 19), none, []⟩,
    ⟨(some 23), .load 1 false (.t 22), none, []⟩,
    ⟨(some 9), .box 1 (.c (.d (.str []))), none, []⟩,
    ⟨(some 8), .mov (.t 21), none, []⟩,
    ⟨none, .store 1 (.t 9) (.t 23), none, []⟩] false)
  (.mask ⟨[3, 7, 8, 9, 17, 18, 19], [.fslot 7, .fslot 17]⟩ (.seq (.region 5 [
    ⟨(some 24), .mov (.t 7), none, []⟩,
    ⟨(some 25), .mov (.t 8), none, []⟩,
    ⟨(some 26), .slice 1 (.t 24) none (some (.t 25)) none, none, []⟩,
    ⟨(some 27), .mkfn F_wall_Wall_Leak_1 [(.t 3), (.t 9)], none, []⟩,
    ⟨(some 28), .call (.c (.fn F_slices_ContainsFunc_string_string [])) [(.t 26), (.t 27)], none, []⟩] false)
  (.mask ⟨[3, 7, 17, 18, 19, 28], [.fslot 7, .fslot 17]⟩ (.cond (.t 28)
    (.seq (.region 6 [
      ⟨(some 6), .mov (.c (.d (.bool true))), none, []⟩] false)
    (.mask ⟨[6], []⟩ (.ret)))
    (.skip)))))))
  (.mask ⟨[3, 7, 17, 18, 19], [.fslot 7, .fslot 17]⟩ (.region 7 [
    ⟨(some 29), .bin .add (.t 19) (.c (.d (.int .i64 (1)))), none, []⟩,
    ⟨(some 19), .mov (.t 29), none, []⟩] false))))))
/-- (*beadle/wall.Wall).Leak -/
def code_wall_Wall_Leak : AFunc := ⟨30, [.tmp 6],
  .seq (.region 0 [
    ⟨(some 3), .box 1 (.t 0), none, []⟩,
    ⟨(some 6), .mov (.c (.d (.bool false))), none, []⟩] false)
  (.mask ⟨[1, 2, 3], []⟩ (.seq (.region 1 [
    ⟨(some 10), .load 1 false (.t 3), none, []⟩,
    ⟨(some 11), .mov (.t 1), none, []⟩,
    ⟨(some 12), .call (.c (.fn F_wall_Wall_Seen [])) [(.t 10), (.t 11)], none, [0, 1]⟩,
    ⟨(some 13), .load 1 false (.t 3), none, []⟩,
    ⟨(some 14), .mov (.t 2), none, []⟩,
    ⟨(some 15), .call (.c (.fn F_wall_Wall_Seen [])) [(.t 13), (.t 14)], none, [0, 1, 2, 3, 4]⟩,
    ⟨(some 16), .append 1 (.t 12) (.t 15), none, [0, 1, 2, 3, 4, 5]⟩,
    ⟨(some 7), .mov (.t 16), none, [0, 1, 2, 3, 4, 5, 6]⟩] true)
  (.mask ⟨[3, 7], [.fslot 7]⟩ (.seq (.seq (.region 2 [
    ⟨(some 17), .mov (.t 7), none, []⟩,
    ⟨(some 18), .len .sl (.t 17), none, []⟩,
    ⟨(some 19), .mov (.c (.d (.int .i64 (0)))), none, []⟩] false)
  (.mask ⟨[3, 7, 17, 18, 19], [.fslot 7, .fslot 17]⟩ (.block 0 (.loop mask_wall_Wall_Leak_0 body_wall_Wall_Leak_0))))
  (.mask ⟨[], []⟩ (.seq (.region 8 [
    ⟨(some 6), .mov (.c (.d (.bool false))), none, []⟩] false)
  (.mask ⟨[6], []⟩ (.ret))))))))⟩
/-- (*beadle/wall.Wall).May -/
def code_wall_Wall_May : AFunc := ⟨16, [.tmp 6],
  .seq (.region 0 [
    ⟨(some 3), .box 1 (.t 0), none, []⟩,
    ⟨(some 5), .box 1 (.t 2), none, []⟩,
    ⟨(some 6), .mov (.c (.d (.bool false))), none, []⟩] false)
  (.seq (.seq (.region 1 [
    ⟨(some 7), .load 1 false (.t 3), none, []⟩,
    ⟨(some 8), .call (.c (.fn F_wall_Wall_is [])) [(.t 7)], none, []⟩,
    ⟨(some 9), .un .not (.t 8), none, []⟩] false)
  (.cond (.t 9)
    (.seq (.region 2 [
      ⟨(some 6), .mov (.c (.d (.bool false))), none, []⟩] false)
    (.mask ⟨[6], []⟩ (.ret)))
    (.skip)))
  (.mask ⟨[1, 3, 5], []⟩ (.seq (.region 3 [
    ⟨(some 10), .load 1 false (.t 3), none, []⟩,
    ⟨(some 11), .mov (.t 1), none, []⟩,
    ⟨(some 12), .call (.c (.fn F_wall_Wall_Seen [])) [(.t 10), (.t 11)], none, []⟩,
    ⟨(some 13), .mkfn F_wall_Wall_May_1 [(.t 3), (.t 5)], none, []⟩,
    ⟨(some 14), .call (.c (.fn F_slices_ContainsFunc_string_string [])) [(.t 12), (.t 13)], none, []⟩,
    ⟨(some 15), .un .not (.t 14), none, []⟩,
    ⟨(some 6), .mov (.t 15), none, []⟩] false)
  (.mask ⟨[6], []⟩ (.ret)))))⟩
/-- beadle/beadlelaw33.foes -/
def code_law33_foes : AFunc := ⟨37, [.tmp 6],
  .seq (.region 0 [
    ⟨(some 6), .mov (.c (.d (.bool false))), none, []⟩] false)
  (.seq (.region 1 [
    ⟨(some 12), .mov (.t 0), none, []⟩,
    ⟨(some 13), .mov (.t 1), none, []⟩,
    ⟨(some 14), .call (.c (.fn F_law33_class [])) [(.t 12), (.t 13)], none, []⟩,
    ⟨(some 11), .mov (.t 14), none, []⟩,
    ⟨(some 15), .extract (.t 11) 0, none, []⟩,
    ⟨(some 16), .extract (.t 11) 1, none, []⟩,
    ⟨(some 7), .mov (.t 15), none, []⟩,
    ⟨(some 8), .mov (.t 16), none, []⟩] false)
  (.seq (.region 2 [
    ⟨(some 18), .mov (.t 0), none, []⟩,
    ⟨(some 19), .mov (.t 2), none, []⟩,
    ⟨(some 20), .call (.c (.fn F_law33_class [])) [(.t 18), (.t 19)], none, []⟩,
    ⟨(some 17), .mov (.t 20), none, []⟩,
    ⟨(some 21), .extract (.t 17) 0, none, []⟩,
    ⟨(some 22), .extract (.t 17) 1, none, []⟩,
    ⟨(some 9), .mov (.t 21), none, []⟩,
    ⟨(some 10), .mov (.t 22), none, []⟩] false)
  (.seq (.region 3 [
    ⟨(some 23), .mov (.t 1), none, []⟩,
    ⟨(some 24), .mov (.t 2), none, []⟩,
    ⟨(some 25), .bin .neq (.t 23) (.t 24), none, []⟩,
    ⟨(some 26), .mov (.t 25), none, []⟩,
    ⟨(some 27), .mov (.t 8), (some (26, true)), []⟩,
    ⟨(some 28), .pick (.t 26) (.t 27) (.c (.d (.bool false))), none, []⟩,
    ⟨(some 29), .mov (.t 28), none, []⟩,
    ⟨(some 30), .mov (.t 10), (some (29, true)), []⟩,
    ⟨(some 31), .pick (.t 29) (.t 30) (.c (.d (.bool false))), none, []⟩,
    ⟨(some 32), .mov (.t 31), none, []⟩,
    ⟨(some 33), .mov (.t 7), (some (32, true)), []⟩,
    ⟨(some 34), .mov (.t 9), (some (32, true)), []⟩,
    ⟨(some 35), .bin .eql (.t 33) (.t 34), (some (32, true)), []⟩,
    ⟨(some 36), .pick (.t 32) (.t 35) (.c (.d (.bool false))), none, []⟩,
    ⟨(some 6), .mov (.t 36), none, []⟩] false)
  (.mask ⟨[6], []⟩ (.ret)))))⟩
/-- (*beadle/wall.Wall).Clone -/
def code_wall_Wall_Clone : AFunc := ⟨18, [.tmp 2],
  .seq (.region 0 [
    ⟨(some 2), .mov (.c (.d .nilp)), none, []⟩] false)
  (.seq (.seq (.region 1 [
    ⟨(some 3), .mov (.t 0), none, []⟩,
    ⟨(some 4), .call (.c (.fn F_wall_Wall_is [])) [(.t 3)], none, []⟩,
    ⟨(some 5), .un .not (.t 4), none, []⟩] false)
  (.cond (.t 5)
    (.seq (.region 2 [
      ⟨(some 2), .mov (.c (.d .nilp)), none, []⟩] false)
    (.mask ⟨[2], []⟩ (.ret)))
    (.skip)))
  (.mask ⟨[0], []⟩ (.seq (.region 3 [
    ⟨(some 6), .mov (.t 0), none, []⟩,
    ⟨(some 7), .nilchk (.t 6), none, [0]⟩,
    ⟨(some 8), .faddr 0 (.t 7), none, [0, 1]⟩,
    ⟨(some 9), .load 1 false (.t 8), none, [0, 1, 2]⟩,
    ⟨(some 10), .call (.c (.fn F_maps_Clone_map_string_wall_class_string_wall_class [])) [(.t 9)], none, [0, 1, 2, 3]⟩,
    ⟨(some 11), .mov (.t 0), none, []⟩,
    ⟨(some 12), .nilchk (.t 11), none, [5]⟩,
    ⟨(some 13), .faddr 1 (.t 12), none, [5, 6]⟩,
    ⟨(some 14), .load 1 false (.t 13), none, [5, 6, 7]⟩,
    ⟨(some 15), .call (.c (.fn F_maps_Clone_map_wall_sight_int_wall_sight_int [])) [(.t 14)], none, [0, 1, 2, 3, 4, 5, 6, 7, 8]⟩,
    ⟨(some 16), .build [(.d .nilm), (.d .nilm)] [(0, 1, (.t 10)), (1, 1, (.t 15))], none, [0, 1, 2, 3, 4, 5, 6, 7, 8, 9]⟩,
    ⟨(some 17), .box 2 (.t 16), none, [0, 1, 2, 3, 4, 5, 6, 7, 8, 9, 10]⟩,
    ⟨(some 2), .mov (.t 17), none, [0, 1, 2, 3, 4, 5, 6, 7, 8, 9, 10, 11]⟩] true)
  (.mask ⟨[2], []⟩ (.ret)))))⟩
def mask_law33_step_0 : Mask := ⟨[0, 2, 7, 10, 12], [.slot 2 10000020 2, .slot 10 10000100 2]⟩
def body_law33_step_0 : ACode :=
  .seq (.seq (.region 12 [
    ⟨(some 60), .mov (.t 12), none, []⟩,
    ⟨(some 61), .mov (.t 2), none, []⟩,
    ⟨(some 62), .len .sl (.t 61), none, []⟩,
    ⟨(some 63), .bin .lss (.t 60) (.t 62), none, []⟩] false)
  (.cond (.t 63)
    (.skip)
    (.mask ⟨[0, 2, 7, 10], [.slot 2 10000020 2, .slot 10 10000100 2]⟩ (.exit 0))))
  (.mask ⟨[0, 2, 7, 10, 12], [.slot 2 10000020 2, .slot 10 10000100 2]⟩ (.seq (.block 1 (.seq (.region 14 [
    ⟨(some 66), .mov (.t 2), none, []⟩,
    ⟨(some 67), .mov (.t 12), none, []⟩,
    ⟨(some 68), .iaddr 2 (.t 66) (.t 67), none, [0, 1]⟩,
    ⟨(some 69), .faddr 0 (.t 68), none, [0, 1, 2]⟩,
    ⟨(some 70), .load 1 false (.t 69), none, [0, 1, 2, 3]⟩,
    ⟨(some 71), .faddr 1 (.t 7), none, []⟩,
    ⟨(some 72), .load 1 false (.t 71), none, [5]⟩,
    ⟨(some 73), .bin .neq (.t 70) (.t 72), none, [0, 1, 2, 3, 4, 5, 6]⟩] true)
  (.cond (.t 73)
    (.region 15 [
      ⟨(some 74), .mov (.t 10), none, []⟩,
      ⟨(some 75), .mov (.t 2), none, []⟩,
      ⟨(some 76), .mov (.t 12), none, []⟩,
      ⟨(some 77), .iaddr 2 (.t 75) (.t 76), none, []⟩,
      ⟨(some 78), .load 2 true (.t 77), none, []⟩,
      ⟨(some 79), .buildSl 2 [(.str []), (.str [])] 1 [(0, (.t 78))], none, []⟩,
      ⟨(some 80), .append 2 (.t 74) (.t 79), none, []⟩,
      ⟨(some 10), .mov (.t 80), none, []⟩] false)
    (.skip))))
  (.mask ⟨[0, 2, 7, 10, 12], [.slot 2 10000020 2, .slot 10 10000100 2]⟩ (.region 13 [
    ⟨(some 64), .mov (.t 12), none, []⟩,
    ⟨(some 65), .bin .add (.t 64) (.c (.d (.int .i64 (1)))), none, []⟩,
    ⟨(some 12), .mov (.t 65), none, []⟩] false))))
/-- beadle/beadlelaw33.step -/
def code_law33_step : AFunc := ⟨128, [.tmp 8, .tmp 9],
  .seq (.region 0 [
    ⟨(some 7), .box 3 (.t 3), none, []⟩,
    ⟨(some 8), .mov (.c (.d (.vs true []))), none, []⟩,
    ⟨(some 9), .mov (.c (.d (.bool false))), none, []⟩] false)
  (.seq (.region 1 [
    ⟨(some 10), .mov (.c (.d (.vs true []))), none, []⟩] false)
  (.seq (.seq (.region 2 [
    ⟨(some 14), .faddr 0 (.t 7), none, []⟩,
    ⟨(some 15), .load 1 false (.t 14), none, []⟩,
    ⟨(some 16), .bin .eql (.t 15) (.c (.d (.int .i64 (1)))), none, []⟩] false)
  (.cond (.t 16)
    (.seq (.region 3 [
      ⟨(some 17), .mov (.t 2), none, []⟩,
      ⟨(some 18), .mov (.t 0), none, []⟩,
      ⟨(some 19), .faddr 1 (.t 7), none, []⟩,
      ⟨(some 20), .load 1 false (.t 19), none, [2]⟩,
      ⟨(some 21), .faddr 2 (.t 7), none, []⟩,
      ⟨(some 22), .load 1 false (.t 21), none, [4]⟩,
      ⟨(some 23), .call (.c (.fn F_wall_Wall_May [])) [(.t 18), (.t 20), (.t 22)], none, [1, 2, 3, 4, 5]⟩,
      ⟨(some 24), .mov (.t 1), none, []⟩,
      ⟨(some 25), .mov (.t 2), none, []⟩,
      ⟨(some 26), .load 3 true (.t 7), none, []⟩,
      ⟨(some 27), .call (.c (.fn F_law33_may [])) [(.t 24), (.t 25), (.t 26)], none, [1, 2, 3, 4, 5, 6, 7, 8, 9]⟩,
      ⟨(some 28), .binb false (.t 23) (.t 27), none, [1, 2, 3, 4, 5, 6, 7, 8, 9, 10]⟩,
      ⟨(some 8), .mov (.t 17), none, [0, 1, 2, 3, 4, 5, 6, 7, 8, 9, 10]⟩,
      ⟨(some 9), .mov (.t 28), none, [0, 1, 2, 3, 4, 5, 6, 7, 8, 9, 10, 11, 12]⟩] true)
    (.mask ⟨[8, 9], [.slot 8 10000080 2]⟩ (.ret)))
    (.skip)))
  (.mask ⟨[0, 1, 2, 7, 10], [.slot 2 10000020 2, .slot 10 10000100 2]⟩ (.seq (.seq (.region 4 [
    ⟨(some 29), .faddr 0 (.t 7), none, []⟩,
    ⟨(some 30), .load 1 false (.t 29), none, []⟩,
    ⟨(some 31), .bin .eql (.t 30) (.c (.d (.int .i64 (2)))), none, []⟩] false)
  (.cond (.t 31)
    (.seq (.region 5 [
      ⟨(some 32), .mov (.t 1), none, []⟩,
      ⟨(some 33), .mov (.t 2), none, []⟩,
      ⟨(some 34), .load 3 true (.t 7), none, []⟩,
      ⟨(some 35), .call (.c (.fn F_law33_may [])) [(.t 32), (.t 33), (.t 34)], none, []⟩,
      ⟨(some 11), .mov (.t 35), none, []⟩] false)
    (.seq (.region 6 [
      ⟨(some 36), .mov (.t 10), none, []⟩,
      ⟨(some 37), .mov (.t 2), none, []⟩,
      ⟨(some 38), .append 2 (.t 36) (.t 37), none, []⟩,
      ⟨(some 10), .mov (.t 38), none, []⟩] false)
    (.seq (.seq (.region 7 [
      ⟨(some 39), .mov (.t 11), none, []⟩] false)
    (.cond (.t 39)
      (.region 8 [
        ⟨(some 40), .mov (.t 10), none, []⟩,
        ⟨(some 41), .faddr 1 (.t 7), none, []⟩,
        ⟨(some 42), .load 1 false (.t 41), none, []⟩,
        ⟨(some 43), .faddr 2 (.t 7), none, []⟩,
        ⟨(some 44), .load 1 false (.t 43), none, []⟩,
        ⟨(some 45), .build [(.d (.str [])), (.d (.str []))] [(0, 1, (.t 42)), (1, 1, (.t 44))], none, []⟩,
        ⟨(some 46), .buildSl 2 [(.str []), (.str [])] 1 [(0, (.t 45))], none, []⟩,
        ⟨(some 47), .append 2 (.t 40) (.t 46), none, []⟩,
        ⟨(some 10), .mov (.t 47), none, []⟩] false)
      (.skip)))
    (.mask ⟨[0, 7, 10, 11], [.slot 10 10000100 2]⟩ (.seq (.region 9 [
      ⟨(some 48), .mov (.t 10), none, []⟩,
      ⟨(some 49), .mov (.t 0), none, []⟩,
      ⟨(some 50), .faddr 1 (.t 7), none, []⟩,
      ⟨(some 51), .load 1 false (.t 50), none, []⟩,
      ⟨(some 52), .faddr 2 (.t 7), none, []⟩,
      ⟨(some 53), .load 1 false (.t 52), none, []⟩,
      ⟨(some 54), .call (.c (.fn F_wall_Wall_See [])) [(.t 49), (.t 51), (.t 53)], none, []⟩,
      ⟨(some 55), .mov (.t 11), none, []⟩,
      ⟨(some 56), .binb false (.t 54) (.t 55), none, []⟩,
      ⟨(some 8), .mov (.t 48), none, []⟩,
      ⟨(some 9), .mov (.t 56), none, []⟩] false)
    (.mask ⟨[8, 9], [.slot 8 10000080 2]⟩ (.ret)))))))
    (.skip)))
  (.mask ⟨[0, 1, 2, 7, 10], [.slot 2 10000020 2, .slot 10 10000100 2]⟩ (.seq (.seq (.region 10 [
    ⟨(some 57), .faddr 0 (.t 7), none, []⟩,
    ⟨(some 58), .load 1 false (.t 57), none, []⟩,
    ⟨(some 59), .bin .eql (.t 58) (.c (.d (.int .i64 (3)))), none, []⟩] false)
  (.cond (.t 59)
    (.seq (.seq (.region 11 [
      ⟨(some 12), .mov (.c (.d (.int .i64 (0)))), none, []⟩] false)
    (.block 0 (.loop mask_law33_step_0 body_law33_step_0)))
    (.mask ⟨[0, 2, 7, 10], [.slot 2 10000020 2, .slot 10 10000100 2]⟩ (.seq (.region 16 [
      ⟨(some 81), .mov (.t 10), none, []⟩,
      ⟨(some 82), .mov (.t 0), none, []⟩,
      ⟨(some 83), .faddr 1 (.t 7), none, []⟩,
      ⟨(some 84), .load 1 false (.t 83), none, [2]⟩,
      ⟨(some 85), .call (.c (.fn F_wall_Wall_Forget [])) [(.t 82), (.t 84)], none, [1, 2, 3]⟩,
      ⟨(some 86), .mov (.t 2), none, []⟩,
      ⟨(some 87), .faddr 1 (.t 7), none, []⟩,
      ⟨(some 88), .load 1 false (.t 87), none, [6]⟩,
      ⟨(some 89), .call (.c (.fn F_law33_of [])) [(.t 86), (.t 88)], none, [1, 2, 3, 4, 5, 6, 7]⟩,
      ⟨(some 90), .len .sl (.t 89), none, [1, 2, 3, 4, 5, 6, 7, 8]⟩,
      ⟨(some 91), .bin .eql (.t 85) (.t 90), none, [1, 2, 3, 4, 5, 6, 7, 8, 9]⟩,
      ⟨(some 8), .mov (.t 81), none, [0, 1, 2, 3, 4, 5, 6, 7, 8]⟩,
      ⟨(some 9), .mov (.t 91), none, [0, 1, 2, 3, 4, 5, 6, 7, 8, 9, 10, 11]⟩] true)
    (.mask ⟨[8, 9], [.slot 8 10000080 2]⟩ (.ret)))))
    (.skip)))
  (.mask ⟨[0, 1, 2, 7], [.slot 2 10000020 2]⟩ (.seq (.seq (.region 17 [
    ⟨(some 92), .faddr 0 (.t 7), none, []⟩,
    ⟨(some 93), .load 1 false (.t 92), none, []⟩,
    ⟨(some 94), .bin .eql (.t 93) (.c (.d (.int .i64 (4)))), none, []⟩] false)
  (.cond (.t 94)
    (.seq (.region 18 [
      ⟨(some 95), .mov (.t 2), none, []⟩,
      ⟨(some 96), .mov (.t 0), none, []⟩,
      ⟨(some 97), .faddr 1 (.t 7), none, []⟩,
      ⟨(some 98), .load 1 false (.t 97), none, [2]⟩,
      ⟨(some 99), .call (.c (.fn F_wall_Wall_Seen [])) [(.t 96), (.t 98)], none, [1, 2, 3]⟩,
      ⟨(some 100), .mov (.t 2), none, []⟩,
      ⟨(some 101), .faddr 1 (.t 7), none, []⟩,
      ⟨(some 102), .load 1 false (.t 101), none, [6]⟩,
      ⟨(some 103), .call (.c (.fn F_law33_of [])) [(.t 100), (.t 102)], none, [1, 2, 3, 4, 5, 6, 7]⟩,
      ⟨(some 104), .call (.c (.fn F_plain_Texts [])) [(.t 99), (.t 103)], none, [1, 2, 3, 4, 5, 6, 7, 8]⟩,
      ⟨(some 8), .mov (.t 95), none, [0, 1, 2, 3, 4, 5, 6, 7, 8, 9]⟩,
      ⟨(some 9), .mov (.t 104), none, [0, 1, 2, 3, 4, 5, 6, 7, 8, 9, 10]⟩] true)
    (.mask ⟨[8, 9], [.slot 8 10000080 2]⟩ (.ret)))
    (.skip)))
  (.mask ⟨[0, 1, 2, 7], [.slot 2 10000020 2]⟩ (.seq (.region 19 [
    ⟨(some 13), .mov (.c (.d (.vs true []))), none, []⟩] false)
  (.seq (.region 20 [
    ⟨(some 105), .mov (.t 13), none, []⟩,
    ⟨(some 106), .mov (.t 2), none, []⟩,
    ⟨(some 107), .faddr 1 (.t 7), none, []⟩,
    ⟨(some 108), .load 1 false (.t 107), none, []⟩,
    ⟨(some 109), .call (.c (.fn F_law33_of [])) [(.t 106), (.t 108)], none, []⟩,
    ⟨(some 110), .append 1 (.t 105) (.t 109), none, []⟩,
    ⟨(some 13), .mov (.t 110), none, []⟩] false)
  (.seq (.region 21 [
    ⟨(some 111), .mov (.t 13), none, []⟩,
    ⟨(some 112), .mov (.t 2), none, []⟩,
    ⟨(some 113), .faddr 2 (.t 7), none, []⟩,
    ⟨(some 114), .load 1 false (.t 113), none, []⟩,
    ⟨(some 115), .call (.c (.fn F_law33_of [])) [(.t 112), (.t 114)], none, []⟩,
    ⟨(some 116), .append 1 (.t 111) (.t 115), none, []⟩,
    ⟨(some 13), .mov (.t 116), none, []⟩] false)
  (.seq (.region 22 [
    ⟨(some 117), .mov (.t 2), none, []⟩,
    ⟨(some 118), .mov (.t 0), none, []⟩,
    ⟨(some 119), .faddr 1 (.t 7), none, []⟩,
    ⟨(some 120), .load 1 false (.t 119), none, []⟩,
    ⟨(some 121), .faddr 2 (.t 7), none, []⟩,
    ⟨(some 122), .load 1 false (.t 121), none, []⟩,
    ⟨(some 123), .call (.c (.fn F_wall_Wall_Leak [])) [(.t 118), (.t 120), (.t 122)], none, []⟩,
    ⟨(some 124), .mov (.t 1), none, []⟩,
    ⟨(some 125), .mov (.t 13), none, []⟩,
    ⟨(some 126), .call (.c (.fn F_law33_clash [])) [(.t 124), (.t 125)], none, []⟩,
    ⟨(some 127), .binb false (.t 123) (.t 126), none, []⟩,
    ⟨(some 8), .mov (.t 117), none, []⟩,
    ⟨(some 9), .mov (.t 127), none, []⟩] false)
  (.mask ⟨[8, 9], [.slot 8 10000080 2]⟩ (.ret)))))))))))))))⟩
/-- (*beadle/wall.Wall).is -/
def code_wall_Wall_is : AFunc := ⟨12, [.tmp 2],
  .seq (.region 0 [
    ⟨(some 2), .mov (.c (.d (.bool false))), none, []⟩] false)
  (.seq (.region 1 [
    ⟨(some 3), .mov (.t 0), none, []⟩,
    ⟨(some 4), .isnil .p true (.t 3), none, []⟩,
    ⟨(some 5), .mov (.t 4), none, []⟩,
    ⟨(some 6), .mov (.t 0), (some (5, true)), []⟩,
    ⟨(some 7), .nilchk (.t 6), (some (5, true)), []⟩,
    ⟨(some 8), .faddr 0 (.t 7), (some (5, true)), []⟩,
    ⟨(some 9), .load 1 false (.t 8), (some (5, true)), []⟩,
    ⟨(some 10), .isnil .m true (.t 9), (some (5, true)), []⟩,
    ⟨(some 11), .pick (.t 5) (.t 10) (.c (.d (.bool false))), none, []⟩,
    ⟨(some 2), .mov (.t 11), none, []⟩] false)
  (.mask ⟨[2], []⟩ (.ret)))⟩
/-- slices.Sort[[]string,string] -/
def code_slices_Sort_string_string : AFunc := ⟨11, [],
  .seq (.region 0 [
    ⟨(some 3), .mov (.t 0), none, []⟩,
    ⟨(some 4), .len .sl (.t 3), none, []⟩,
    ⟨(some 2), .mov (.t 4), none, []⟩] false)
  (.region 1 [
    ⟨(some 5), .mov (.t 0), none, []⟩,
    ⟨(some 6), .mov (.t 2), none, []⟩,
    ⟨(some 7), .mov (.t 2), none, []⟩,
    ⟨(some 8), .toInt .u64 (.t 7), none, []⟩,
    ⟨(some 9), .call (.c (.fn F_math_bits_Len [])) [(.t 8)], none, []⟩,
    ⟨(some 10), .call (.c (.fn F_slices_pdqsortOrdered_string [])) [(.t 5), (.c (.d (.int .i64 (0)))), (.t 6), (.t 9)], none, []⟩] false)⟩
/-- (*beadle/wall.Wall).Leak$1 -/
def code_wall_Wall_Leak_1 : AFunc := ⟨9, [.tmp 4],
  .seq (.region 0 [
    ⟨(some 4), .mov (.c (.d (.bool false))), none, []⟩] false)
  (.seq (.region 1 [
    ⟨(some 5), .load 1 false (.t 1), none, []⟩,
    ⟨(some 6), .load 1 false (.t 2), none, []⟩,
    ⟨(some 7), .mov (.t 0), none, []⟩,
    ⟨(some 8), .call (.c (.fn F_wall_Wall_foes [])) [(.t 5), (.t 6), (.t 7)], none, []⟩,
    ⟨(some 4), .mov (.t 8), none, []⟩] false)
  (.mask ⟨[4], []⟩ (.ret)))⟩
/-- slices.ContainsFunc[[]string,string] -/
def code_slices_ContainsFunc_string_string : AFunc := ⟨9, [.tmp 4],
  .seq (.region 0 [
    ⟨(some 4), .mov (.c (.d (.bool false))), none, []⟩] false)
  (.seq (.region 1 [
    ⟨(some 5), .mov (.t 0), none, []⟩,
    ⟨(some 6), .mov (.t 1), none, []⟩,
    ⟨(some 7), .call (.c (.fn F_slices_IndexFunc_string_string [])) [(.t 5), (.t 6)], none, []⟩,
    ⟨(some 8), .bin .geq (.t 7) (.c (.d (.int .i64 (0)))), none, []⟩,
    ⟨(some 4), .mov (.t 8), none, []⟩] false)
  (.mask ⟨[4], []⟩ (.ret)))⟩
/-- (*beadle/wall.Wall).May$1 -/
def code_wall_Wall_May_1 : AFunc := ⟨9, [.tmp 4],
  .seq (.region 0 [
    ⟨(some 4), .mov (.c (.d (.bool false))), none, []⟩] false)
  (.seq (.region 1 [
    ⟨(some 5), .load 1 false (.t 1), none, []⟩,
    ⟨(some 6), .mov (.t 0), none, []⟩,
    ⟨(some 7), .load 1 false (.t 2), none, []⟩,
    ⟨(some 8), .call (.c (.fn F_wall_Wall_foes [])) [(.t 5), (.t 6), (.t 7)], none, []⟩,
    ⟨(some 4), .mov (.t 8), none, []⟩] false)
  (.mask ⟨[4], []⟩ (.ret)))⟩
def mask_law33_class_0 : Mask := ⟨[0, 1, 6], []⟩
def body_law33_class_0 : ACode :=
  .seq (.seq (.region 2 [
    ⟨(some 7), .mov (.t 6), none, []⟩,
    ⟨(some 8), .mov (.t 0), none, []⟩,
    ⟨(some 9), .len .sl (.t 8), none, []⟩,
    ⟨(some 10), .bin .lss (.t 7) (.t 9), none, []⟩] false)
  (.cond (.t 10)
    (.skip)
    (.mask ⟨[], []⟩ (.exit 0))))
  (.mask ⟨[0, 1, 6], []⟩ (.seq (.block 1 (.seq (.region 4 [
    ⟨(some 13), .mov (.t 0), none, []⟩,
    ⟨(some 14), .mov (.t 6), none, []⟩,
    ⟨(some 15), .iaddr 2 (.t 13) (.t 14), none, []⟩,
    ⟨(some 16), .faddr 0 (.t 15), none, []⟩,
    ⟨(some 17), .load 1 false (.t 16), none, []⟩,
    ⟨(some 18), .mov (.t 1), none, []⟩,
    ⟨(some 19), .bin .eql (.t 17) (.t 18), none, []⟩] false)
  (.cond (.t 19)
    (.seq (.region 5 [
      ⟨(some 20), .mov (.t 0), none, []⟩,
      ⟨(some 21), .mov (.t 6), none, []⟩,
      ⟨(some 22), .iaddr 2 (.t 20) (.t 21), none, []⟩,
      ⟨(some 23), .faddr 1 (.t 22), none, []⟩,
      ⟨(some 24), .load 1 false (.t 23), none, []⟩,
      ⟨(some 4), .mov (.t 24), none, []⟩,
      ⟨(some 5), .mov (.c (.d (.bool true))), none, []⟩] false)
    (.mask ⟨[4, 5], []⟩ (.ret)))
    (.skip))))
  (.mask ⟨[0, 1, 6], []⟩ (.region 3 [
    ⟨(some 11), .mov (.t 6), none, []⟩,
    ⟨(some 12), .bin .add (.t 11) (.c (.d (.int .i64 (1)))), none, []⟩,
    ⟨(some 6), .mov (.t 12), none, []⟩] false))))
/-- beadle/beadlelaw33.class -/
def code_law33_class : AFunc := ⟨25, [.tmp 4, .tmp 5],
  .seq (.region 0 [
    ⟨(some 4), .mov (.c (.d (.str []))), none, []⟩,
    ⟨(some 5), .mov (.c (.d (.bool false))), none, []⟩] false)
  (.seq (.seq (.region 1 [
    ⟨(some 6), .mov (.c (.d (.int .i64 (0)))), none, []⟩] false)
  (.block 0 (.loop mask_law33_class_0 body_law33_class_0)))
  (.mask ⟨[], []⟩ (.seq (.region 6 [
    ⟨(some 4), .mov (.c (.d (.str []))), none, []⟩,
    ⟨(some 5), .mov (.c (.d (.bool false))), none, []⟩] false)
  (.mask ⟨[4, 5], []⟩ (.ret)))))⟩
/-- maps.Clone[map[string]beadle/wall.class,string,beadle/wall.class] -/
def code_maps_Clone_map_string_wall_class_string_wall_class : AFunc := ⟨9, [.tmp 2],
  .seq (.region 0 [
    ⟨(some 2), .mov (.c (.d .nilm)), none, []⟩] false)
  (.seq (.seq (.region 1 [
    ⟨(some 3), .mov (.t 0), none, []⟩,
    ⟨(some 4), .isnil .m false (.t 3), none, []⟩] false)
  (.cond (.t 4)
    (.seq (.region 2 [
      ⟨(some 2), .mov (.c (.d .nilm)), none, []⟩] false)
    (.mask ⟨[2], []⟩ (.ret)))
    (.skip)))
  (.mask ⟨[0], []⟩ (.seq (.region 3 [
    ⟨(some 5), .mov (.t 0), none, []⟩,
    ⟨(some 6), .bad, none, []⟩,
    ⟨(some 7), .call (.c (.fn F_maps_clone [])) [(.t 6)], none, []⟩,
    ⟨(some 8), .bad, none, []⟩,
    ⟨(some 2), .mov (.t 8), none, []⟩] false)
  (.mask ⟨[2], []⟩ (.ret)))))⟩
/-- maps.Clone[map[beadle/wall.sight]int,beadle/wall.sight,int] -/
def code_maps_Clone_map_wall_sight_int_wall_sight_int : AFunc := ⟨9, [.tmp 2],
  .seq (.region 0 [
    ⟨(some 2), .mov (.c (.d .nilm)), none, []⟩] false)
  (.seq (.seq (.region 1 [
    ⟨(some 3), .mov (.t 0), none, []⟩,
    ⟨(some 4), .isnil .m false (.t 3), none, []⟩] false)
  (.cond (.t 4)
    (.seq (.region 2 [
      ⟨(some 2), .mov (.c (.d .nilm)), none, []⟩] false)
    (.mask ⟨[2], []⟩ (.ret)))
    (.skip)))
  (.mask ⟨[0], []⟩ (.seq (.region 3 [
    ⟨(some 5), .mov (.t 0), none, []⟩,
    ⟨(some 6), .bad, none, []⟩,
    ⟨(some 7), .call (.c (.fn F_maps_clone [])) [(.t 6)], none, []⟩,
    ⟨(some 8), .bad, none, []⟩,
    ⟨(some 2), .mov (.t 8), none, []⟩] false)
  (.mask ⟨[2], []⟩ (.ret)))))⟩
def mask_law33_may_0 : Mask := ⟨[0, 5, 7, 8], []⟩
def body_law33_may_0 : ACode :=
  .seq (.seq (.region 3 [
    ⟨(some 13), .mov (.t 8), none, []⟩,
    ⟨(some 14), .mov (.t 7), none, []⟩,
    ⟨(some 15), .len .sl (.t 14), none, []⟩,
    ⟨(some 16), .bin .lss (.t 13) (.t 15), none, []⟩] false)
  (.cond (.t 16)
    (.skip)
    (.mask ⟨[], []⟩ (.exit 0))))
  (.mask ⟨[0, 5, 7, 8], []⟩ (.seq (.block 1 (.seq (.region 5 [
    ⟨(some 19), .mov (.t 0), none, []⟩,
    ⟨(some 20), .mov (.t 7), none, []⟩,
    ⟨(some 21), .mov (.t 8), none, []⟩,
    ⟨(some 22), .iaddr 1 (.t 20) (.t 21), none, [1, 2]⟩,
    ⟨(some 23), .load 1 false (.t 22), none, [1, 2, 3]⟩,
    ⟨(some 24), .faddr 2 (.t 5), none, []⟩,
    ⟨(some 25), .load 1 false (.t 24), none, [5]⟩,
    ⟨(some 26), .call (.c (.fn F_law33_foes [])) [(.t 19), (.t 23), (.t 25)], none, [0, 1, 2, 3, 4, 5, 6]⟩] true)
  (.cond (.t 26)
    (.seq (.region 6 [
      ⟨(some 6), .mov (.c (.d (.bool false))), none, []⟩] false)
    (.mask ⟨[6], []⟩ (.ret)))
    (.skip))))
  (.mask ⟨[0, 5, 7, 8], []⟩ (.region 4 [
    ⟨(some 17), .mov (.t 8), none, []⟩,
    ⟨(some 18), .bin .add (.t 17) (.c (.d (.int .i64 (1)))), none, []⟩,
    ⟨(some 8), .mov (.t 18), none, []⟩] false))))
/-- beadle/beadlelaw33.may -/
def code_law33_may : AFunc := ⟨27, [.tmp 6],
  .seq (.region 0 [
    ⟨(some 5), .box 3 (.t 2), none, []⟩,
    ⟨(some 6), .mov (.c (.d (.bool false))), none, []⟩] false)
  (.seq (.region 1 [
    ⟨(some 9), .mov (.t 1), none, []⟩,
    ⟨(some 10), .faddr 1 (.t 5), none, []⟩,
    ⟨(some 11), .load 1 false (.t 10), none, []⟩,
    ⟨(some 12), .call (.c (.fn F_law33_of [])) [(.t 9), (.t 11)], none, []⟩,
    ⟨(some 7), .mov (.t 12), none, []⟩] false)
  (.seq (.seq (.region 2 [
    ⟨(some 8), .mov (.c (.d (.int .i64 (0)))), none, []⟩] false)
  (.block 0 (.loop mask_law33_may_0 body_law33_may_0)))
  (.mask ⟨[], []⟩ (.seq (.region 7 [
    ⟨(some 6), .mov (.c (.d (.bool true))), none, []⟩] false)
  (.mask ⟨[6], []⟩ (.ret))))))⟩
def mask_law33_of_0 : Mask := ⟨[0, 1, 5, 6], [.slot 5 10000050 1]⟩
def body_law33_of_0 : ACode :=
  .seq (.seq (.region 3 [
    ⟨(some 7), .mov (.t 6), none, []⟩,
    ⟨(some 8), .mov (.t 0), none, []⟩,
    ⟨(some 9), .len .sl (.t 8), none, []⟩,
    ⟨(some 10), .bin .lss (.t 7) (.t 9), none, []⟩] false)
  (.cond (.t 10)
    (.skip)
    (.mask ⟨[5], [.slot 5 10000050 1]⟩ (.exit 0))))
  (.mask ⟨[0, 1, 5, 6], [.slot 5 10000050 1]⟩ (.seq (.block 1 (.seq (.region 5 [
    ⟨(some 13), .mov (.t 0), none, []⟩,
    ⟨(some 14), .mov (.t 6), none, []⟩,
    ⟨(some 15), .iaddr 2 (.t 13) (.t 14), none, []⟩,
    ⟨(some 16), .faddr 0 (.t 15), none, []⟩,
    ⟨(some 17), .load 1 false (.t 16), none, []⟩,
    ⟨(some 18), .mov (.t 1), none, []⟩,
    ⟨(some 19), .bin .eql (.t 17) (.t 18), none, []⟩] false)
  (.cond (.t 19)
    (.region 6 [
      ⟨(some 20), .mov (.t 5), none, []⟩,
      ⟨(some 21), .mov (.t 0), none, []⟩,
      ⟨(some 22), .mov (.t 6), none, []⟩,
      ⟨(some 23), .iaddr 2 (.t 21) (.t 22), none, []⟩,
      ⟨(some 24), .faddr 1 (.t 23), none, []⟩,
      ⟨(some 25), .load 1 false (.t 24), none, []⟩,
      ⟨(some 26), .buildSl 1 [(.str [])] 1 [(0, (.t 25))], none, []⟩,
      ⟨(some 27), .append 1 (.t 20) (.t 26), none, []⟩,
      ⟨(some 5), .mov (.t 27), none, []⟩] false)
    (.skip))))
  (.mask ⟨[0, 1, 5, 6], [.slot 5 10000050 1]⟩ (.region 4 [
    ⟨(some 11), .mov (.t 6), none, []⟩,
    ⟨(some 12), .bin .add (.t 11) (.c (.d (.int .i64 (1)))), none, []⟩,
    ⟨(some 6), .mov (.t 12), none, []⟩] false))))
/-- beadle/beadlelaw33.of -/
def code_law33_of : AFunc := ⟨30, [.tmp 4],
  .seq (.region 0 [
    ⟨(some 4), .mov (.c (.d (.vs true []))), none, []⟩] false)
  (.seq (.region 1 [
    ⟨(some 5), .mov (.c (.d (.vs true []))), none, []⟩] false)
  (.seq (.seq (.region 2 [
    ⟨(some 6), .mov (.c (.d (.int .i64 (0)))), none, []⟩] false)
  (.block 0 (.loop mask_law33_of_0 body_law33_of_0)))
  (.mask ⟨[5], [.slot 5 10000050 1]⟩ (.seq (.region 7 [
    ⟨(some 28), .mov (.t 5), none, []⟩,
    ⟨(some 29), .call (.c (.fn F_plain_Rising [])) [(.t 28)], none, []⟩,
    ⟨(some 4), .mov (.t 29), none, []⟩] false)
  (.mask ⟨[4], []⟩ (.ret))))))⟩
def mask_plain_Texts_0 : Mask := ⟨[0, 1, 5], []⟩
def body_plain_Texts_0 : ACode :=
  .seq (.seq (.region 4 [
    ⟨(some 11), .mov (.t 5), none, []⟩,
    ⟨(some 12), .mov (.t 0), none, []⟩,
    ⟨(some 13), .len .sl (.t 12), none, []⟩,
    ⟨(some 14), .bin .lss (.t 11) (.t 13), none, []⟩] false)
  (.cond (.t 14)
    (.skip)
    (.mask ⟨[], []⟩ (.exit 0))))
  (.mask ⟨[0, 1, 5], []⟩ (.seq (.block 1 (.seq (.region 6 [
    ⟨(some 17), .mov (.t 0), none, []⟩,
    ⟨(some 18), .mov (.t 5), none, []⟩,
    ⟨(some 19), .iaddr 1 (.t 17) (.t 18), none, [0, 1]⟩,
    ⟨(some 20), .load 1 false (.t 19), none, [0, 1, 2]⟩,
    ⟨(some 21), .mov (.t 1), none, []⟩,
    ⟨(some 22), .mov (.t 5), none, []⟩,
    ⟨(some 23), .iaddr 1 (.t 21) (.t 22), none, [4, 5]⟩,
    ⟨(some 24), .load 1 false (.t 23), none, [4, 5, 6]⟩,
    ⟨(some 25), .bin .neq (.t 20) (.t 24), none, [0, 1, 2, 3, 4, 5, 6, 7]⟩] true)
  (.cond (.t 25)
    (.seq (.region 7 [
      ⟨(some 4), .mov (.c (.d (.bool false))), none, []⟩] false)
    (.mask ⟨[4], []⟩ (.ret)))
    (.skip))))
  (.mask ⟨[0, 1, 5], []⟩ (.region 5 [
    ⟨(some 15), .mov (.t 5), none, []⟩,
    ⟨(some 16), .bin .add (.t 15) (.c (.d (.int .i64 (1)))), none, []⟩,
    ⟨(some 5), .mov (.t 16), none, []⟩] false))))
/-- beadle/beadleplain.Texts -/
def code_plain_Texts : AFunc := ⟨26, [.tmp 4],
  .seq (.region 0 [
    ⟨(some 4), .mov (.c (.d (.bool false))), none, []⟩] false)
  (.seq (.seq (.region 1 [
    ⟨(some 6), .mov (.t 0), none, []⟩,
    ⟨(some 7), .len .sl (.t 6), none, []⟩,
    ⟨(some 8), .mov (.t 1), none, []⟩,
    ⟨(some 9), .len .sl (.t 8), none, []⟩,
    ⟨(some 10), .bin .neq (.t 7) (.t 9), none, []⟩] false)
  (.cond (.t 10)
    (.seq (.region 2 [
      ⟨(some 4), .mov (.c (.d (.bool false))), none, []⟩] false)
    (.mask ⟨[4], []⟩ (.ret)))
    (.skip)))
  (.mask ⟨[0, 1], []⟩ (.seq (.seq (.region 3 [
    ⟨(some 5), .mov (.c (.d (.int .i64 (0)))), none, []⟩] false)
  (.block 0 (.loop mask_plain_Texts_0 body_plain_Texts_0)))
  (.mask ⟨[], []⟩ (.seq (.region 8 [
    ⟨(some 4), .mov (.c (.d (.bool true))), none, []⟩] false)
  (.mask ⟨[4], []⟩ (.ret)))))))⟩
/-- math/bits.Len -/
def code_math_bits_Len : AFunc := ⟨8, [.tmp 2],
  .seq (.region 0 [
    ⟨(some 2), .mov (.c (.d (.int .i64 (0)))), none, []⟩] false)
  (.seq (.cond (.c (.d (.bool false)))
    (.seq (.region 1 [
      ⟨(some 3), .mov (.t 0), none, []⟩,
      ⟨(some 4), .toInt .u32 (.t 3), none, []⟩,
      ⟨(some 5), .call (.c (.fn F_math_bits_Len32 [])) [(.t 4)], none, []⟩,
      ⟨(some 2), .mov (.t 5), none, []⟩] false)
    (.mask ⟨[2], []⟩ (.ret)))
    (.skip))
  (.mask ⟨[0], []⟩ (.seq (.region 2 [
    ⟨(some 6), .mov (.t 0), none, []⟩,
    ⟨(some 7), .call (.c (.fn F_math_bits_Len64 [])) [(.t 6)], none, []⟩,
    ⟨(some 2), .mov (.t 7), none, []⟩] false)
  (.mask ⟨[2], []⟩ (.ret)))))⟩
def mask_slices_pdqsortOrdered_string_0 : Mask := ⟨[0, 1, 2, 3, 8, 9], []⟩
def body_slices_pdqsortOrdered_string_0 : ACode :=
  .block 1 (.seq (.region 2 [
    ⟨(some 19), .mov (.t 2), none, []⟩,
    ⟨(some 20), .mov (.t 1), none, []⟩,
    ⟨(some 21), .bin .sub (.t 19) (.t 20), none, []⟩,
    ⟨(some 10), .mov (.t 21), none, []⟩] false)
  (.seq (.seq (.region 3 [
    ⟨(some 22), .mov (.t 10), none, []⟩,
    ⟨(some 23), .bin .leq (.t 22) (.c (.d (.int .i64 (12)))), none, []⟩] false)
  (.cond (.t 23)
    (.seq (.region 4 [
      ⟨(some 24), .mov (.t 0), none, []⟩,
      ⟨(some 25), .mov (.t 1), none, []⟩,
      ⟨(some 26), .mov (.t 2), none, []⟩,
      ⟨(some 27), .call (.c (.fn F_slices_insertionSortOrdered_string [])) [(.t 24), (.t 25), (.t 26)], none, []⟩] false)
    (.mask ⟨[], []⟩ (.ret)))
    (.skip)))
  (.mask ⟨[0, 1, 2, 3, 8, 9, 10], []⟩ (.seq (.seq (.region 5 [
    ⟨(some 28), .mov (.t 3), none, []⟩,
    ⟨(some 29), .bin .eql (.t 28) (.c (.d (.int .i64 (0)))), none, []⟩] false)
  (.cond (.t 29)
    (.seq (.region 6 [
      ⟨(some 30), .mov (.t 0), none, []⟩,
      ⟨(some 31), .mov (.t 1), none, []⟩,
      ⟨(some 32), .mov (.t 2), none, []⟩,
      ⟨(some 33), .call (.c (.fn F_slices_heapSortOrdered_string [])) [(.t 30), (.t 31), (.t 32)], none, []⟩] false)
    (.mask ⟨[], []⟩ (.ret)))
    (.skip)))
  (.mask ⟨[0, 1, 2, 3, 8, 9, 10], []⟩ (.seq (.seq (.region 7 [
    ⟨(some 34), .mov (.t 8), none, []⟩,
    ⟨(some 35), .un .not (.t 34), none, []⟩] false)
  (.cond (.t 35)
    (.seq (.region 8 [
      ⟨(some 36), .mov (.t 0), none, []⟩,
      ⟨(some 37), .mov (.t 1), none, []⟩,
      ⟨(some 38), .mov (.t 2), none, []⟩,
      ⟨(some 39), .call (.c (.fn F_slices_breakPatternsOrdered_string [])) [(.t 36), (.t 37), (.t 38)], none, []⟩] false)
    (.region 9 [
      ⟨(some 40), .mov (.t 3), none, []⟩,
      ⟨(some 41), .bin .sub (.t 40) (.c (.d (.int .i64 (1)))), none, []⟩,
      ⟨(some 3), .mov (.t 41), none, []⟩] false))
    (.skip)))
  (.mask ⟨[0, 1, 2, 3, 8, 9, 10], []⟩ (.seq (.region 10 [
    ⟨(some 43), .mov (.t 0), none, []⟩,
    ⟨(some 44), .mov (.t 1), none, []⟩,
    ⟨(some 45), .mov (.t 2), none, []⟩,
    ⟨(some 46), .call (.c (.fn F_slices_choosePivotOrdered_string [])) [(.t 43), (.t 44), (.t 45)], none, []⟩,
    ⟨(some 42), .mov (.t 46), none, []⟩,
    ⟨(some 47), .extract (.t 42) 0, none, []⟩,
    ⟨(some 48), .extract (.t 42) 1, none, []⟩,
    ⟨(some 11), .mov (.t 47), none, []⟩,
    ⟨(some 12), .mov (.t 48), none, []⟩] false)
  (.seq (.seq (.region 11 [
    ⟨(some 49), .mov (.t 12), none, []⟩,
    ⟨(some 50), .bin .eql (.t 49) (.c (.d (.int .i64 (2)))), none, []⟩] false)
  (.cond (.t 50)
    (.seq (.region 12 [
      ⟨(some 51), .mov (.t 0), none, []⟩,
      ⟨(some 52), .mov (.t 1), none, []⟩,
      ⟨(some 53), .mov (.t 2), none, []⟩,
      ⟨(some 54), .call (.c (.fn F_slices_reverseRangeOrdered_string [])) [(.t 51), (.t 52), (.t 53)], none, []⟩] false)
    (.seq (.region 13 [
      ⟨(some 55), .mov (.t 2), none, []⟩,
      ⟨(some 56), .bin .sub (.t 55) (.c (.d (.int .i64 (1)))), none, []⟩,
      ⟨(some 57), .mov (.t 11), none, []⟩,
      ⟨(some 58), .mov (.t 1), none, []⟩,
      ⟨(some 59), .bin .sub (.t 57) (.t 58), none, []⟩,
      ⟨(some 60), .bin .sub (.t 56) (.t 59), none, []⟩,
      ⟨(some 11), .mov (.t 60), none, []⟩] false)
    (.region 14 [
      ⟨(some 12), .mov (.c (.d (.int .i64 (1)))), none, []⟩] false)))
    (.skip)))
  (.mask ⟨[0, 1, 2, 3, 8, 9, 10, 11, 12], []⟩ (.seq (.seq (.region 15 [
    ⟨(some 61), .mov (.t 8), none, []⟩,
    ⟨(some 62), .mov (.t 61), none, []⟩,
    ⟨(some 63), .mov (.t 9), (some (62, true)), []⟩,
    ⟨(some 64), .pick (.t 62) (.t 63) (.c (.d (.bool false))), none, []⟩,
    ⟨(some 65), .mov (.t 64), none, []⟩,
    ⟨(some 66), .mov (.t 12), (some (65, true)), []⟩,
    ⟨(some 67), .bin .eql (.t 66) (.c (.d (.int .i64 (1)))), (some (65, true)), []⟩,
    ⟨(some 68), .pick (.t 65) (.t 67) (.c (.d (.bool false))), none, []⟩] false)
  (.mask ⟨[0, 1, 2, 3, 8, 9, 10, 11, 68], []⟩ (.cond (.t 68)
    (.seq (.region 16 [
      ⟨(some 69), .mov (.t 0), none, []⟩,
      ⟨(some 70), .mov (.t 1), none, []⟩,
      ⟨(some 71), .mov (.t 2), none, []⟩,
      ⟨(some 72), .call (.c (.fn F_slices_partialInsertionSortOrdered_string [])) [(.t 69), (.t 70), (.t 71)], none, []⟩] false)
    (.cond (.t 72)
      (.mask ⟨[], []⟩ (.ret))
      (.skip)))
    (.skip))))
  (.mask ⟨[0, 1, 2, 3, 8, 9, 10, 11], []⟩ (.seq (.seq (.region 17 [
    ⟨(some 73), .mov (.t 1), none, []⟩,
    ⟨(some 74), .bin .gtr (.t 73) (.c (.d (.int .i64 (0)))), none, [0]⟩,
    ⟨(some 75), .mov (.t 74), none, [0, 1]⟩,
    ⟨(some 76), .mov (.t 0), (some (75, true)), [0, 1, 2]⟩,
    ⟨(some 77), .mov (.t 1), (some (75, true)), [0, 1, 2]⟩,
    ⟨(some 78), .bin .sub (.t 77) (.c (.d (.int .i64 (1)))), (some (75, true)), [0, 1, 2, 4]⟩,
    ⟨(some 79), .iaddr 1 (.t 76) (.t 78), (some (75, true)), [0, 1, 2, 3, 4, 5]⟩,
    ⟨(some 80), .load 1 false (.t 79), (some (75, true)), [0, 1, 2, 3, 4, 5, 6]⟩,
    ⟨(some 81), .mov (.t 0), (some (75, true)), [0, 1, 2]⟩,
    ⟨(some 82), .mov (.t 11), (some (75, true)), [0, 1, 2]⟩,
    ⟨(some 83), .iaddr 1 (.t 81) (.t 82), (some (75, true)), [0, 1, 2, 8, 9]⟩,
    ⟨(some 84), .load 1 false (.t 83), (some (75, true)), [0, 1, 2, 8, 9, 10]⟩,
    ⟨(some 85), .call (.c (.fn F_cmp_Less_string [])) [(.t 80), (.t 84)], (some (75, true)), [0, 1, 2, 3, 4, 5, 6, 7, 8, 9, 10, 11]⟩,
    ⟨(some 86), .un .not (.t 85), (some (75, true)), [0, 1, 2, 3, 4, 5, 6, 7, 8, 9, 10, 11, 12]⟩,
    ⟨(some 87), .pick (.t 75) (.t 86) (.c (.d (.bool false))), none, [0, 1, 2, 3, 4, 5, 6, 7, 8, 9, 10, 11, 12, 13]⟩] true)
  (.mask ⟨[0, 1, 2, 3, 8, 9, 10, 11, 87], []⟩ (.cond (.t 87)
    (.seq (.region 18 [
      ⟨(some 88), .mov (.t 0), none, []⟩,
      ⟨(some 89), .mov (.t 1), none, []⟩,
      ⟨(some 90), .mov (.t 2), none, []⟩,
      ⟨(some 91), .mov (.t 11), none, []⟩,
      ⟨(some 92), .call (.c (.fn F_slices_partitionEqualOrdered_string [])) [(.t 88), (.t 89), (.t 90), (.t 91)], none, []⟩,
      ⟨(some 13), .mov (.t 92), none, []⟩] false)
    (.seq (.region 19 [
      ⟨(some 93), .mov (.t 13), none, []⟩,
      ⟨(some 1), .mov (.t 93), none, []⟩] false)
    (.mask ⟨[0, 1, 2, 3, 8, 9], []⟩ (.exit 1))))
    (.skip))))
  (.mask ⟨[0, 1, 2, 3, 10, 11], []⟩ (.seq (.region 20 [
    ⟨(some 95), .mov (.t 0), none, []⟩,
    ⟨(some 96), .mov (.t 1), none, []⟩,
    ⟨(some 97), .mov (.t 2), none, []⟩,
    ⟨(some 98), .mov (.t 11), none, []⟩,
    ⟨(some 99), .call (.c (.fn F_slices_partitionOrdered_string [])) [(.t 95), (.t 96), (.t 97), (.t 98)], none, []⟩,
    ⟨(some 94), .mov (.t 99), none, []⟩,
    ⟨(some 100), .extract (.t 94) 0, none, []⟩,
    ⟨(some 101), .extract (.t 94) 1, none, []⟩,
    ⟨(some 14), .mov (.t 100), none, []⟩,
    ⟨(some 15), .mov (.t 101), none, []⟩] false)
  (.seq (.region 21 [
    ⟨(some 102), .mov (.t 15), none, []⟩,
    ⟨(some 9), .mov (.t 102), none, []⟩] false)
  (.seq (.region 22 [
    ⟨(some 103), .mov (.t 14), none, []⟩,
    ⟨(some 104), .mov (.t 1), none, []⟩,
    ⟨(some 105), .bin .sub (.t 103) (.t 104), none, []⟩,
    ⟨(some 106), .mov (.t 2), none, []⟩,
    ⟨(some 107), .mov (.t 14), none, []⟩,
    ⟨(some 108), .bin .sub (.t 106) (.t 107), none, []⟩,
    ⟨(some 16), .mov (.t 105), none, []⟩,
    ⟨(some 17), .mov (.t 108), none, []⟩] false)
  (.seq (.region 23 [
    ⟨(some 109), .mov (.t 10), none, []⟩,
    ⟨(some 110), .bin .quo (.t 109) (.c (.d (.int .i64 (8)))), none, []⟩,
    ⟨(some 18), .mov (.t 110), none, []⟩] false)
  (.seq (.region 24 [
    ⟨(some 111), .mov (.t 16), none, []⟩,
    ⟨(some 112), .mov (.t 17), none, []⟩,
    ⟨(some 113), .bin .lss (.t 111) (.t 112), none, []⟩] false)
  (.cond (.t 113)
    (.seq (.region 25 [
      ⟨(some 114), .mov (.t 16), none, []⟩,
      ⟨(some 115), .mov (.t 18), none, []⟩,
      ⟨(some 116), .bin .geq (.t 114) (.t 115), none, []⟩,
      ⟨(some 8), .mov (.t 116), none, []⟩] false)
    (.seq (.region 26 [
      ⟨(some 117), .mov (.t 0), none, []⟩,
      ⟨(some 118), .mov (.t 1), none, []⟩,
      ⟨(some 119), .mov (.t 14), none, []⟩,
      ⟨(some 120), .mov (.t 3), none, []⟩,
      ⟨(some 121), .call (.c (.fn F_slices_pdqsortOrdered_string [])) [(.t 117), (.t 118), (.t 119), (.t 120)], none, []⟩] false)
    (.region 27 [
      ⟨(some 122), .mov (.t 14), none, []⟩,
      ⟨(some 123), .bin .add (.t 122) (.c (.d (.int .i64 (1)))), none, []⟩,
      ⟨(some 1), .mov (.t 123), none, []⟩] false)))
    (.seq (.region 28 [
      ⟨(some 124), .mov (.t 17), none, []⟩,
      ⟨(some 125), .mov (.t 18), none, []⟩,
      ⟨(some 126), .bin .geq (.t 124) (.t 125), none, []⟩,
      ⟨(some 8), .mov (.t 126), none, []⟩] false)
    (.seq (.region 29 [
      ⟨(some 127), .mov (.t 0), none, []⟩,
      ⟨(some 128), .mov (.t 14), none, []⟩,
      ⟨(some 129), .bin .add (.t 128) (.c (.d (.int .i64 (1)))), none, []⟩,
      ⟨(some 130), .mov (.t 2), none, []⟩,
      ⟨(some 131), .mov (.t 3), none, []⟩,
      ⟨(some 132), .call (.c (.fn F_slices_pdqsortOrdered_string [])) [(.t 127), (.t 129), (.t 130), (.t 131)], none, []⟩] false)
    (.region 30 [
      ⟨(some 133), .mov (.t 14), none, []⟩,
      ⟨(some 2), .mov (.t 133), none, []⟩] false)))))))))))))))))))))))
/-- slices.pdqsortOrdered[string] -/
def code_slices_pdqsortOrdered_string : AFunc := ⟨134, [],
  .seq (.region 0 [
    ⟨(some 8), .mov (.c (.d (.bool true))), none, []⟩] false)
  (.seq (.region 1 [
    ⟨(some 9), .mov (.c (.d (.bool true))), none, []⟩] false)
  (.block 0 (.loop mask_slices_pdqsortOrdered_string_0 body_slices_pdqsortOrdered_string_0)))⟩
/-- (*beadle/wall.Wall).foes -/
def code_wall_Wall_foes : AFunc := ⟨43, [.tmp 6],
  .seq (.region 0 [
    ⟨(some 6), .mov (.c (.d (.bool false))), none, []⟩] false)
  (.seq (.region 1 [
    ⟨(some 12), .mov (.t 0), none, []⟩,
    ⟨(some 13), .nilchk (.t 12), none, []⟩,
    ⟨(some 14), .faddr 0 (.t 13), none, []⟩,
    ⟨(some 15), .load 1 false (.t 14), none, []⟩,
    ⟨(some 16), .mov (.t 1), none, []⟩,
    ⟨(some 17), .lookup false [.str] (.agg [(.d (.str []))]) (.t 15) (.t 16) true, none, []⟩,
    ⟨(some 11), .mov (.t 17), none, []⟩,
    ⟨(some 18), .extract (.t 11) 0, none, []⟩,
    ⟨(some 19), .extract (.t 11) 1, none, []⟩,
    ⟨(some 7), .box 1 (.c (.agg [(.d (.str []))])), none, []⟩,
    ⟨none, .store 1 (.t 7) (.t 18), none, []⟩,
    ⟨(some 8), .mov (.t 19), none, []⟩] false)
  (.seq (.region 2 [
    ⟨(some 21), .mov (.t 0), none, []⟩,
    ⟨(some 22), .nilchk (.t 21), none, []⟩,
    ⟨(some 23), .faddr 0 (.t 22), none, []⟩,
    ⟨(some 24), .load 1 false (.t 23), none, []⟩,
    ⟨(some 25), .mov (.t 2), none, []⟩,
    ⟨(some 26), .lookup false [.str] (.agg [(.d (.str []))]) (.t 24) (.t 25) true, none, []⟩,
    ⟨(some 20), .mov (.t 26), none, []⟩,
    ⟨(some 27), .extract (.t 20) 0, none, []⟩,
    ⟨(some 28), .extract (.t 20) 1, none, []⟩,
    ⟨(some 9), .box 1 (.c (.agg [(.d (.str []))])), none, []⟩,
    ⟨none, .store 1 (.t 9) (.t 27), none, []⟩,
    ⟨(some 10), .mov (.t 28), none, []⟩] false)
  (.seq (.region 3 [
    ⟨(some 29), .mov (.t 1), none, []⟩,
    ⟨(some 30), .mov (.t 2), none, []⟩,
    ⟨(some 31), .bin .neq (.t 29) (.t 30), none, []⟩,
    ⟨(some 32), .mov (.t 31), none, []⟩,
    ⟨(some 33), .mov (.t 8), (some (32, true)), []⟩,
    ⟨(some 34), .pick (.t 32) (.t 33) (.c (.d (.bool false))), none, []⟩,
    ⟨(some 35), .mov (.t 34), none, []⟩,
    ⟨(some 36), .mov (.t 10), (some (35, true)), []⟩,
    ⟨(some 37), .pick (.t 35) (.t 36) (.c (.d (.bool false))), none, []⟩,
    ⟨(some 38), .mov (.t 37), none, []⟩,
    ⟨(some 39), .load 1 true (.t 7), (some (38, true)), []⟩,
    ⟨(some 40), .load 1 true (.t 9), (some (38, true)), []⟩,
    ⟨(some 41), .eqagg [.str] false (.t 39) (.t 40), (some (38, true)), []⟩,
    ⟨(some 42), .pick (.t 38) (.t 41) (.c (.d (.bool false))), none, []⟩,
    ⟨(some 6), .mov (.t 42), none, []⟩] false)
  (.mask ⟨[6], []⟩ (.ret)))))⟩
def mask_slices_IndexFunc_string_string_0 : Mask := ⟨[0, 1, 7, 8], []⟩
def body_slices_IndexFunc_string_string_0 : ACode :=
  .seq (.region 2 [
    ⟨(some 9), .bin .lss (.t 8) (.t 7), none, []⟩] false)
  (.seq (.cond (.t 9)
    (.skip)
    (.mask ⟨[], []⟩ (.exit 0)))
  (.mask ⟨[0, 1, 7, 8], []⟩ (.seq (.block 1 (.seq (.region 3 [
    ⟨(some 10), .mov (.t 8), none, []⟩,
    ⟨(some 5), .mov (.t 10), none, []⟩] false)
  (.seq (.region 4 [
    ⟨(some 11), .mov (.t 1), none, []⟩,
    ⟨(some 12), .mov (.t 0), none, []⟩,
    ⟨(some 13), .mov (.t 5), none, []⟩,
    ⟨(some 14), .iaddr 1 (.t 12) (.t 13), none, []⟩,
    ⟨(some 15), .load 1 false (.t 14), none, []⟩,
    ⟨(some 16), .call (.t 11) [(.t 15)], none, []⟩] false)
  (.cond (.t 16)
    (.seq (.region 5 [
      ⟨(some 17), .mov (.t 5), none, []⟩,
      ⟨(some 4), .mov (.t 17), none, []⟩] false)
    (.mask ⟨[4], []⟩ (.ret)))
    (.skip)))))
  (.mask ⟨[0, 1, 7, 8], []⟩ (.region 6 [
    ⟨(some 18), .bin .add (.t 8) (.c (.d (.int .i64 (1)))), none, []⟩,
    ⟨(some 8), .mov (.t 18), none, []⟩] false)))))
/-- slices.IndexFunc[[]string,string] -/
def code_slices_IndexFunc_string_string : AFunc := ⟨19, [.tmp 4],
  .seq (.region 0 [
    ⟨(some 4), .mov (.c (.d (.int .i64 (0)))), none, []⟩] false)
  (.seq (.seq (.region 1 [
    ⟨(some 6), .mov (.t 0), none, []⟩,
    ⟨(some 7), .len .sl (.t 6), none, []⟩,
    ⟨(some 8), .mov (.c (.d (.int .i64 (0)))), none, []⟩] false)
  (.block 0 (.loop mask_slices_IndexFunc_string_string_0 body_slices_IndexFunc_string_string_0)))
  (.mask ⟨[], []⟩ (.seq (.region 7 [
    ⟨(some 4), .mov (.c (.d (.int .i64 (-1)))), none, []⟩] false)
  (.mask ⟨[4], []⟩ (.ret)))))⟩
def mask_plain_Rising_0 : Mask := ⟨[0, 3, 4, 5], [.slot 3 10000030 1]⟩
def body_plain_Rising_0 : ACode :=
  .seq (.seq (.region 7 [
    ⟨(some 19), .mov (.t 5), none, []⟩,
    ⟨(some 20), .mov (.t 3), none, []⟩,
    ⟨(some 21), .len .sl (.t 20), none, [1]⟩,
    ⟨(some 22), .bin .lss (.t 19) (.t 21), none, [0, 1, 2]⟩,
    ⟨(some 23), .mov (.t 22), none, [0, 1, 2, 3]⟩,
    ⟨(some 24), .mov (.t 3), (some (23, true)), [0, 1, 2, 3, 4]⟩,
    ⟨(some 25), .mov (.t 5), (some (23, true)), [0, 1, 2, 3, 4]⟩,
    ⟨(some 26), .iaddr 1 (.t 24) (.t 25), (some (23, true)), [0, 1, 2, 3, 4, 5, 6]⟩,
    ⟨(some 27), .load 1 false (.t 26), (some (23, true)), [0, 1, 2, 3, 4, 5, 6, 7]⟩,
    ⟨(some 28), .mov (.t 0), (some (23, true)), [0, 1, 2, 3, 4]⟩,
    ⟨(some 29), .mov (.t 4), (some (23, true)), [0, 1, 2, 3, 4]⟩,
    ⟨(some 30), .iaddr 1 (.t 28) (.t 29), (some (23, true)), [0, 1, 2, 3, 4, 9, 10]⟩,
    ⟨(some 31), .load 1 false (.t 30), (some (23, true)), [0, 1, 2, 3, 4, 9, 10, 11]⟩,
    ⟨(some 32), .bin .lss (.t 27) (.t 31), (some (23, true)), [0, 1, 2, 3, 4, 5, 6, 7, 8, 9, 10, 11, 12]⟩,
    ⟨(some 33), .pick (.t 23) (.t 32) (.c (.d (.bool false))), none, [0, 1, 2, 3, 4, 5, 6, 7, 8, 9, 10, 11, 12, 13]⟩] true)
  (.mask ⟨[0, 3, 4, 5, 33], [.slot 3 10000030 1]⟩ (.cond (.t 33)
    (.skip)
    (.mask ⟨[0, 3, 4, 5], [.slot 3 10000030 1]⟩ (.exit 2)))))
  (.mask ⟨[0, 3, 4, 5], [.slot 3 10000030 1]⟩ (.block 3 (.region 8 [
    ⟨(some 34), .mov (.t 5), none, []⟩,
    ⟨(some 35), .bin .add (.t 34) (.c (.d (.int .i64 (1)))), none, []⟩,
    ⟨(some 5), .mov (.t 35), none, []⟩] false)))
def mask_plain_Rising_1 : Mask := ⟨[0, 3, 4], [.slot 3 10000030 1]⟩
def body_plain_Rising_1 : ACode :=
  .seq (.seq (.region 3 [
    ⟨(some 7), .mov (.t 4), none, []⟩,
    ⟨(some 8), .mov (.t 0), none, []⟩,
    ⟨(some 9), .len .sl (.t 8), none, []⟩,
    ⟨(some 10), .bin .lss (.t 7) (.t 9), none, []⟩] false)
  (.cond (.t 10)
    (.skip)
    (.mask ⟨[3], [.slot 3 10000030 1]⟩ (.exit 0))))
  (.mask ⟨[0, 3, 4], [.slot 3 10000030 1]⟩ (.seq (.block 1 (.seq (.seq (.region 5 [
    ⟨(some 13), .mov (.t 3), none, []⟩,
    ⟨(some 14), .mov (.t 0), none, []⟩,
    ⟨(some 15), .mov (.t 4), none, []⟩,
    ⟨(some 16), .iaddr 1 (.t 14) (.t 15), none, []⟩,
    ⟨(some 17), .load 1 false (.t 16), none, []⟩,
    ⟨(some 18), .call (.c (.fn F_plain_In [])) [(.t 13), (.t 17)], none, []⟩] false)
  (.cond (.t 18)
    (.mask ⟨[0, 3, 4], [.slot 3 10000030 1]⟩ (.exit 1))
    (.skip)))
  (.mask ⟨[0, 3, 4], [.slot 3 10000030 1]⟩ (.seq (.region 6 [
    ⟨(some 5), .mov (.c (.d (.int .i64 (0)))), none, []⟩] false)
  (.seq (.block 2 (.loop mask_plain_Rising_0 body_plain_Rising_0))
  (.mask ⟨[0, 3, 4, 5], [.slot 3 10000030 1]⟩ (.seq (.region 9 [
    ⟨(some 6), .mov (.c (.d (.vs true []))), none, []⟩] false)
  (.seq (.region 10 [
    ⟨(some 36), .mov (.t 6), none, []⟩,
    ⟨(some 37), .mov (.t 3), none, []⟩,
    ⟨(some 38), .mov (.t 5), none, []⟩,
    ⟨(some 39), .slice 1 (.t 37) none (some (.t 38)) none, none, []⟩,
    ⟨(some 40), .append 1 (.t 36) (.t 39), none, []⟩,
    ⟨(some 6), .mov (.t 40), none, []⟩] false)
  (.seq (.region 11 [
    ⟨(some 41), .mov (.t 6), none, []⟩,
    ⟨(some 42), .mov (.t 0), none, []⟩,
    ⟨(some 43), .mov (.t 4), none, []⟩,
    ⟨(some 44), .iaddr 1 (.t 42) (.t 43), none, []⟩,
    ⟨(some 45), .load 1 false (.t 44), none, []⟩,
    ⟨(some 46), .buildSl 1 [(.str [])] 1 [(0, (.t 45))], none, []⟩,
    ⟨(some 47), .append 1 (.t 41) (.t 46), none, []⟩,
    ⟨(some 6), .mov (.t 47), none, []⟩] false)
  (.seq (.region 12 [
    ⟨(some 48), .mov (.t 6), none, []⟩,
    ⟨(some 49), .mov (.t 3), none, []⟩,
    ⟨(some 50), .mov (.t 5), none, []⟩,
    ⟨(some 51), .slice 1 (.t 49) (some (.t 50)) none none, none, []⟩,
    ⟨(some 52), .append 1 (.t 48) (.t 51), none, []⟩,
    ⟨(some 6), .mov (.t 52), none, []⟩] false)
  (.region 13 [
    ⟨(some 53), .mov (.t 6), none, []⟩,
    ⟨(some 3), .mov (.t 53), none, []⟩] false)))))))))))
  (.mask ⟨[0, 3, 4], [.slot 3 10000030 1]⟩ (.region 4 [
    ⟨(some 11), .mov (.t 4), none, []⟩,
    ⟨(some 12), .bin .add (.t 11) (.c (.d (.int .i64 (1)))), none, []⟩,
    ⟨(some 4), .mov (.t 12), none, []⟩] false))))
/-- beadle/beadleplain.Rising -/
def code_plain_Rising : AFunc := ⟨55, [.tmp 2],
  .seq (.region 0 [
    ⟨(some 2), .mov (.c (.d (.vs true []))), none, []⟩] false)
  (.seq (.region 1 [
    ⟨(some 3), .mov (.c (.d (.vs true []))), none, []⟩] false)
  (.seq (.seq (.region 2 [
    ⟨(some 4), .mov (.c (.d (.int .i64 (0)))), none, []⟩] false)
  (.block 0 (.loop mask_plain_Rising_1 body_plain_Rising_1)))
  (.mask ⟨[3], [.slot 3 10000030 1]⟩ (.seq (.region 14 [
    ⟨(some 54), .mov (.t 3), none, []⟩,
    ⟨(some 2), .mov (.t 54), none, []⟩] false)
  (.mask ⟨[2], [.slot 2 10000020 1]⟩ (.ret))))))⟩
/-- math/bits.Len32 -/
def code_math_bits_Len32 : AFunc := ⟨19, [.tmp 2],
  .seq (.region 0 [
    ⟨(some 2), .mov (.c (.d (.int .i64 (0)))), none, []⟩] false)
  (.seq (.seq (.region 1 [
    ⟨(some 3), .mov (.t 0), none, []⟩,
    ⟨(some 4), .bin .geq (.t 3) (.c (.d (.int .u32 (65536)))), none, []⟩] false)
  (.cond (.t 4)
    (.seq (.region 2 [
      ⟨(some 5), .mov (.t 0), none, []⟩,
      ⟨(some 6), .bin .shr (.t 5) (.c (.d (.int .u64 (16)))), none, []⟩,
      ⟨(some 0), .mov (.t 6), none, []⟩] false)
    (.region 3 [
      ⟨(some 2), .mov (.c (.d (.int .i64 (16)))), none, []⟩] false))
    (.skip)))
  (.mask ⟨[0, 2], []⟩ (.seq (.seq (.region 4 [
    ⟨(some 7), .mov (.t 0), none, []⟩,
    ⟨(some 8), .bin .geq (.t 7) (.c (.d (.int .u32 (256)))), none, []⟩] false)
  (.cond (.t 8)
    (.seq (.region 5 [
      ⟨(some 9), .mov (.t 0), none, []⟩,
      ⟨(some 10), .bin .shr (.t 9) (.c (.d (.int .u64 (8)))), none, []⟩,
      ⟨(some 0), .mov (.t 10), none, []⟩] false)
    (.region 6 [
      ⟨(some 11), .mov (.t 2), none, []⟩,
      ⟨(some 12), .bin .add (.t 11) (.c (.d (.int .i64 (8)))), none, []⟩,
      ⟨(some 2), .mov (.t 12), none, []⟩] false))
    (.skip)))
  (.mask ⟨[0, 2], []⟩ (.seq (.region 7 [
    ⟨(some 13), .mov (.t 2), none, []⟩,
    ⟨(some 14), .mov (.t 0), none, []⟩,
    ⟨(some 15), .toInt .u8 (.t 14), none, []⟩,
    ⟨(some 16), .idx (.c (.d (.str [0, 1, 2, 2, 3, 3, 3, 3, 4, 4, 4, 4, 4, 4, 4, 4, 5, 5, 5, 5, 5, 5, 5, 5, 5, 5, 5, 5, 5, 5, 5, 5, 6, 6, 6, 6, 6, 6, 6, 6, 6, 6, 6, 6, 6, 6, 6, 6, 6, 6, 6, 6, 6, 6, 6, 6, 6, 6, 6, 6, 6, 6, 6, 6, 7, 7, 7, 7, 7, 7, 7, 7, 7, 7, 7, 7, 7, 7, 7, 7, 7, 7, 7, 7, 7, 7, 7, 7, 7, 7, 7, 7, 7, 7, 7, 7, 7, 7, 7, 7, 7, 7, 7, 7, 7, 7, 7, 7, 7, 7, 7, 7, 7, 7, 7, 7, 7, 7, 7, 7, 7, 7, 7, 7, 7, 7, 7, 7, 8, 8, 8, 8, 8, 8, 8, 8, 8, 8, 8, 8, 8, 8, 8, 8, 8, 8, 8, 8, 8, 8, 8, 8, 8, 8, 8, 8, 8, 8, 8, 8, 8, 8, 8, 8, 8, 8, 8, 8, 8, 8, 8, 8, 8, 8, 8, 8, 8, 8, 8, 8, 8, 8, 8, 8, 8, 8, 8, 8, 8, 8, 8, 8, 8, 8, 8, 8, 8, 8, 8, 8, 8, 8, 8, 8, 8, 8, 8, 8, 8, 8, 8, 8, 8, 8, 8, 8, 8, 8, 8, 8, 8, 8, 8, 8, 8, 8, 8, 8, 8, 8, 8, 8, 8, 8, 8, 8, 8, 8, 8, 8, 8, 8, 8, 8, 8, 8, 8, 8, 8, 8, 8, 8, 8, 8, 8, 8]))) (.t 15), none, []⟩,
    ⟨(some 17), .toInt .i64 (.t 16), none, []⟩,
    ⟨(some 18), .bin .add (.t 13) (.t 17), none, []⟩,
    ⟨(some 2), .mov (.t 18), none, []⟩] false)
  (.mask ⟨[2], []⟩ (.ret)))))))⟩
/-- math/bits.Len64 -/
def code_math_bits_Len64 : AFunc := ⟨25, [.tmp 2],
  .seq (.region 0 [
    ⟨(some 2), .mov (.c (.d (.int .i64 (0)))), none, []⟩] false)
  (.seq (.seq (.region 1 [
    ⟨(some 3), .mov (.t 0), none, []⟩,
    ⟨(some 4), .bin .geq (.t 3) (.c (.d (.int .u64 (4294967296)))), none, []⟩] false)
  (.cond (.t 4)
    (.seq (.region 2 [
      ⟨(some 5), .mov (.t 0), none, []⟩,
      ⟨(some 6), .bin .shr (.t 5) (.c (.d (.int .u64 (32)))), none, []⟩,
      ⟨(some 0), .mov (.t 6), none, []⟩] false)
    (.region 3 [
      ⟨(some 2), .mov (.c (.d (.int .i64 (32)))), none, []⟩] false))
    (.skip)))
  (.mask ⟨[0, 2], []⟩ (.seq (.seq (.region 4 [
    ⟨(some 7), .mov (.t 0), none, []⟩,
    ⟨(some 8), .bin .geq (.t 7) (.c (.d (.int .u64 (65536)))), none, []⟩] false)
  (.cond (.t 8)
    (.seq (.region 5 [
      ⟨(some 9), .mov (.t 0), none, []⟩,
      ⟨(some 10), .bin .shr (.t 9) (.c (.d (.int .u64 (16)))), none, []⟩,
      ⟨(some 0), .mov (.t 10), none, []⟩] false)
    (.region 6 [
      ⟨(some 11), .mov (.t 2), none, []⟩,
      ⟨(some 12), .bin .add (.t 11) (.c (.d (.int .i64 (16)))), none, []⟩,
      ⟨(some 2), .mov (.t 12), none, []⟩] false))
    (.skip)))
  (.mask ⟨[0, 2], []⟩ (.seq (.seq (.region 7 [
    ⟨(some 13), .mov (.t 0), none, []⟩,
    ⟨(some 14), .bin .geq (.t 13) (.c (.d (.int .u64 (256)))), none, []⟩] false)
  (.cond (.t 14)
    (.seq (.region 8 [
      ⟨(some 15), .mov (.t 0), none, []⟩,
      ⟨(some 16), .bin .shr (.t 15) (.c (.d (.int .u64 (8)))), none, []⟩,
      ⟨(some 0), .mov (.t 16), none, []⟩] false)
    (.region 9 [
      ⟨(some 17), .mov (.t 2), none, []⟩,
      ⟨(some 18), .bin .add (.t 17) (.c (.d (.int .i64 (8)))), none, []⟩,
      ⟨(some 2), .mov (.t 18), none, []⟩] false))
    (.skip)))
  (.mask ⟨[0, 2], []⟩ (.seq (.region 10 [
    ⟨(some 19), .mov (.t 2), none, []⟩,
    ⟨(some 20), .mov (.t 0), none, []⟩,
    ⟨(some 21), .toInt .u8 (.t 20), none, []⟩,
    ⟨(some 22), .idx (.c (.d (.str [0, 1, 2, 2, 3, 3, 3, 3, 4, 4, 4, 4, 4, 4, 4, 4, 5, 5, 5, 5, 5, 5, 5, 5, 5, 5, 5, 5, 5, 5, 5, 5, 6, 6, 6, 6, 6, 6, 6, 6, 6, 6, 6, 6, 6, 6, 6, 6, 6, 6, 6, 6, 6, 6, 6, 6, 6, 6, 6, 6, 6, 6, 6, 6, 7, 7, 7, 7, 7, 7, 7, 7, 7, 7, 7, 7, 7, 7, 7, 7, 7, 7, 7, 7, 7, 7, 7, 7, 7, 7, 7, 7, 7, 7, 7, 7, 7, 7, 7, 7, 7, 7, 7, 7, 7, 7, 7, 7, 7, 7, 7, 7, 7, 7, 7, 7, 7, 7, 7, 7, 7, 7, 7, 7, 7, 7, 7, 7, 8, 8, 8, 8, 8, 8, 8, 8, 8, 8, 8, 8, 8, 8, 8, 8, 8, 8, 8, 8, 8, 8, 8, 8, 8, 8, 8, 8, 8, 8, 8, 8, 8, 8, 8, 8, 8, 8, 8, 8, 8, 8, 8, 8, 8, 8, 8, 8, 8, 8, 8, 8, 8, 8, 8, 8, 8, 8, 8, 8, 8, 8, 8, 8, 8, 8, 8, 8, 8, 8, 8, 8, 8, 8, 8, 8, 8, 8, 8, 8, 8, 8, 8, 8, 8, 8, 8, 8, 8, 8, 8, 8, 8, 8, 8, 8, 8, 8, 8, 8, 8, 8, 8, 8, 8, 8, 8, 8, 8, 8, 8, 8, 8, 8, 8, 8, 8, 8, 8, 8, 8, 8, 8, 8, 8, 8, 8, 8]))) (.t 21), none, []⟩,
    ⟨(some 23), .toInt .i64 (.t 22), none, []⟩,
    ⟨(some 24), .bin .add (.t 19) (.t 23), none, []⟩,
    ⟨(some 2), .mov (.t 24), none, []⟩] false)
  (.mask ⟨[2], []⟩ (.ret)))))))))⟩
def mask_slices_insertionSortOrdered_string_0 : Mask := ⟨[0, 1, 2, 6, 7], []⟩
def body_slices_insertionSortOrdered_string_0 : ACode :=
  .seq (.seq (.region 4 [
    ⟨(some 16), .mov (.t 7), none, []⟩,
    ⟨(some 17), .mov (.t 1), none, []⟩,
    ⟨(some 18), .bin .gtr (.t 16) (.t 17), none, [0, 1]⟩,
    ⟨(some 19), .mov (.t 18), none, [0, 1, 2]⟩,
    ⟨(some 20), .mov (.t 0), (some (19, true)), [0, 1, 2, 3]⟩,
    ⟨(some 21), .mov (.t 7), (some (19, true)), [0, 1, 2, 3]⟩,
    ⟨(some 22), .iaddr 1 (.t 20) (.t 21), (some (19, true)), [0, 1, 2, 3, 4, 5]⟩,
    ⟨(some 23), .load 1 false (.t 22), (some (19, true)), [0, 1, 2, 3, 4, 5, 6]⟩,
    ⟨(some 24), .mov (.t 0), (some (19, true)), [0, 1, 2, 3]⟩,
    ⟨(some 25), .mov (.t 7), (some (19, true)), [0, 1, 2, 3]⟩,
    ⟨(some 26), .bin .sub (.t 25) (.c (.d (.int .i64 (1)))), (some (19, true)), [0, 1, 2, 3, 9]⟩,
    ⟨(some 27), .iaddr 1 (.t 24) (.t 26), (some (19, true)), [0, 1, 2, 3, 8, 9, 10]⟩,
    ⟨(some 28), .load 1 false (.t 27), (some (19, true)), [0, 1, 2, 3, 8, 9, 10, 11]⟩,
    ⟨(some 29), .call (.c (.fn F_cmp_Less_string [])) [(.t 23), (.t 28)], (some (19, true)), [0, 1, 2, 3, 4, 5, 6, 7, 8, 9, 10, 11, 12]⟩,
    ⟨(some 30), .pick (.t 19) (.t 29) (.c (.d (.bool false))), none, [0, 1, 2, 3, 4, 5, 6, 7, 8, 9, 10, 11, 12, 13]⟩] true)
  (.mask ⟨[0, 1, 2, 6, 7, 30], []⟩ (.cond (.t 30)
    (.skip)
    (.mask ⟨[0, 1, 2, 6], []⟩ (.exit 2)))))
  (.mask ⟨[0, 1, 2, 6, 7], []⟩ (.seq (.block 3 (.region 6 [
    ⟨(some 33), .mov (.t 0), none, []⟩,
    ⟨(some 34), .mov (.t 7), none, []⟩,
    ⟨(some 35), .mov (.t 0), none, []⟩,
    ⟨(some 36), .mov (.t 7), none, []⟩,
    ⟨(some 37), .bin .sub (.t 36) (.c (.d (.int .i64 (1)))), none, [3]⟩,
    ⟨(some 38), .mov (.t 0), none, []⟩,
    ⟨(some 39), .mov (.t 7), none, []⟩,
    ⟨(some 40), .bin .sub (.t 39) (.c (.d (.int .i64 (1)))), none, [6]⟩,
    ⟨(some 41), .iaddr 1 (.t 38) (.t 40), none, [5, 6, 7]⟩,
    ⟨(some 42), .load 1 false (.t 41), none, [5, 6, 7, 8]⟩,
    ⟨(some 43), .mov (.t 0), none, []⟩,
    ⟨(some 44), .mov (.t 7), none, []⟩,
    ⟨(some 45), .iaddr 1 (.t 43) (.t 44), none, [10, 11]⟩,
    ⟨(some 46), .load 1 false (.t 45), none, [10, 11, 12]⟩,
    ⟨(some 47), .iaddr 1 (.t 33) (.t 34), none, [0, 1, 5, 6, 7, 8, 9, 10, 11, 12, 13]⟩,
    ⟨none, .store 1 (.t 47) (.t 42), none, [0, 1, 5, 6, 7, 8, 9, 10, 11, 12, 13, 14]⟩,
    ⟨(some 48), .iaddr 1 (.t 35) (.t 37), none, [0, 1, 2, 3, 4, 5, 6, 7, 8, 9, 10, 11, 12, 13, 14, 15]⟩,
    ⟨none, .store 1 (.t 48) (.t 46), none, [0, 1, 2, 3, 4, 5, 6, 7, 8, 9, 10, 11, 12, 13, 14, 15, 16]⟩] true))
  (.mask ⟨[0, 1, 2, 6, 7], []⟩ (.region 5 [
    ⟨(some 31), .mov (.t 7), none, []⟩,
    ⟨(some 32), .bin .sub (.t 31) (.c (.d (.int .i64 (1)))), none, []⟩,
    ⟨(some 7), .mov (.t 32), none, []⟩] false))))
def mask_slices_insertionSortOrdered_string_1 : Mask := ⟨[0, 1, 2, 6], []⟩
def body_slices_insertionSortOrdered_string_1 : ACode :=
  .seq (.seq (.region 1 [
    ⟨(some 10), .mov (.t 6), none, []⟩,
    ⟨(some 11), .mov (.t 2), none, []⟩,
    ⟨(some 12), .bin .lss (.t 10) (.t 11), none, []⟩] false)
  (.cond (.t 12)
    (.skip)
    (.mask ⟨[], []⟩ (.exit 0))))
  (.mask ⟨[0, 1, 2, 6], []⟩ (.seq (.block 1 (.seq (.region 3 [
    ⟨(some 15), .mov (.t 6), none, []⟩,
    ⟨(some 7), .mov (.t 15), none, []⟩] false)
  (.block 2 (.loop mask_slices_insertionSortOrdered_string_0 body_slices_insertionSortOrdered_string_0))))
  (.mask ⟨[0, 1, 2, 6], []⟩ (.region 2 [
    ⟨(some 13), .mov (.t 6), none, []⟩,
    ⟨(some 14), .bin .add (.t 13) (.c (.d (.int .i64 (1)))), none, []⟩,
    ⟨(some 6), .mov (.t 14), none, []⟩] false))))
/-- slices.insertionSortOrdered[string] -/
def code_slices_insertionSortOrdered_string : AFunc := ⟨49, [],
  .seq (.region 0 [
    ⟨(some 8), .mov (.t 1), none, []⟩,
    ⟨(some 9), .bin .add (.t 8) (.c (.d (.int .i64 (1)))), none, []⟩,
    ⟨(some 6), .mov (.t 9), none, []⟩] false)
  (.block 0 (.loop mask_slices_insertionSortOrdered_string_1 body_slices_insertionSortOrdered_string_1))⟩
def mask_slices_heapSortOrdered_string_0 : Mask := ⟨[0, 6, 7, 8, 9], []⟩
def body_slices_heapSortOrdered_string_0 : ACode :=
  .seq (.seq (.region 4 [
    ⟨(some 18), .mov (.t 9), none, []⟩,
    ⟨(some 19), .bin .geq (.t 18) (.c (.d (.int .i64 (0)))), none, []⟩] false)
  (.cond (.t 19)
    (.skip)
    (.mask ⟨[0, 6, 7, 8], []⟩ (.exit 0))))
  (.mask ⟨[0, 6, 7, 8, 9], []⟩ (.seq (.block 1 (.region 6 [
    ⟨(some 22), .mov (.t 0), none, []⟩,
    ⟨(some 23), .mov (.t 9), none, []⟩,
    ⟨(some 24), .mov (.t 8), none, []⟩,
    ⟨(some 25), .mov (.t 6), none, []⟩,
    ⟨(some 26), .call (.c (.fn F_slices_siftDownOrdered_string [])) [(.t 22), (.t 23), (.t 24), (.t 25)], none, []⟩] false))
  (.mask ⟨[0, 6, 7, 8, 9], []⟩ (.region 5 [
    ⟨(some 20), .mov (.t 9), none, []⟩,
    ⟨(some 21), .bin .sub (.t 20) (.c (.d (.int .i64 (1)))), none, []⟩,
    ⟨(some 9), .mov (.t 21), none, []⟩] false))))
def mask_slices_heapSortOrdered_string_1 : Mask := ⟨[0, 6, 7, 10], []⟩
def body_slices_heapSortOrdered_string_1 : ACode :=
  .seq (.seq (.region 8 [
    ⟨(some 29), .mov (.t 10), none, []⟩,
    ⟨(some 30), .bin .geq (.t 29) (.c (.d (.int .i64 (0)))), none, []⟩] false)
  (.cond (.t 30)
    (.skip)
    (.mask ⟨[], []⟩ (.exit 2))))
  (.mask ⟨[0, 6, 7, 10], []⟩ (.seq (.block 3 (.seq (.region 10 [
    ⟨(some 33), .mov (.t 0), none, []⟩,
    ⟨(some 34), .mov (.t 6), none, []⟩,
    ⟨(some 35), .mov (.t 0), none, []⟩,
    ⟨(some 36), .mov (.t 6), none, []⟩,
    ⟨(some 37), .mov (.t 10), none, []⟩,
    ⟨(some 38), .bin .add (.t 36) (.t 37), none, [3, 4]⟩,
    ⟨(some 39), .mov (.t 0), none, []⟩,
    ⟨(some 40), .mov (.t 6), none, []⟩,
    ⟨(some 41), .mov (.t 10), none, []⟩,
    ⟨(some 42), .bin .add (.t 40) (.t 41), none, [7, 8]⟩,
    ⟨(some 43), .iaddr 1 (.t 39) (.t 42), none, [6, 7, 8, 9]⟩,
    ⟨(some 44), .load 1 false (.t 43), none, [6, 7, 8, 9, 10]⟩,
    ⟨(some 45), .mov (.t 0), none, []⟩,
    ⟨(some 46), .mov (.t 6), none, []⟩,
    ⟨(some 47), .iaddr 1 (.t 45) (.t 46), none, [12, 13]⟩,
    ⟨(some 48), .load 1 false (.t 47), none, [12, 13, 14]⟩,
    ⟨(some 49), .iaddr 1 (.t 33) (.t 34), none, [0, 1, 6, 7, 8, 9, 10, 11, 12, 13, 14, 15]⟩,
    ⟨none, .store 1 (.t 49) (.t 44), none, [0, 1, 6, 7, 8, 9, 10, 11, 12, 13, 14, 15, 16]⟩,
    ⟨(some 50), .iaddr 1 (.t 35) (.t 38), none, [0, 1, 2, 3, 4, 5, 6, 7, 8, 9, 10, 11, 12, 13, 14, 15, 16, 17]⟩,
    ⟨none, .store 1 (.t 50) (.t 48), none, [0, 1, 2, 3, 4, 5, 6, 7, 8, 9, 10, 11, 12, 13, 14, 15, 16, 17, 18]⟩] true)
  (.region 11 [
    ⟨(some 51), .mov (.t 0), none, []⟩,
    ⟨(some 52), .mov (.t 7), none, []⟩,
    ⟨(some 53), .mov (.t 10), none, []⟩,
    ⟨(some 54), .mov (.t 6), none, []⟩,
    ⟨(some 55), .call (.c (.fn F_slices_siftDownOrdered_string [])) [(.t 51), (.t 52), (.t 53), (.t 54)], none, []⟩] false)))
  (.mask ⟨[0, 6, 7, 10], []⟩ (.region 9 [
    ⟨(some 31), .mov (.t 10), none, []⟩,
    ⟨(some 32), .bin .sub (.t 31) (.c (.d (.int .i64 (1)))), none, []⟩,
    ⟨(some 10), .mov (.t 32), none, []⟩] false))))
/-- slices.heapSortOrdered[string] -/
def code_slices_heapSortOrdered_string : AFunc := ⟨56, [],
  .seq (.region 0 [
    ⟨(some 11), .mov (.t 1), none, []⟩,
    ⟨(some 6), .mov (.t 11), none, []⟩] false)
  (.seq (.region 1 [
    ⟨(some 7), .mov (.c (.d (.int .i64 (0)))), none, []⟩] false)
  (.seq (.region 2 [
    ⟨(some 12), .mov (.t 2), none, []⟩,
    ⟨(some 13), .mov (.t 1), none, []⟩,
    ⟨(some 14), .bin .sub (.t 12) (.t 13), none, []⟩,
    ⟨(some 8), .mov (.t 14), none, []⟩] false)
  (.seq (.seq (.region 3 [
    ⟨(some 15), .mov (.t 8), none, []⟩,
    ⟨(some 16), .bin .sub (.t 15) (.c (.d (.int .i64 (1)))), none, []⟩,
    ⟨(some 17), .bin .quo (.t 16) (.c (.d (.int .i64 (2)))), none, []⟩,
    ⟨(some 9), .mov (.t 17), none, []⟩] false)
  (.block 0 (.loop mask_slices_heapSortOrdered_string_0 body_slices_heapSortOrdered_string_0)))
  (.mask ⟨[0, 6, 7, 8], []⟩ (.seq (.region 7 [
    ⟨(some 27), .mov (.t 8), none, []⟩,
    ⟨(some 28), .bin .sub (.t 27) (.c (.d (.int .i64 (1)))), none, []⟩,
    ⟨(some 10), .mov (.t 28), none, []⟩] false)
  (.block 2 (.loop mask_slices_heapSortOrdered_string_1 body_slices_heapSortOrdered_string_1)))))))⟩
def mask_slices_breakPatternsOrdered_string_0 : Mask := ⟨[0, 1, 6, 7, 8, 9], []⟩
def body_slices_breakPatternsOrdered_string_0 : ACode :=
  .seq (.seq (.region 5 [
    ⟨(some 26), .mov (.t 9), none, []⟩,
    ⟨(some 27), .mov (.t 1), none, []⟩,
    ⟨(some 28), .mov (.t 6), none, []⟩,
    ⟨(some 29), .bin .quo (.t 28) (.c (.d (.int .i64 (4)))), none, []⟩,
    ⟨(some 30), .bin .mul (.t 29) (.c (.d (.int .i64 (2)))), none, []⟩,
    ⟨(some 31), .bin .add (.t 27) (.t 30), none, []⟩,
    ⟨(some 32), .bin .add (.t 31) (.c (.d (.int .i64 (1)))), none, []⟩,
    ⟨(some 33), .bin .leq (.t 26) (.t 32), none, []⟩] false)
  (.cond (.t 33)
    (.skip)
    (.mask ⟨[], []⟩ (.exit 0))))
  (.mask ⟨[0, 1, 6, 7, 8, 9], []⟩ (.seq (.block 1 (.seq (.region 7 [
    ⟨(some 36), .call (.c (.fn F_slices_xorshift_Next [])) [(.t 7)], none, []⟩,
    ⟨(some 37), .mov (.t 8), none, []⟩,
    ⟨(some 38), .bin .sub (.t 37) (.c (.d (.int .u64 (1)))), none, []⟩,
    ⟨(some 39), .bin .and (.t 36) (.t 38), none, []⟩,
    ⟨(some 40), .toInt .i64 (.t 39), none, []⟩,
    ⟨(some 10), .mov (.t 40), none, []⟩] false)
  (.seq (.seq (.region 8 [
    ⟨(some 41), .mov (.t 10), none, []⟩,
    ⟨(some 42), .mov (.t 6), none, []⟩,
    ⟨(some 43), .bin .geq (.t 41) (.t 42), none, []⟩] false)
  (.cond (.t 43)
    (.region 9 [
      ⟨(some 44), .mov (.t 10), none, []⟩,
      ⟨(some 45), .mov (.t 6), none, []⟩,
      ⟨(some 46), .bin .sub (.t 44) (.t 45), none, []⟩,
      ⟨(some 10), .mov (.t 46), none, []⟩] false)
    (.skip)))
  (.mask ⟨[0, 1, 6, 7, 8, 9, 10], []⟩ (.region 10 [
    ⟨(some 47), .mov (.t 0), none, []⟩,
    ⟨(some 48), .mov (.t 9), none, []⟩,
    ⟨(some 49), .mov (.t 0), none, []⟩,
    ⟨(some 50), .mov (.t 1), none, []⟩,
    ⟨(some 51), .mov (.t 10), none, []⟩,
    ⟨(some 52), .bin .add (.t 50) (.t 51), none, [3, 4]⟩,
    ⟨(some 53), .mov (.t 0), none, []⟩,
    ⟨(some 54), .mov (.t 1), none, []⟩,
    ⟨(some 55), .mov (.t 10), none, []⟩,
    ⟨(some 56), .bin .add (.t 54) (.t 55), none, [7, 8]⟩,
    ⟨(some 57), .iaddr 1 (.t 53) (.t 56), none, [6, 7, 8, 9]⟩,
    ⟨(some 58), .load 1 false (.t 57), none, [6, 7, 8, 9, 10]⟩,
    ⟨(some 59), .mov (.t 0), none, []⟩,
    ⟨(some 60), .mov (.t 9), none, []⟩,
    ⟨(some 61), .iaddr 1 (.t 59) (.t 60), none, [12, 13]⟩,
    ⟨(some 62), .load 1 false (.t 61), none, [12, 13, 14]⟩,
    ⟨(some 63), .iaddr 1 (.t 47) (.t 48), none, [0, 1, 6, 7, 8, 9, 10, 11, 12, 13, 14, 15]⟩,
    ⟨none, .store 1 (.t 63) (.t 58), none, [0, 1, 6, 7, 8, 9, 10, 11, 12, 13, 14, 15, 16]⟩,
    ⟨(some 64), .iaddr 1 (.t 49) (.t 52), none, [0, 1, 2, 3, 4, 5, 6, 7, 8, 9, 10, 11, 12, 13, 14, 15, 16, 17]⟩,
    ⟨none, .store 1 (.t 64) (.t 62), none, [0, 1, 2, 3, 4, 5, 6, 7, 8, 9, 10, 11, 12, 13, 14, 15, 16, 17, 18]⟩] true)))))
  (.mask ⟨[0, 1, 6, 7, 8, 9], []⟩ (.region 6 [
    ⟨(some 34), .mov (.t 9), none, []⟩,
    ⟨(some 35), .bin .add (.t 34) (.c (.d (.int .i64 (1)))), none, []⟩,
    ⟨(some 9), .mov (.t 35), none, []⟩] false))))
/-- slices.breakPatternsOrdered[string] -/
def code_slices_breakPatternsOrdered_string : AFunc := ⟨65, [],
  .seq (.region 0 [
    ⟨(some 11), .mov (.t 2), none, []⟩,
    ⟨(some 12), .mov (.t 1), none, []⟩,
    ⟨(some 13), .bin .sub (.t 11) (.t 12), none, []⟩,
    ⟨(some 6), .mov (.t 13), none, []⟩] false)
  (.seq (.region 1 [
    ⟨(some 14), .mov (.t 6), none, []⟩,
    ⟨(some 15), .bin .geq (.t 14) (.c (.d (.int .i64 (8)))), none, []⟩] false)
  (.cond (.t 15)
    (.seq (.region 2 [
      ⟨(some 16), .mov (.t 6), none, []⟩,
      ⟨(some 17), .toInt .u64 (.t 16), none, []⟩,
      ⟨(some 7), .box 1 (.c (.d (.int .u64 (0)))), none, []⟩,
      ⟨none, .store 1 (.t 7) (.t 17), none, []⟩] false)
    (.seq (.region 3 [
      ⟨(some 18), .mov (.t 6), none, []⟩,
      ⟨(some 19), .call (.c (.fn F_slices_nextPowerOfTwo [])) [(.t 18)], none, []⟩,
      ⟨(some 8), .mov (.t 19), none, []⟩] false)
    (.seq (.region 4 [
      ⟨(some 20), .mov (.t 1), none, []⟩,
      ⟨(some 21), .mov (.t 6), none, []⟩,
      ⟨(some 22), .bin .quo (.t 21) (.c (.d (.int .i64 (4)))), none, []⟩,
      ⟨(some 23), .bin .mul (.t 22) (.c (.d (.int .i64 (2)))), none, []⟩,
      ⟨(some 24), .bin .add (.t 20) (.t 23), none, []⟩,
      ⟨(some 25), .bin .sub (.t 24) (.c (.d (.int .i64 (1)))), none, []⟩,
      ⟨(some 9), .mov (.t 25), none, []⟩] false)
    (.block 0 (.loop mask_slices_breakPatternsOrdered_string_0 body_slices_breakPatternsOrdered_string_0)))))
    (.skip)))⟩
/-- slices.choosePivotOrdered[string] -/
def code_slices_choosePivotOrdered_string : AFunc := ⟨57, [.tmp 6, .tmp 7],
  .seq (.region 0 [
    ⟨(some 6), .mov (.c (.d (.int .i64 (0)))), none, []⟩,
    ⟨(some 7), .mov (.c (.d (.int .i64 (0)))), none, []⟩] false)
  (.seq (.region 1 [
    ⟨(some 13), .mov (.t 2), none, []⟩,
    ⟨(some 14), .mov (.t 1), none, []⟩,
    ⟨(some 15), .bin .sub (.t 13) (.t 14), none, []⟩,
    ⟨(some 8), .mov (.t 15), none, []⟩] false)
  (.seq (.region 2 [
    ⟨(some 9), .box 1 (.c (.d (.int .i64 (0)))), none, []⟩] false)
  (.seq (.region 3 [
    ⟨(some 16), .mov (.t 1), none, []⟩,
    ⟨(some 17), .mov (.t 8), none, []⟩,
    ⟨(some 18), .bin .quo (.t 17) (.c (.d (.int .i64 (4)))), none, []⟩,
    ⟨(some 19), .bin .mul (.t 18) (.c (.d (.int .i64 (1)))), none, []⟩,
    ⟨(some 20), .bin .add (.t 16) (.t 19), none, []⟩,
    ⟨(some 10), .mov (.t 20), none, []⟩] false)
  (.seq (.region 4 [
    ⟨(some 21), .mov (.t 1), none, []⟩,
    ⟨(some 22), .mov (.t 8), none, []⟩,
    ⟨(some 23), .bin .quo (.t 22) (.c (.d (.int .i64 (4)))), none, []⟩,
    ⟨(some 24), .bin .mul (.t 23) (.c (.d (.int .i64 (2)))), none, []⟩,
    ⟨(some 25), .bin .add (.t 21) (.t 24), none, []⟩,
    ⟨(some 11), .mov (.t 25), none, []⟩] false)
  (.seq (.region 5 [
    ⟨(some 26), .mov (.t 1), none, []⟩,
    ⟨(some 27), .mov (.t 8), none, []⟩,
    ⟨(some 28), .bin .quo (.t 27) (.c (.d (.int .i64 (4)))), none, []⟩,
    ⟨(some 29), .bin .mul (.t 28) (.c (.d (.int .i64 (3)))), none, []⟩,
    ⟨(some 30), .bin .add (.t 26) (.t 29), none, []⟩,
    ⟨(some 12), .mov (.t 30), none, []⟩] false)
  (.seq (.seq (.region 6 [
    ⟨(some 31), .mov (.t 8), none, []⟩,
    ⟨(some 32), .bin .geq (.t 31) (.c (.d (.int .i64 (8)))), none, []⟩] false)
  (.cond (.t 32)
    (.seq (.seq (.region 7 [
      ⟨(some 33), .mov (.t 8), none, []⟩,
      ⟨(some 34), .bin .geq (.t 33) (.c (.d (.int .i64 (50)))), none, []⟩] false)
    (.cond (.t 34)
      (.seq (.region 8 [
        ⟨(some 35), .mov (.t 0), none, []⟩,
        ⟨(some 36), .mov (.t 10), none, []⟩,
        ⟨(some 37), .call (.c (.fn F_slices_medianAdjacentOrdered_string [])) [(.t 35), (.t 36), (.t 9)], none, []⟩,
        ⟨(some 10), .mov (.t 37), none, []⟩] false)
      (.seq (.region 9 [
        ⟨(some 38), .mov (.t 0), none, []⟩,
        ⟨(some 39), .mov (.t 11), none, []⟩,
        ⟨(some 40), .call (.c (.fn F_slices_medianAdjacentOrdered_string [])) [(.t 38), (.t 39), (.t 9)], none, []⟩,
        ⟨(some 11), .mov (.t 40), none, []⟩] false)
      (.region 10 [
        ⟨(some 41), .mov (.t 0), none, []⟩,
        ⟨(some 42), .mov (.t 12), none, []⟩,
        ⟨(some 43), .call (.c (.fn F_slices_medianAdjacentOrdered_string [])) [(.t 41), (.t 42), (.t 9)], none, []⟩,
        ⟨(some 12), .mov (.t 43), none, []⟩] false)))
      (.skip)))
    (.mask ⟨[0, 9, 10, 11, 12], []⟩ (.region 11 [
      ⟨(some 44), .mov (.t 0), none, []⟩,
      ⟨(some 45), .mov (.t 10), none, []⟩,
      ⟨(some 46), .mov (.t 11), none, []⟩,
      ⟨(some 47), .mov (.t 12), none, []⟩,
      ⟨(some 48), .call (.c (.fn F_slices_medianOrdered_string [])) [(.t 44), (.t 45), (.t 46), (.t 47), (.t 9)], none, []⟩,
      ⟨(some 11), .mov (.t 48), none, []⟩] false)))
    (.skip)))
  (.mask ⟨[9, 11], []⟩ (.seq (.region 12 [
    ⟨(some 49), .load 1 false (.t 9), none, []⟩] false)
  (.block 0 (.seq (.region 14 [
    ⟨(some 52), .bin .eql (.t 49) (.c (.d (.int .i64 (0)))), none, []⟩,
    ⟨(some 51), .mov (.t 52), none, []⟩] false)
  (.cond (.t 51)
    (.seq (.region 15 [
      ⟨(some 53), .mov (.t 11), none, []⟩,
      ⟨(some 6), .mov (.t 53), none, []⟩,
      ⟨(some 7), .mov (.c (.d (.int .i64 (1)))), none, []⟩] false)
    (.mask ⟨[6, 7], []⟩ (.ret)))
    (.seq (.region 16 [
      ⟨(some 55), .bin .eql (.t 49) (.c (.d (.int .i64 (12)))), none, []⟩,
      ⟨(some 54), .mov (.t 55), none, []⟩] false)
    (.cond (.t 54)
      (.seq (.region 17 [
        ⟨(some 56), .mov (.t 11), none, []⟩,
        ⟨(some 6), .mov (.t 56), none, []⟩,
        ⟨(some 7), .mov (.c (.d (.int .i64 (2)))), none, []⟩] false)
      (.mask ⟨[6, 7], []⟩ (.ret)))
      (.seq (.region 13 [
        ⟨(some 50), .mov (.t 11), none, []⟩,
        ⟨(some 6), .mov (.t 50), none, []⟩,
        ⟨(some 7), .mov (.c (.d (.int .i64 (0)))), none, []⟩] false)
      (.mask ⟨[6, 7], []⟩ (.ret))))))))))))))))⟩
def mask_slices_reverseRangeOrdered_string_0 : Mask := ⟨[0, 6, 7], []⟩
def body_slices_reverseRangeOrdered_string_0 : ACode :=
  .seq (.seq (.region 2 [
    ⟨(some 11), .mov (.t 6), none, []⟩,
    ⟨(some 12), .mov (.t 7), none, []⟩,
    ⟨(some 13), .bin .lss (.t 11) (.t 12), none, []⟩] false)
  (.cond (.t 13)
    (.skip)
    (.mask ⟨[], []⟩ (.exit 0))))
  (.mask ⟨[0, 6, 7], []⟩ (.block 1 (.seq (.region 3 [
    ⟨(some 14), .mov (.t 0), none, []⟩,
    ⟨(some 15), .mov (.t 6), none, []⟩,
    ⟨(some 16), .mov (.t 0), none, []⟩,
    ⟨(some 17), .mov (.t 7), none, []⟩,
    ⟨(some 18), .mov (.t 0), none, []⟩,
    ⟨(some 19), .mov (.t 7), none, []⟩,
    ⟨(some 20), .iaddr 1 (.t 18) (.t 19), none, [4, 5]⟩,
    ⟨(some 21), .load 1 false (.t 20), none, [4, 5, 6]⟩,
    ⟨(some 22), .mov (.t 0), none, []⟩,
    ⟨(some 23), .mov (.t 6), none, []⟩,
    ⟨(some 24), .iaddr 1 (.t 22) (.t 23), none, [8, 9]⟩,
    ⟨(some 25), .load 1 false (.t 24), none, [8, 9, 10]⟩,
    ⟨(some 26), .iaddr 1 (.t 14) (.t 15), none, [0, 1, 4, 5, 6, 7, 8, 9, 10, 11]⟩,
    ⟨none, .store 1 (.t 26) (.t 21), none, [0, 1, 4, 5, 6, 7, 8, 9, 10, 11, 12]⟩,
    ⟨(some 27), .iaddr 1 (.t 16) (.t 17), none, [0, 1, 2, 3, 4, 5, 6, 7, 8, 9, 10, 11, 12, 13]⟩,
    ⟨none, .store 1 (.t 27) (.t 25), none, [0, 1, 2, 3, 4, 5, 6, 7, 8, 9, 10, 11, 12, 13, 14]⟩] true)
  (.seq (.region 4 [
    ⟨(some 28), .mov (.t 6), none, []⟩,
    ⟨(some 29), .bin .add (.t 28) (.c (.d (.int .i64 (1)))), none, []⟩,
    ⟨(some 6), .mov (.t 29), none, []⟩] false)
  (.region 5 [
    ⟨(some 30), .mov (.t 7), none, []⟩,
    ⟨(some 31), .bin .sub (.t 30) (.c (.d (.int .i64 (1)))), none, []⟩,
    ⟨(some 7), .mov (.t 31), none, []⟩] false)))))
/-- slices.reverseRangeOrdered[string] -/
def code_slices_reverseRangeOrdered_string : AFunc := ⟨32, [],
  .seq (.region 0 [
    ⟨(some 8), .mov (.t 1), none, []⟩,
    ⟨(some 6), .mov (.t 8), none, []⟩] false)
  (.seq (.region 1 [
    ⟨(some 9), .mov (.t 2), none, []⟩,
    ⟨(some 10), .bin .sub (.t 9) (.c (.d (.int .i64 (1)))), none, []⟩,
    ⟨(some 7), .mov (.t 10), none, []⟩] false)
  (.block 0 (.loop mask_slices_reverseRangeOrdered_string_0 body_slices_reverseRangeOrdered_string_0)))⟩
def mask_slices_partialInsertionSortOrdered_string_0 : Mask := ⟨[0, 1, 2, 7, 8], []⟩
def body_slices_partialInsertionSortOrdered_string_0 : ACode :=
  .seq (.seq (.region 5 [
    ⟨(some 17), .mov (.t 7), none, []⟩,
    ⟨(some 18), .mov (.t 2), none, []⟩,
    ⟨(some 19), .bin .lss (.t 17) (.t 18), none, [0, 1]⟩,
    ⟨(some 20), .mov (.t 19), none, [0, 1, 2]⟩,
    ⟨(some 21), .mov (.t 0), (some (20, true)), [0, 1, 2, 3]⟩,
    ⟨(some 22), .mov (.t 7), (some (20, true)), [0, 1, 2, 3]⟩,
    ⟨(some 23), .iaddr 1 (.t 21) (.t 22), (some (20, true)), [0, 1, 2, 3, 4, 5]⟩,
    ⟨(some 24), .load 1 false (.t 23), (some (20, true)), [0, 1, 2, 3, 4, 5, 6]⟩,
    ⟨(some 25), .mov (.t 0), (some (20, true)), [0, 1, 2, 3]⟩,
    ⟨(some 26), .mov (.t 7), (some (20, true)), [0, 1, 2, 3]⟩,
    ⟨(some 27), .bin .sub (.t 26) (.c (.d (.int .i64 (1)))), (some (20, true)), [0, 1, 2, 3, 9]⟩,
    ⟨(some 28), .iaddr 1 (.t 25) (.t 27), (some (20, true)), [0, 1, 2, 3, 8, 9, 10]⟩,
    ⟨(some 29), .load 1 false (.t 28), (some (20, true)), [0, 1, 2, 3, 8, 9, 10, 11]⟩,
    ⟨(some 30), .call (.c (.fn F_cmp_Less_string [])) [(.t 24), (.t 29)], (some (20, true)), [0, 1, 2, 3, 4, 5, 6, 7, 8, 9, 10, 11, 12]⟩,
    ⟨(some 31), .un .not (.t 30), (some (20, true)), [0, 1, 2, 3, 4, 5, 6, 7, 8, 9, 10, 11, 12, 13]⟩,
    ⟨(some 32), .pick (.t 20) (.t 31) (.c (.d (.bool false))), none, [0, 1, 2, 3, 4, 5, 6, 7, 8, 9, 10, 11, 12, 13, 14]⟩] true)
  (.mask ⟨[0, 1, 2, 7, 8, 32], []⟩ (.cond (.t 32)
    (.skip)
    (.mask ⟨[0, 1, 2, 7, 8], []⟩ (.exit 2)))))
  (.mask ⟨[0, 1, 2, 7, 8], []⟩ (.block 3 (.region 6 [
    ⟨(some 33), .mov (.t 7), none, []⟩,
    ⟨(some 34), .bin .add (.t 33) (.c (.d (.int .i64 (1)))), none, []⟩,
    ⟨(some 7), .mov (.t 34), none, []⟩] false)))
def mask_slices_partialInsertionSortOrdered_string_1 : Mask := ⟨[0, 1, 2, 7, 8, 9], []⟩
def body_slices_partialInsertionSortOrdered_string_1 : ACode :=
  .seq (.seq (.region 14 [
    ⟨(some 64), .mov (.t 9), none, []⟩,
    ⟨(some 65), .bin .geq (.t 64) (.c (.d (.int .i64 (1)))), none, []⟩] false)
  (.cond (.t 65)
    (.skip)
    (.mask ⟨[0, 1, 2, 7, 8], []⟩ (.exit 4))))
  (.mask ⟨[0, 1, 2, 7, 8, 9], []⟩ (.seq (.block 5 (.seq (.seq (.region 16 [
    ⟨(some 68), .mov (.t 0), none, []⟩,
    ⟨(some 69), .mov (.t 9), none, []⟩,
    ⟨(some 70), .iaddr 1 (.t 68) (.t 69), none, [0, 1]⟩,
    ⟨(some 71), .load 1 false (.t 70), none, [0, 1, 2]⟩,
    ⟨(some 72), .mov (.t 0), none, []⟩,
    ⟨(some 73), .mov (.t 9), none, []⟩,
    ⟨(some 74), .bin .sub (.t 73) (.c (.d (.int .i64 (1)))), none, [5]⟩,
    ⟨(some 75), .iaddr 1 (.t 72) (.t 74), none, [4, 5, 6]⟩,
    ⟨(some 76), .load 1 false (.t 75), none, [4, 5, 6, 7]⟩,
    ⟨(some 77), .call (.c (.fn F_cmp_Less_string [])) [(.t 71), (.t 76)], none, [0, 1, 2, 3, 4, 5, 6, 7, 8]⟩,
    ⟨(some 78), .un .not (.t 77), none, [0, 1, 2, 3, 4, 5, 6, 7, 8, 9]⟩] true)
  (.cond (.t 78)
    (.mask ⟨[0, 1, 2, 7, 8], []⟩ (.exit 4))
    (.skip)))
  (.mask ⟨[0, 1, 2, 7, 8, 9], []⟩ (.region 17 [
    ⟨(some 79), .mov (.t 0), none, []⟩,
    ⟨(some 80), .mov (.t 9), none, []⟩,
    ⟨(some 81), .mov (.t 0), none, []⟩,
    ⟨(some 82), .mov (.t 9), none, []⟩,
    ⟨(some 83), .bin .sub (.t 82) (.c (.d (.int .i64 (1)))), none, [3]⟩,
    ⟨(some 84), .mov (.t 0), none, []⟩,
    ⟨(some 85), .mov (.t 9), none, []⟩,
    ⟨(some 86), .bin .sub (.t 85) (.c (.d (.int .i64 (1)))), none, [6]⟩,
    ⟨(some 87), .iaddr 1 (.t 84) (.t 86), none, [5, 6, 7]⟩,
    ⟨(some 88), .load 1 false (.t 87), none, [5, 6, 7, 8]⟩,
    ⟨(some 89), .mov (.t 0), none, []⟩,
    ⟨(some 90), .mov (.t 9), none, []⟩,
    ⟨(some 91), .iaddr 1 (.t 89) (.t 90), none, [10, 11]⟩,
    ⟨(some 92), .load 1 false (.t 91), none, [10, 11, 12]⟩,
    ⟨(some 93), .iaddr 1 (.t 79) (.t 80), none, [0, 1, 5, 6, 7, 8, 9, 10, 11, 12, 13]⟩,
    ⟨none, .store 1 (.t 93) (.t 88), none, [0, 1, 5, 6, 7, 8, 9, 10, 11, 12, 13, 14]⟩,
    ⟨(some 94), .iaddr 1 (.t 81) (.t 83), none, [0, 1, 2, 3, 4, 5, 6, 7, 8, 9, 10, 11, 12, 13, 14, 15]⟩,
    ⟨none, .store 1 (.t 94) (.t 92), none, [0, 1, 2, 3, 4, 5, 6, 7, 8, 9, 10, 11, 12, 13, 14, 15, 16]⟩] true))))
  (.mask ⟨[0, 1, 2, 7, 8, 9], []⟩ (.region 15 [
    ⟨(some 66), .mov (.t 9), none, []⟩,
    ⟨(some 67), .bin .sub (.t 66) (.c (.d (.int .i64 (1)))), none, []⟩,
    ⟨(some 9), .mov (.t 67), none, []⟩] false))))
def mask_slices_partialInsertionSortOrdered_string_2 : Mask := ⟨[0, 1, 2, 7, 8, 10], []⟩
def body_slices_partialInsertionSortOrdered_string_2 : ACode :=
  .seq (.seq (.region 20 [
    ⟨(some 101), .mov (.t 10), none, []⟩,
    ⟨(some 102), .mov (.t 2), none, []⟩,
    ⟨(some 103), .bin .lss (.t 101) (.t 102), none, []⟩] false)
  (.cond (.t 103)
    (.skip)
    (.mask ⟨[0, 1, 2, 7, 8], []⟩ (.exit 6))))
  (.mask ⟨[0, 1, 2, 7, 8, 10], []⟩ (.seq (.block 7 (.seq (.seq (.region 22 [
    ⟨(some 106), .mov (.t 0), none, []⟩,
    ⟨(some 107), .mov (.t 10), none, []⟩,
    ⟨(some 108), .iaddr 1 (.t 106) (.t 107), none, [0, 1]⟩,
    ⟨(some 109), .load 1 false (.t 108), none, [0, 1, 2]⟩,
    ⟨(some 110), .mov (.t 0), none, []⟩,
    ⟨(some 111), .mov (.t 10), none, []⟩,
    ⟨(some 112), .bin .sub (.t 111) (.c (.d (.int .i64 (1)))), none, [5]⟩,
    ⟨(some 113), .iaddr 1 (.t 110) (.t 112), none, [4, 5, 6]⟩,
    ⟨(some 114), .load 1 false (.t 113), none, [4, 5, 6, 7]⟩,
    ⟨(some 115), .call (.c (.fn F_cmp_Less_string [])) [(.t 109), (.t 114)], none, [0, 1, 2, 3, 4, 5, 6, 7, 8]⟩,
    ⟨(some 116), .un .not (.t 115), none, [0, 1, 2, 3, 4, 5, 6, 7, 8, 9]⟩] true)
  (.cond (.t 116)
    (.mask ⟨[0, 1, 2, 7, 8], []⟩ (.exit 6))
    (.skip)))
  (.mask ⟨[0, 1, 2, 7, 8, 10], []⟩ (.region 23 [
    ⟨(some 117), .mov (.t 0), none, []⟩,
    ⟨(some 118), .mov (.t 10), none, []⟩,
    ⟨(some 119), .mov (.t 0), none, []⟩,
    ⟨(some 120), .mov (.t 10), none, []⟩,
    ⟨(some 121), .bin .sub (.t 120) (.c (.d (.int .i64 (1)))), none, [3]⟩,
    ⟨(some 122), .mov (.t 0), none, []⟩,
    ⟨(some 123), .mov (.t 10), none, []⟩,
    ⟨(some 124), .bin .sub (.t 123) (.c (.d (.int .i64 (1)))), none, [6]⟩,
    ⟨(some 125), .iaddr 1 (.t 122) (.t 124), none, [5, 6, 7]⟩,
    ⟨(some 126), .load 1 false (.t 125), none, [5, 6, 7, 8]⟩,
    ⟨(some 127), .mov (.t 0), none, []⟩,
    ⟨(some 128), .mov (.t 10), none, []⟩,
    ⟨(some 129), .iaddr 1 (.t 127) (.t 128), none, [10, 11]⟩,
    ⟨(some 130), .load 1 false (.t 129), none, [10, 11, 12]⟩,
    ⟨(some 131), .iaddr 1 (.t 117) (.t 118), none, [0, 1, 5, 6, 7, 8, 9, 10, 11, 12, 13]⟩,
    ⟨none, .store 1 (.t 131) (.t 126), none, [0, 1, 5, 6, 7, 8, 9, 10, 11, 12, 13, 14]⟩,
    ⟨(some 132), .iaddr 1 (.t 119) (.t 121), none, [0, 1, 2, 3, 4, 5, 6, 7, 8, 9, 10, 11, 12, 13, 14, 15]⟩,
    ⟨none, .store 1 (.t 132) (.t 130), none, [0, 1, 2, 3, 4, 5, 6, 7, 8, 9, 10, 11, 12, 13, 14, 15, 16]⟩] true))))
  (.mask ⟨[0, 1, 2, 7, 8, 10], []⟩ (.region 21 [
    ⟨(some 104), .mov (.t 10), none, []⟩,
    ⟨(some 105), .bin .add (.t 104) (.c (.d (.int .i64 (1)))), none, []⟩,
    ⟨(some 10), .mov (.t 105), none, []⟩] false))))
def mask_slices_partialInsertionSortOrdered_string_3 : Mask := ⟨[0, 1, 2, 7, 8], []⟩
def body_slices_partialInsertionSortOrdered_string_3 : ACode :=
  .seq (.seq (.region 3 [
    ⟨(some 13), .mov (.t 8), none, []⟩,
    ⟨(some 14), .bin .lss (.t 13) (.c (.d (.int .i64 (5)))), none, []⟩] false)
  (.cond (.t 14)
    (.skip)
    (.mask ⟨[], []⟩ (.exit 0))))
  (.mask ⟨[0, 1, 2, 7, 8], []⟩ (.seq (.block 1 (.seq (.block 2 (.loop mask_slices_partialInsertionSortOrdered_string_0 body_slices_partialInsertionSortOrdered_string_0))
  (.mask ⟨[0, 1, 2, 7, 8], []⟩ (.seq (.seq (.region 7 [
    ⟨(some 35), .mov (.t 7), none, []⟩,
    ⟨(some 36), .mov (.t 2), none, []⟩,
    ⟨(some 37), .bin .eql (.t 35) (.t 36), none, []⟩] false)
  (.cond (.t 37)
    (.seq (.region 8 [
      ⟨(some 6), .mov (.c (.d (.bool true))), none, []⟩] false)
    (.mask ⟨[6], []⟩ (.ret)))
    (.skip)))
  (.mask ⟨[0, 1, 2, 7, 8], []⟩ (.seq (.seq (.region 9 [
    ⟨(some 38), .mov (.t 2), none, []⟩,
    ⟨(some 39), .mov (.t 1), none, []⟩,
    ⟨(some 40), .bin .sub (.t 38) (.t 39), none, []⟩,
    ⟨(some 41), .bin .lss (.t 40) (.c (.d (.int .i64 (50)))), none, []⟩] false)
  (.cond (.t 41)
    (.seq (.region 10 [
      ⟨(some 6), .mov (.c (.d (.bool false))), none, []⟩] false)
    (.mask ⟨[6], []⟩ (.ret)))
    (.skip)))
  (.mask ⟨[0, 1, 2, 7, 8], []⟩ (.seq (.region 11 [
    ⟨(some 42), .mov (.t 0), none, []⟩,
    ⟨(some 43), .mov (.t 7), none, []⟩,
    ⟨(some 44), .mov (.t 0), none, []⟩,
    ⟨(some 45), .mov (.t 7), none, []⟩,
    ⟨(some 46), .bin .sub (.t 45) (.c (.d (.int .i64 (1)))), none, [3]⟩,
    ⟨(some 47), .mov (.t 0), none, []⟩,
    ⟨(some 48), .mov (.t 7), none, []⟩,
    ⟨(some 49), .bin .sub (.t 48) (.c (.d (.int .i64 (1)))), none, [6]⟩,
    ⟨(some 50), .iaddr 1 (.t 47) (.t 49), none, [5, 6, 7]⟩,
    ⟨(some 51), .load 1 false (.t 50), none, [5, 6, 7, 8]⟩,
    ⟨(some 52), .mov (.t 0), none, []⟩,
    ⟨(some 53), .mov (.t 7), none, []⟩,
    ⟨(some 54), .iaddr 1 (.t 52) (.t 53), none, [10, 11]⟩,
    ⟨(some 55), .load 1 false (.t 54), none, [10, 11, 12]⟩,
    ⟨(some 56), .iaddr 1 (.t 42) (.t 43), none, [0, 1, 5, 6, 7, 8, 9, 10, 11, 12, 13]⟩,
    ⟨none, .store 1 (.t 56) (.t 51), none, [0, 1, 5, 6, 7, 8, 9, 10, 11, 12, 13, 14]⟩,
    ⟨(some 57), .iaddr 1 (.t 44) (.t 46), none, [0, 1, 2, 3, 4, 5, 6, 7, 8, 9, 10, 11, 12, 13, 14, 15]⟩,
    ⟨none, .store 1 (.t 57) (.t 55), none, [0, 1, 2, 3, 4, 5, 6, 7, 8, 9, 10, 11, 12, 13, 14, 15, 16]⟩] true)
  (.seq (.seq (.region 12 [
    ⟨(some 58), .mov (.t 7), none, []⟩,
    ⟨(some 59), .mov (.t 1), none, []⟩,
    ⟨(some 60), .bin .sub (.t 58) (.t 59), none, []⟩,
    ⟨(some 61), .bin .geq (.t 60) (.c (.d (.int .i64 (2)))), none, []⟩] false)
  (.cond (.t 61)
    (.seq (.region 13 [
      ⟨(some 62), .mov (.t 7), none, []⟩,
      ⟨(some 63), .bin .sub (.t 62) (.c (.d (.int .i64 (1)))), none, []⟩,
      ⟨(some 9), .mov (.t 63), none, []⟩] false)
    (.block 4 (.loop mask_slices_partialInsertionSortOrdered_string_1 body_slices_partialInsertionSortOrdered_string_1)))
    (.skip)))
  (.mask ⟨[0, 1, 2, 7, 8], []⟩ (.seq (.region 18 [
    ⟨(some 95), .mov (.t 2), none, []⟩,
    ⟨(some 96), .mov (.t 7), none, []⟩,
    ⟨(some 97), .bin .sub (.t 95) (.t 96), none, []⟩,
    ⟨(some 98), .bin .geq (.t 97) (.c (.d (.int .i64 (2)))), none, []⟩] false)
  (.cond (.t 98)
    (.seq (.region 19 [
      ⟨(some 99), .mov (.t 7), none, []⟩,
      ⟨(some 100), .bin .add (.t 99) (.c (.d (.int .i64 (1)))), none, []⟩,
      ⟨(some 10), .mov (.t 100), none, []⟩] false)
    (.block 6 (.loop mask_slices_partialInsertionSortOrdered_string_2 body_slices_partialInsertionSortOrdered_string_2)))
    (.skip)))))))))))))
  (.mask ⟨[0, 1, 2, 7, 8], []⟩ (.region 4 [
    ⟨(some 15), .mov (.t 8), none, []⟩,
    ⟨(some 16), .bin .add (.t 15) (.c (.d (.int .i64 (1)))), none, []⟩,
    ⟨(some 8), .mov (.t 16), none, []⟩] false))))
/-- slices.partialInsertionSortOrdered[string] -/
def code_slices_partialInsertionSortOrdered_string : AFunc := ⟨133, [.tmp 6],
  .seq (.region 0 [
    ⟨(some 6), .mov (.c (.d (.bool false))), none, []⟩] false)
  (.seq (.region 1 [
    ⟨(some 11), .mov (.t 1), none, []⟩,
    ⟨(some 12), .bin .add (.t 11) (.c (.d (.int .i64 (1)))), none, []⟩,
    ⟨(some 7), .mov (.t 12), none, []⟩] false)
  (.seq (.seq (.region 2 [
    ⟨(some 8), .mov (.c (.d (.int .i64 (0)))), none, []⟩] false)
  (.block 0 (.loop mask_slices_partialInsertionSortOrdered_string_3 body_slices_partialInsertionSortOrdered_string_3)))
  (.mask ⟨[], []⟩ (.seq (.region 24 [
    ⟨(some 6), .mov (.c (.d (.bool false))), none, []⟩] false)
  (.mask ⟨[6], []⟩ (.ret))))))⟩
/-- cmp.Less[string] -/
def code_cmp_Less_string : AFunc := ⟨17, [.tmp 4],
  .seq (.region 0 [
    ⟨(some 4), .mov (.c (.d (.bool false))), none, []⟩] false)
  (.seq (.region 1 [
    ⟨(some 5), .mov (.t 0), none, []⟩,
    ⟨(some 6), .call (.c (.fn F_cmp_isNaN_string [])) [(.t 5)], none, []⟩,
    ⟨(some 7), .mov (.t 6), none, []⟩,
    ⟨(some 8), .mov (.t 1), (some (7, true)), []⟩,
    ⟨(some 9), .call (.c (.fn F_cmp_isNaN_string [])) [(.t 8)], (some (7, true)), []⟩,
    ⟨(some 10), .un .not (.t 9), (some (7, true)), []⟩,
    ⟨(some 11), .pick (.t 7) (.t 10) (.c (.d (.bool false))), none, []⟩,
    ⟨(some 12), .mov (.t 11), none, []⟩,
    ⟨(some 13), .mov (.t 0), (some (12, false)), []⟩,
    ⟨(some 14), .mov (.t 1), (some (12, false)), []⟩,
    ⟨(some 15), .bin .lss (.t 13) (.t 14), (some (12, false)), []⟩,
    ⟨(some 16), .pick (.t 12) (.c (.d (.bool true))) (.t 15), none, []⟩,
    ⟨(some 4), .mov (.t 16), none, []⟩] false)
  (.mask ⟨[4], []⟩ (.ret)))⟩
def mask_slices_partitionEqualOrdered_string_0 : Mask := ⟨[0, 1, 9, 10], []⟩
def body_slices_partitionEqualOrdered_string_0 : ACode :=
  .seq (.seq (.region 3 [
    ⟨(some 29), .mov (.t 9), none, []⟩,
    ⟨(some 30), .mov (.t 10), none, []⟩,
    ⟨(some 31), .bin .leq (.t 29) (.t 30), none, [0, 1]⟩,
    ⟨(some 32), .mov (.t 31), none, [0, 1, 2]⟩,
    ⟨(some 33), .mov (.t 0), (some (32, true)), [0, 1, 2, 3]⟩,
    ⟨(some 34), .mov (.t 1), (some (32, true)), [0, 1, 2, 3]⟩,
    ⟨(some 35), .iaddr 1 (.t 33) (.t 34), (some (32, true)), [0, 1, 2, 3, 4, 5]⟩,
    ⟨(some 36), .load 1 false (.t 35), (some (32, true)), [0, 1, 2, 3, 4, 5, 6]⟩,
    ⟨(some 37), .mov (.t 0), (some (32, true)), [0, 1, 2, 3]⟩,
    ⟨(some 38), .mov (.t 9), (some (32, true)), [0, 1, 2, 3]⟩,
    ⟨(some 39), .iaddr 1 (.t 37) (.t 38), (some (32, true)), [0, 1, 2, 3, 8, 9]⟩,
    ⟨(some 40), .load 1 false (.t 39), (some (32, true)), [0, 1, 2, 3, 8, 9, 10]⟩,
    ⟨(some 41), .call (.c (.fn F_cmp_Less_string [])) [(.t 36), (.t 40)], (some (32, true)), [0, 1, 2, 3, 4, 5, 6, 7, 8, 9, 10, 11]⟩,
    ⟨(some 42), .un .not (.t 41), (some (32, true)), [0, 1, 2, 3, 4, 5, 6, 7, 8, 9, 10, 11, 12]⟩,
    ⟨(some 43), .pick (.t 32) (.t 42) (.c (.d (.bool false))), none, [0, 1, 2, 3, 4, 5, 6, 7, 8, 9, 10, 11, 12, 13]⟩] true)
  (.mask ⟨[0, 1, 9, 10, 43], []⟩ (.cond (.t 43)
    (.skip)
    (.mask ⟨[0, 1, 9, 10], []⟩ (.exit 2)))))
  (.mask ⟨[0, 1, 9, 10], []⟩ (.block 3 (.region 4 [
    ⟨(some 44), .mov (.t 9), none, []⟩,
    ⟨(some 45), .bin .add (.t 44) (.c (.d (.int .i64 (1)))), none, []⟩,
    ⟨(some 9), .mov (.t 45), none, []⟩] false)))
def mask_slices_partitionEqualOrdered_string_1 : Mask := ⟨[0, 1, 9, 10], []⟩
def body_slices_partitionEqualOrdered_string_1 : ACode :=
  .seq (.seq (.region 5 [
    ⟨(some 46), .mov (.t 9), none, []⟩,
    ⟨(some 47), .mov (.t 10), none, []⟩,
    ⟨(some 48), .bin .leq (.t 46) (.t 47), none, [0, 1]⟩,
    ⟨(some 49), .mov (.t 48), none, [0, 1, 2]⟩,
    ⟨(some 50), .mov (.t 0), (some (49, true)), [0, 1, 2, 3]⟩,
    ⟨(some 51), .mov (.t 1), (some (49, true)), [0, 1, 2, 3]⟩,
    ⟨(some 52), .iaddr 1 (.t 50) (.t 51), (some (49, true)), [0, 1, 2, 3, 4, 5]⟩,
    ⟨(some 53), .load 1 false (.t 52), (some (49, true)), [0, 1, 2, 3, 4, 5, 6]⟩,
    ⟨(some 54), .mov (.t 0), (some (49, true)), [0, 1, 2, 3]⟩,
    ⟨(some 55), .mov (.t 10), (some (49, true)), [0, 1, 2, 3]⟩,
    ⟨(some 56), .iaddr 1 (.t 54) (.t 55), (some (49, true)), [0, 1, 2, 3, 8, 9]⟩,
    ⟨(some 57), .load 1 false (.t 56), (some (49, true)), [0, 1, 2, 3, 8, 9, 10]⟩,
    ⟨(some 58), .call (.c (.fn F_cmp_Less_string [])) [(.t 53), (.t 57)], (some (49, true)), [0, 1, 2, 3, 4, 5, 6, 7, 8, 9, 10, 11]⟩,
    ⟨(some 59), .pick (.t 49) (.t 58) (.c (.d (.bool false))), none, [0, 1, 2, 3, 4, 5, 6, 7, 8, 9, 10, 11, 12]⟩] true)
  (.mask ⟨[0, 1, 9, 10, 59], []⟩ (.cond (.t 59)
    (.skip)
    (.mask ⟨[0, 1, 9, 10], []⟩ (.exit 4)))))
  (.mask ⟨[0, 1, 9, 10], []⟩ (.block 5 (.region 6 [
    ⟨(some 60), .mov (.t 10), none, []⟩,
    ⟨(some 61), .bin .sub (.t 60) (.c (.d (.int .i64 (1)))), none, []⟩,
    ⟨(some 10), .mov (.t 61), none, []⟩] false)))
def mask_slices_partitionEqualOrdered_string_2 : Mask := ⟨[0, 1, 9, 10], []⟩
def body_slices_partitionEqualOrdered_string_2 : ACode :=
  .block 1 (.seq (.block 2 (.loop mask_slices_partitionEqualOrdered_string_0 body_slices_partitionEqualOrdered_string_0))
  (.mask ⟨[0, 1, 9, 10], []⟩ (.seq (.block 4 (.loop mask_slices_partitionEqualOrdered_string_1 body_slices_partitionEqualOrdered_string_1))
  (.mask ⟨[0, 1, 9, 10], []⟩ (.seq (.seq (.region 7 [
    ⟨(some 62), .mov (.t 9), none, []⟩,
    ⟨(some 63), .mov (.t 10), none, []⟩,
    ⟨(some 64), .bin .gtr (.t 62) (.t 63), none, []⟩] false)
  (.cond (.t 64)
    (.mask ⟨[9], []⟩ (.exit 0))
    (.skip)))
  (.mask ⟨[0, 1, 9, 10], []⟩ (.seq (.region 8 [
    ⟨(some 65), .mov (.t 0), none, []⟩,
    ⟨(some 66), .mov (.t 9), none, []⟩,
    ⟨(some 67), .mov (.t 0), none, []⟩,
    ⟨(some 68), .mov (.t 10), none, []⟩,
    ⟨(some 69), .mov (.t 0), none, []⟩,
    ⟨(some 70), .mov (.t 10), none, []⟩,
    ⟨(some 71), .iaddr 1 (.t 69) (.t 70), none, [4, 5]⟩,
    ⟨(some 72), .load 1 false (.t 71), none, [4, 5, 6]⟩,
    ⟨(some 73), .mov (.t 0), none, []⟩,
    ⟨(some 74), .mov (.t 9), none, []⟩,
    ⟨(some 75), .iaddr 1 (.t 73) (.t 74), none, [8, 9]⟩,
    ⟨(some 76), .load 1 false (.t 75), none, [8, 9, 10]⟩,
    ⟨(some 77), .iaddr 1 (.t 65) (.t 66), none, [0, 1, 4, 5, 6, 7, 8, 9, 10, 11]⟩,
    ⟨none, .store 1 (.t 77) (.t 72), none, [0, 1, 4, 5, 6, 7, 8, 9, 10, 11, 12]⟩,
    ⟨(some 78), .iaddr 1 (.t 67) (.t 68), none, [0, 1, 2, 3, 4, 5, 6, 7, 8, 9, 10, 11, 12, 13]⟩,
    ⟨none, .store 1 (.t 78) (.t 76), none, [0, 1, 2, 3, 4, 5, 6, 7, 8, 9, 10, 11, 12, 13, 14]⟩] true)
  (.seq (.region 9 [
    ⟨(some 79), .mov (.t 9), none, []⟩,
    ⟨(some 80), .bin .add (.t 79) (.c (.d (.int .i64 (1)))), none, []⟩,
    ⟨(some 9), .mov (.t 80), none, []⟩] false)
  (.region 10 [
    ⟨(some 81), .mov (.t 10), none, []⟩,
    ⟨(some 82), .bin .sub (.t 81) (.c (.d (.int .i64 (1)))), none, []⟩,
    ⟨(some 10), .mov (.t 82), none, []⟩] false)))))))))
/-- slices.partitionEqualOrdered[string] -/
def code_slices_partitionEqualOrdered_string : AFunc := ⟨84, [.tmp 8],
  .seq (.region 0 [
    ⟨(some 8), .mov (.c (.d (.int .i64 (0)))), none, []⟩] false)
  (.seq (.region 1 [
    ⟨(some 11), .mov (.t 0), none, []⟩,
    ⟨(some 12), .mov (.t 1), none, []⟩,
    ⟨(some 13), .mov (.t 0), none, []⟩,
    ⟨(some 14), .mov (.t 3), none, []⟩,
    ⟨(some 15), .mov (.t 0), none, []⟩,
    ⟨(some 16), .mov (.t 3), none, []⟩,
    ⟨(some 17), .iaddr 1 (.t 15) (.t 16), none, [4, 5]⟩,
    ⟨(some 18), .load 1 false (.t 17), none, [4, 5, 6]⟩,
    ⟨(some 19), .mov (.t 0), none, []⟩,
    ⟨(some 20), .mov (.t 1), none, []⟩,
    ⟨(some 21), .iaddr 1 (.t 19) (.t 20), none, [8, 9]⟩,
    ⟨(some 22), .load 1 false (.t 21), none, [8, 9, 10]⟩,
    ⟨(some 23), .iaddr 1 (.t 11) (.t 12), none, [0, 1, 4, 5, 6, 7, 8, 9, 10, 11]⟩,
    ⟨none, .store 1 (.t 23) (.t 18), none, [0, 1, 4, 5, 6, 7, 8, 9, 10, 11, 12]⟩,
    ⟨(some 24), .iaddr 1 (.t 13) (.t 14), none, [0, 1, 2, 3, 4, 5, 6, 7, 8, 9, 10, 11, 12, 13]⟩,
    ⟨none, .store 1 (.t 24) (.t 22), none, [0, 1, 2, 3, 4, 5, 6, 7, 8, 9, 10, 11, 12, 13, 14]⟩] true)
  (.seq (.region 2 [
    ⟨(some 25), .mov (.t 1), none, []⟩,
    ⟨(some 26), .bin .add (.t 25) (.c (.d (.int .i64 (1)))), none, []⟩,
    ⟨(some 27), .mov (.t 2), none, []⟩,
    ⟨(some 28), .bin .sub (.t 27) (.c (.d (.int .i64 (1)))), none, []⟩,
    ⟨(some 9), .mov (.t 26), none, []⟩,
    ⟨(some 10), .mov (.t 28), none, []⟩] false)
  (.seq (.block 0 (.loop mask_slices_partitionEqualOrdered_string_2 body_slices_partitionEqualOrdered_string_2))
  (.mask ⟨[9], []⟩ (.seq (.region 11 [
    ⟨(some 83), .mov (.t 9), none, []⟩,
    ⟨(some 8), .mov (.t 83), none, []⟩] false)
  (.mask ⟨[8], []⟩ (.ret)))))))⟩
def mask_slices_partitionOrdered_string_0 : Mask := ⟨[0, 1, 10, 11], []⟩
def body_slices_partitionOrdered_string_0 : ACode :=
  .seq (.seq (.region 3 [
    ⟨(some 30), .mov (.t 10), none, []⟩,
    ⟨(some 31), .mov (.t 11), none, []⟩,
    ⟨(some 32), .bin .leq (.t 30) (.t 31), none, [0, 1]⟩,
    ⟨(some 33), .mov (.t 32), none, [0, 1, 2]⟩,
    ⟨(some 34), .mov (.t 0), (some (33, true)), [0, 1, 2, 3]⟩,
    ⟨(some 35), .mov (.t 10), (some (33, true)), [0, 1, 2, 3]⟩,
    ⟨(some 36), .iaddr 1 (.t 34) (.t 35), (some (33, true)), [0, 1, 2, 3, 4, 5]⟩,
    ⟨(some 37), .load 1 false (.t 36), (some (33, true)), [0, 1, 2, 3, 4, 5, 6]⟩,
    ⟨(some 38), .mov (.t 0), (some (33, true)), [0, 1, 2, 3]⟩,
    ⟨(some 39), .mov (.t 1), (some (33, true)), [0, 1, 2, 3]⟩,
    ⟨(some 40), .iaddr 1 (.t 38) (.t 39), (some (33, true)), [0, 1, 2, 3, 8, 9]⟩,
    ⟨(some 41), .load 1 false (.t 40), (some (33, true)), [0, 1, 2, 3, 8, 9, 10]⟩,
    ⟨(some 42), .call (.c (.fn F_cmp_Less_string [])) [(.t 37), (.t 41)], (some (33, true)), [0, 1, 2, 3, 4, 5, 6, 7, 8, 9, 10, 11]⟩,
    ⟨(some 43), .pick (.t 33) (.t 42) (.c (.d (.bool false))), none, [0, 1, 2, 3, 4, 5, 6, 7, 8, 9, 10, 11, 12]⟩] true)
  (.mask ⟨[0, 1, 10, 11, 43], []⟩ (.cond (.t 43)
    (.skip)
    (.mask ⟨[0, 1, 10, 11], []⟩ (.exit 0)))))
  (.mask ⟨[0, 1, 10, 11], []⟩ (.block 1 (.region 4 [
    ⟨(some 44), .mov (.t 10), none, []⟩,
    ⟨(some 45), .bin .add (.t 44) (.c (.d (.int .i64 (1)))), none, []⟩,
    ⟨(some 10), .mov (.t 45), none, []⟩] false)))
def mask_slices_partitionOrdered_string_1 : Mask := ⟨[0, 1, 10, 11], []⟩
def body_slices_partitionOrdered_string_1 : ACode :=
  .seq (.seq (.region 5 [
    ⟨(some 46), .mov (.t 10), none, []⟩,
    ⟨(some 47), .mov (.t 11), none, []⟩,
    ⟨(some 48), .bin .leq (.t 46) (.t 47), none, [0, 1]⟩,
    ⟨(some 49), .mov (.t 48), none, [0, 1, 2]⟩,
    ⟨(some 50), .mov (.t 0), (some (49, true)), [0, 1, 2, 3]⟩,
    ⟨(some 51), .mov (.t 11), (some (49, true)), [0, 1, 2, 3]⟩,
    ⟨(some 52), .iaddr 1 (.t 50) (.t 51), (some (49, true)), [0, 1, 2, 3, 4, 5]⟩,
    ⟨(some 53), .load 1 false (.t 52), (some (49, true)), [0, 1, 2, 3, 4, 5, 6]⟩,
    ⟨(some 54), .mov (.t 0), (some (49, true)), [0, 1, 2, 3]⟩,
    ⟨(some 55), .mov (.t 1), (some (49, true)), [0, 1, 2, 3]⟩,
    ⟨(some 56), .iaddr 1 (.t 54) (.t 55), (some (49, true)), [0, 1, 2, 3, 8, 9]⟩,
    ⟨(some 57), .load 1 false (.t 56), (some (49, true)), [0, 1, 2, 3, 8, 9, 10]⟩,
    ⟨(some 58), .call (.c (.fn F_cmp_Less_string [])) [(.t 53), (.t 57)], (some (49, true)), [0, 1, 2, 3, 4, 5, 6, 7, 8, 9, 10, 11]⟩,
    ⟨(some 59), .un .not (.t 58), (some (49, true)), [0, 1, 2, 3, 4, 5, 6, 7, 8, 9, 10, 11, 12]⟩,
    ⟨(some 60), .pick (.t 49) (.t 59) (.c (.d (.bool false))), none, [0, 1, 2, 3, 4, 5, 6, 7, 8, 9, 10, 11, 12, 13]⟩] true)
  (.mask ⟨[0, 1, 10, 11, 60], []⟩ (.cond (.t 60)
    (.skip)
    (.mask ⟨[0, 1, 10, 11], []⟩ (.exit 2)))))
  (.mask ⟨[0, 1, 10, 11], []⟩ (.block 3 (.region 6 [
    ⟨(some 61), .mov (.t 11), none, []⟩,
    ⟨(some 62), .bin .sub (.t 61) (.c (.d (.int .i64 (1)))), none, []⟩,
    ⟨(some 11), .mov (.t 62), none, []⟩] false)))
def mask_slices_partitionOrdered_string_2 : Mask := ⟨[0, 1, 10, 11], []⟩
def body_slices_partitionOrdered_string_2 : ACode :=
  .seq (.seq (.region 13 [
    ⟨(some 99), .mov (.t 10), none, []⟩,
    ⟨(some 100), .mov (.t 11), none, []⟩,
    ⟨(some 101), .bin .leq (.t 99) (.t 100), none, [0, 1]⟩,
    ⟨(some 102), .mov (.t 101), none, [0, 1, 2]⟩,
    ⟨(some 103), .mov (.t 0), (some (102, true)), [0, 1, 2, 3]⟩,
    ⟨(some 104), .mov (.t 10), (some (102, true)), [0, 1, 2, 3]⟩,
    ⟨(some 105), .iaddr 1 (.t 103) (.t 104), (some (102, true)), [0, 1, 2, 3, 4, 5]⟩,
    ⟨(some 106), .load 1 false (.t 105), (some (102, true)), [0, 1, 2, 3, 4, 5, 6]⟩,
    ⟨(some 107), .mov (.t 0), (some (102, true)), [0, 1, 2, 3]⟩,
    ⟨(some 108), .mov (.t 1), (some (102, true)), [0, 1, 2, 3]⟩,
    ⟨(some 109), .iaddr 1 (.t 107) (.t 108), (some (102, true)), [0, 1, 2, 3, 8, 9]⟩,
    ⟨(some 110), .load 1 false (.t 109), (some (102, true)), [0, 1, 2, 3, 8, 9, 10]⟩,
    ⟨(some 111), .call (.c (.fn F_cmp_Less_string [])) [(.t 106), (.t 110)], (some (102, true)), [0, 1, 2, 3, 4, 5, 6, 7, 8, 9, 10, 11]⟩,
    ⟨(some 112), .pick (.t 102) (.t 111) (.c (.d (.bool false))), none, [0, 1, 2, 3, 4, 5, 6, 7, 8, 9, 10, 11, 12]⟩] true)
  (.mask ⟨[0, 1, 10, 11, 112], []⟩ (.cond (.t 112)
    (.skip)
    (.mask ⟨[0, 1, 10, 11], []⟩ (.exit 6)))))
  (.mask ⟨[0, 1, 10, 11], []⟩ (.block 7 (.region 14 [
    ⟨(some 113), .mov (.t 10), none, []⟩,
    ⟨(some 114), .bin .add (.t 113) (.c (.d (.int .i64 (1)))), none, []⟩,
    ⟨(some 10), .mov (.t 114), none, []⟩] false)))
def mask_slices_partitionOrdered_string_3 : Mask := ⟨[0, 1, 10, 11], []⟩
def body_slices_partitionOrdered_string_3 : ACode :=
  .seq (.seq (.region 15 [
    ⟨(some 115), .mov (.t 10), none, []⟩,
    ⟨(some 116), .mov (.t 11), none, []⟩,
    ⟨(some 117), .bin .leq (.t 115) (.t 116), none, [0, 1]⟩,
    ⟨(some 118), .mov (.t 117), none, [0, 1, 2]⟩,
    ⟨(some 119), .mov (.t 0), (some (118, true)), [0, 1, 2, 3]⟩,
    ⟨(some 120), .mov (.t 11), (some (118, true)), [0, 1, 2, 3]⟩,
    ⟨(some 121), .iaddr 1 (.t 119) (.t 120), (some (118, true)), [0, 1, 2, 3, 4, 5]⟩,
    ⟨(some 122), .load 1 false (.t 121), (some (118, true)), [0, 1, 2, 3, 4, 5, 6]⟩,
    ⟨(some 123), .mov (.t 0), (some (118, true)), [0, 1, 2, 3]⟩,
    ⟨(some 124), .mov (.t 1), (some (118, true)), [0, 1, 2, 3]⟩,
    ⟨(some 125), .iaddr 1 (.t 123) (.t 124), (some (118, true)), [0, 1, 2, 3, 8, 9]⟩,
    ⟨(some 126), .load 1 false (.t 125), (some (118, true)), [0, 1, 2, 3, 8, 9, 10]⟩,
    ⟨(some 127), .call (.c (.fn F_cmp_Less_string [])) [(.t 122), (.t 126)], (some (118, true)), [0, 1, 2, 3, 4, 5, 6, 7, 8, 9, 10, 11]⟩,
    ⟨(some 128), .un .not (.t 127), (some (118, true)), [0, 1, 2, 3, 4, 5, 6, 7, 8, 9, 10, 11, 12]⟩,
    ⟨(some 129), .pick (.t 118) (.t 128) (.c (.d (.bool false))), none, [0, 1, 2, 3, 4, 5, 6, 7, 8, 9, 10, 11, 12, 13]⟩] true)
  (.mask ⟨[0, 1, 10, 11, 129], []⟩ (.cond (.t 129)
    (.skip)
    (.mask ⟨[0, 1, 10, 11], []⟩ (.exit 8)))))
  (.mask ⟨[0, 1, 10, 11], []⟩ (.block 9 (.region 16 [
    ⟨(some 130), .mov (.t 11), none, []⟩,
    ⟨(some 131), .bin .sub (.t 130) (.c (.d (.int .i64 (1)))), none, []⟩,
    ⟨(some 11), .mov (.t 131), none, []⟩] false)))
def mask_slices_partitionOrdered_string_4 : Mask := ⟨[0, 1, 10, 11], []⟩
def body_slices_partitionOrdered_string_4 : ACode :=
  .block 5 (.seq (.block 6 (.loop mask_slices_partitionOrdered_string_2 body_slices_partitionOrdered_string_2))
  (.mask ⟨[0, 1, 10, 11], []⟩ (.seq (.block 8 (.loop mask_slices_partitionOrdered_string_3 body_slices_partitionOrdered_string_3))
  (.mask ⟨[0, 1, 10, 11], []⟩ (.seq (.seq (.region 17 [
    ⟨(some 132), .mov (.t 10), none, []⟩,
    ⟨(some 133), .mov (.t 11), none, []⟩,
    ⟨(some 134), .bin .gtr (.t 132) (.t 133), none, []⟩] false)
  (.cond (.t 134)
    (.mask ⟨[0, 1, 11], []⟩ (.exit 4))
    (.skip)))
  (.mask ⟨[0, 1, 10, 11], []⟩ (.seq (.region 18 [
    ⟨(some 135), .mov (.t 0), none, []⟩,
    ⟨(some 136), .mov (.t 10), none, []⟩,
    ⟨(some 137), .mov (.t 0), none, []⟩,
    ⟨(some 138), .mov (.t 11), none, []⟩,
    ⟨(some 139), .mov (.t 0), none, []⟩,
    ⟨(some 140), .mov (.t 11), none, []⟩,
    ⟨(some 141), .iaddr 1 (.t 139) (.t 140), none, [4, 5]⟩,
    ⟨(some 142), .load 1 false (.t 141), none, [4, 5, 6]⟩,
    ⟨(some 143), .mov (.t 0), none, []⟩,
    ⟨(some 144), .mov (.t 10), none, []⟩,
    ⟨(some 145), .iaddr 1 (.t 143) (.t 144), none, [8, 9]⟩,
    ⟨(some 146), .load 1 false (.t 145), none, [8, 9, 10]⟩,
    ⟨(some 147), .iaddr 1 (.t 135) (.t 136), none, [0, 1, 4, 5, 6, 7, 8, 9, 10, 11]⟩,
    ⟨none, .store 1 (.t 147) (.t 142), none, [0, 1, 4, 5, 6, 7, 8, 9, 10, 11, 12]⟩,
    ⟨(some 148), .iaddr 1 (.t 137) (.t 138), none, [0, 1, 2, 3, 4, 5, 6, 7, 8, 9, 10, 11, 12, 13]⟩,
    ⟨none, .store 1 (.t 148) (.t 146), none, [0, 1, 2, 3, 4, 5, 6, 7, 8, 9, 10, 11, 12, 13, 14]⟩] true)
  (.seq (.region 19 [
    ⟨(some 149), .mov (.t 10), none, []⟩,
    ⟨(some 150), .bin .add (.t 149) (.c (.d (.int .i64 (1)))), none, []⟩,
    ⟨(some 10), .mov (.t 150), none, []⟩] false)
  (.region 20 [
    ⟨(some 151), .mov (.t 11), none, []⟩,
    ⟨(some 152), .bin .sub (.t 151) (.c (.d (.int .i64 (1)))), none, []⟩,
    ⟨(some 11), .mov (.t 152), none, []⟩] false)))))))))
/-- slices.partitionOrdered[string] -/
def code_slices_partitionOrdered_string : AFunc := ⟨168, [.tmp 8, .tmp 9],
  .seq (.region 0 [
    ⟨(some 8), .mov (.c (.d (.int .i64 (0)))), none, []⟩,
    ⟨(some 9), .mov (.c (.d (.bool false))), none, []⟩] false)
  (.seq (.region 1 [
    ⟨(some 12), .mov (.t 0), none, []⟩,
    ⟨(some 13), .mov (.t 1), none, []⟩,
    ⟨(some 14), .mov (.t 0), none, []⟩,
    ⟨(some 15), .mov (.t 3), none, []⟩,
    ⟨(some 16), .mov (.t 0), none, []⟩,
    ⟨(some 17), .mov (.t 3), none, []⟩,
    ⟨(some 18), .iaddr 1 (.t 16) (.t 17), none, [4, 5]⟩,
    ⟨(some 19), .load 1 false (.t 18), none, [4, 5, 6]⟩,
    ⟨(some 20), .mov (.t 0), none, []⟩,
    ⟨(some 21), .mov (.t 1), none, []⟩,
    ⟨(some 22), .iaddr 1 (.t 20) (.t 21), none, [8, 9]⟩,
    ⟨(some 23), .load 1 false (.t 22), none, [8, 9, 10]⟩,
    ⟨(some 24), .iaddr 1 (.t 12) (.t 13), none, [0, 1, 4, 5, 6, 7, 8, 9, 10, 11]⟩,
    ⟨none, .store 1 (.t 24) (.t 19), none, [0, 1, 4, 5, 6, 7, 8, 9, 10, 11, 12]⟩,
    ⟨(some 25), .iaddr 1 (.t 14) (.t 15), none, [0, 1, 2, 3, 4, 5, 6, 7, 8, 9, 10, 11, 12, 13]⟩,
    ⟨none, .store 1 (.t 25) (.t 23), none, [0, 1, 2, 3, 4, 5, 6, 7, 8, 9, 10, 11, 12, 13, 14]⟩] true)
  (.seq (.region 2 [
    ⟨(some 26), .mov (.t 1), none, []⟩,
    ⟨(some 27), .bin .add (.t 26) (.c (.d (.int .i64 (1)))), none, []⟩,
    ⟨(some 28), .mov (.t 2), none, []⟩,
    ⟨(some 29), .bin .sub (.t 28) (.c (.d (.int .i64 (1)))), none, []⟩,
    ⟨(some 10), .mov (.t 27), none, []⟩,
    ⟨(some 11), .mov (.t 29), none, []⟩] false)
  (.seq (.block 0 (.loop mask_slices_partitionOrdered_string_0 body_slices_partitionOrdered_string_0))
  (.mask ⟨[0, 1, 10, 11], []⟩ (.seq (.block 2 (.loop mask_slices_partitionOrdered_string_1 body_slices_partitionOrdered_string_1))
  (.mask ⟨[0, 1, 10, 11], []⟩ (.seq (.seq (.region 7 [
    ⟨(some 63), .mov (.t 10), none, []⟩,
    ⟨(some 64), .mov (.t 11), none, []⟩,
    ⟨(some 65), .bin .gtr (.t 63) (.t 64), none, []⟩] false)
  (.cond (.t 65)
    (.seq (.region 8 [
      ⟨(some 66), .mov (.t 0), none, []⟩,
      ⟨(some 67), .mov (.t 11), none, []⟩,
      ⟨(some 68), .mov (.t 0), none, []⟩,
      ⟨(some 69), .mov (.t 1), none, []⟩,
      ⟨(some 70), .mov (.t 0), none, []⟩,
      ⟨(some 71), .mov (.t 1), none, []⟩,
      ⟨(some 72), .iaddr 1 (.t 70) (.t 71), none, [4, 5]⟩,
      ⟨(some 73), .load 1 false (.t 72), none, [4, 5, 6]⟩,
      ⟨(some 74), .mov (.t 0), none, []⟩,
      ⟨(some 75), .mov (.t 11), none, []⟩,
      ⟨(some 76), .iaddr 1 (.t 74) (.t 75), none, [8, 9]⟩,
      ⟨(some 77), .load 1 false (.t 76), none, [8, 9, 10]⟩,
      ⟨(some 78), .iaddr 1 (.t 66) (.t 67), none, [0, 1, 4, 5, 6, 7, 8, 9, 10, 11]⟩,
      ⟨none, .store 1 (.t 78) (.t 73), none, [0, 1, 4, 5, 6, 7, 8, 9, 10, 11, 12]⟩,
      ⟨(some 79), .iaddr 1 (.t 68) (.t 69), none, [0, 1, 2, 3, 4, 5, 6, 7, 8, 9, 10, 11, 12, 13]⟩,
      ⟨none, .store 1 (.t 79) (.t 77), none, [0, 1, 2, 3, 4, 5, 6, 7, 8, 9, 10, 11, 12, 13, 14]⟩] true)
    (.seq (.region 9 [
      ⟨(some 80), .mov (.t 11), none, []⟩,
      ⟨(some 8), .mov (.t 80), none, []⟩,
      ⟨(some 9), .mov (.c (.d (.bool true))), none, []⟩] false)
    (.mask ⟨[8, 9], []⟩ (.ret))))
    (.skip)))
  (.mask ⟨[0, 1, 10, 11], []⟩ (.seq (.region 10 [
    ⟨(some 81), .mov (.t 0), none, []⟩,
    ⟨(some 82), .mov (.t 10), none, []⟩,
    ⟨(some 83), .mov (.t 0), none, []⟩,
    ⟨(some 84), .mov (.t 11), none, []⟩,
    ⟨(some 85), .mov (.t 0), none, []⟩,
    ⟨(some 86), .mov (.t 11), none, []⟩,
    ⟨(some 87), .iaddr 1 (.t 85) (.t 86), none, [4, 5]⟩,
    ⟨(some 88), .load 1 false (.t 87), none, [4, 5, 6]⟩,
    ⟨(some 89), .mov (.t 0), none, []⟩,
    ⟨(some 90), .mov (.t 10), none, []⟩,
    ⟨(some 91), .iaddr 1 (.t 89) (.t 90), none, [8, 9]⟩,
    ⟨(some 92), .load 1 false (.t 91), none, [8, 9, 10]⟩,
    ⟨(some 93), .iaddr 1 (.t 81) (.t 82), none, [0, 1, 4, 5, 6, 7, 8, 9, 10, 11]⟩,
    ⟨none, .store 1 (.t 93) (.t 88), none, [0, 1, 4, 5, 6, 7, 8, 9, 10, 11, 12]⟩,
    ⟨(some 94), .iaddr 1 (.t 83) (.t 84), none, [0, 1, 2, 3, 4, 5, 6, 7, 8, 9, 10, 11, 12, 13]⟩,
    ⟨none, .store 1 (.t 94) (.t 92), none, [0, 1, 2, 3, 4, 5, 6, 7, 8, 9, 10, 11, 12, 13, 14]⟩] true)
  (.seq (.region 11 [
    ⟨(some 95), .mov (.t 10), none, []⟩,
    ⟨(some 96), .bin .add (.t 95) (.c (.d (.int .i64 (1)))), none, []⟩,
    ⟨(some 10), .mov (.t 96), none, []⟩] false)
  (.seq (.region 12 [
    ⟨(some 97), .mov (.t 11), none, []⟩,
    ⟨(some 98), .bin .sub (.t 97) (.c (.d (.int .i64 (1)))), none, []⟩,
    ⟨(some 11), .mov (.t 98), none, []⟩] false)
  (.seq (.block 4 (.loop mask_slices_partitionOrdered_string_4 body_slices_partitionOrdered_string_4))
  (.mask ⟨[0, 1, 11], []⟩ (.seq (.region 21 [
    ⟨(some 153), .mov (.t 0), none, []⟩,
    ⟨(some 154), .mov (.t 11), none, []⟩,
    ⟨(some 155), .mov (.t 0), none, []⟩,
    ⟨(some 156), .mov (.t 1), none, []⟩,
    ⟨(some 157), .mov (.t 0), none, []⟩,
    ⟨(some 158), .mov (.t 1), none, []⟩,
    ⟨(some 159), .iaddr 1 (.t 157) (.t 158), none, [4, 5]⟩,
    ⟨(some 160), .load 1 false (.t 159), none, [4, 5, 6]⟩,
    ⟨(some 161), .mov (.t 0), none, []⟩,
    ⟨(some 162), .mov (.t 11), none, []⟩,
    ⟨(some 163), .iaddr 1 (.t 161) (.t 162), none, [8, 9]⟩,
    ⟨(some 164), .load 1 false (.t 163), none, [8, 9, 10]⟩,
    ⟨(some 165), .iaddr 1 (.t 153) (.t 154), none, [0, 1, 4, 5, 6, 7, 8, 9, 10, 11]⟩,
    ⟨none, .store 1 (.t 165) (.t 160), none, [0, 1, 4, 5, 6, 7, 8, 9, 10, 11, 12]⟩,
    ⟨(some 166), .iaddr 1 (.t 155) (.t 156), none, [0, 1, 2, 3, 4, 5, 6, 7, 8, 9, 10, 11, 12, 13]⟩,
    ⟨none, .store 1 (.t 166) (.t 164), none, [0, 1, 2, 3, 4, 5, 6, 7, 8, 9, 10, 11, 12, 13, 14]⟩] true)
  (.seq (.region 22 [
    ⟨(some 167), .mov (.t 11), none, []⟩,
    ⟨(some 8), .mov (.t 167), none, []⟩,
    ⟨(some 9), .mov (.c (.d (.bool false))), none, []⟩] false)
  (.mask ⟨[8, 9], []⟩ (.ret)))))))))))))))))⟩
def mask_plain_In_0 : Mask := ⟨[0, 1, 5], []⟩
def body_plain_In_0 : ACode :=
  .seq (.seq (.region 2 [
    ⟨(some 6), .mov (.t 5), none, []⟩,
    ⟨(some 7), .mov (.t 0), none, []⟩,
    ⟨(some 8), .len .sl (.t 7), none, []⟩,
    ⟨(some 9), .bin .lss (.t 6) (.t 8), none, []⟩] false)
  (.cond (.t 9)
    (.skip)
    (.mask ⟨[], []⟩ (.exit 0))))
  (.mask ⟨[0, 1, 5], []⟩ (.seq (.block 1 (.seq (.region 4 [
    ⟨(some 12), .mov (.t 0), none, []⟩,
    ⟨(some 13), .mov (.t 5), none, []⟩,
    ⟨(some 14), .iaddr 1 (.t 12) (.t 13), none, []⟩,
    ⟨(some 15), .load 1 false (.t 14), none, []⟩,
    ⟨(some 16), .mov (.t 1), none, []⟩,
    ⟨(some 17), .bin .eql (.t 15) (.t 16), none, []⟩] false)
  (.cond (.t 17)
    (.seq (.region 5 [
      ⟨(some 4), .mov (.c (.d (.bool true))), none, []⟩] false)
    (.mask ⟨[4], []⟩ (.ret)))
    (.skip))))
  (.mask ⟨[0, 1, 5], []⟩ (.region 3 [
    ⟨(some 10), .mov (.t 5), none, []⟩,
    ⟨(some 11), .bin .add (.t 10) (.c (.d (.int .i64 (1)))), none, []⟩,
    ⟨(some 5), .mov (.t 11), none, []⟩] false))))
/-- beadle/beadleplain.In -/
def code_plain_In : AFunc := ⟨18, [.tmp 4],
  .seq (.region 0 [
    ⟨(some 4), .mov (.c (.d (.bool false))), none, []⟩] false)
  (.seq (.seq (.region 1 [
    ⟨(some 5), .mov (.c (.d (.int .i64 (0)))), none, []⟩] false)
  (.block 0 (.loop mask_plain_In_0 body_plain_In_0)))
  (.mask ⟨[], []⟩ (.seq (.region 6 [
    ⟨(some 4), .mov (.c (.d (.bool false))), none, []⟩] false)
  (.mask ⟨[4], []⟩ (.ret)))))⟩
def mask_slices_siftDownOrdered_string_0 : Mask := ⟨[0, 2, 3, 8], []⟩
def body_slices_siftDownOrdered_string_0 : ACode :=
  .block 1 (.seq (.region 1 [
    ⟨(some 11), .mov (.t 8), none, []⟩,
    ⟨(some 12), .bin .mul (.c (.d (.int .i64 (2)))) (.t 11), none, []⟩,
    ⟨(some 13), .bin .add (.t 12) (.c (.d (.int .i64 (1)))), none, []⟩,
    ⟨(some 9), .mov (.t 13), none, []⟩] false)
  (.seq (.seq (.region 2 [
    ⟨(some 14), .mov (.t 9), none, []⟩,
    ⟨(some 15), .mov (.t 2), none, []⟩,
    ⟨(some 16), .bin .geq (.t 14) (.t 15), none, []⟩] false)
  (.cond (.t 16)
    (.mask ⟨[], []⟩ (.exit 0))
    (.skip)))
  (.mask ⟨[0, 2, 3, 8, 9], []⟩ (.seq (.seq (.region 3 [
    ⟨(some 17), .mov (.t 9), none, []⟩,
    ⟨(some 18), .bin .add (.t 17) (.c (.d (.int .i64 (1)))), none, [0]⟩,
    ⟨(some 19), .mov (.t 2), none, []⟩,
    ⟨(some 20), .bin .lss (.t 18) (.t 19), none, [0, 1, 2]⟩,
    ⟨(some 21), .mov (.t 20), none, [0, 1, 2, 3]⟩,
    ⟨(some 22), .mov (.t 0), (some (21, true)), [0, 1, 2, 3, 4]⟩,
    ⟨(some 23), .mov (.t 3), (some (21, true)), [0, 1, 2, 3, 4]⟩,
    ⟨(some 24), .mov (.t 9), (some (21, true)), [0, 1, 2, 3, 4]⟩,
    ⟨(some 25), .bin .add (.t 23) (.t 24), (some (21, true)), [0, 1, 2, 3, 4, 6, 7]⟩,
    ⟨(some 26), .iaddr 1 (.t 22) (.t 25), (some (21, true)), [0, 1, 2, 3, 4, 5, 6, 7, 8]⟩,
    ⟨(some 27), .load 1 false (.t 26), (some (21, true)), [0, 1, 2, 3, 4, 5, 6, 7, 8, 9]⟩,
    ⟨(some 28), .mov (.t 0), (some (21, true)), [0, 1, 2, 3, 4]⟩,
    ⟨(some 29), .mov (.t 3), (some (21, true)), [0, 1, 2, 3, 4]⟩,
    ⟨(some 30), .mov (.t 9), (some (21, true)), [0, 1, 2, 3, 4]⟩,
    ⟨(some 31), .bin .add (.t 29) (.t 30), (some (21, true)), [0, 1, 2, 3, 4, 12, 13]⟩,
    ⟨(some 32), .bin .add (.t 31) (.c (.d (.int .i64 (1)))), (some (21, true)), [0, 1, 2, 3, 4, 12, 13, 14]⟩,
    ⟨(some 33), .iaddr 1 (.t 28) (.t 32), (some (21, true)), [0, 1, 2, 3, 4, 11, 12, 13, 14, 15]⟩,
    ⟨(some 34), .load 1 false (.t 33), (some (21, true)), [0, 1, 2, 3, 4, 11, 12, 13, 14, 15, 16]⟩,
    ⟨(some 35), .call (.c (.fn F_cmp_Less_string [])) [(.t 27), (.t 34)], (some (21, true)), [0, 1, 2, 3, 4, 5, 6, 7, 8, 9, 10, 11, 12, 13, 14, 15, 16, 17]⟩,
    ⟨(some 36), .pick (.t 21) (.t 35) (.c (.d (.bool false))), none, [0, 1, 2, 3, 4, 5, 6, 7, 8, 9, 10, 11, 12, 13, 14, 15, 16, 17, 18]⟩] true)
  (.mask ⟨[0, 2, 3, 8, 9, 36], []⟩ (.cond (.t 36)
    (.region 4 [
      ⟨(some 37), .mov (.t 9), none, []⟩,
      ⟨(some 38), .bin .add (.t 37) (.c (.d (.int .i64 (1)))), none, []⟩,
      ⟨(some 9), .mov (.t 38), none, []⟩] false)
    (.skip))))
  (.mask ⟨[0, 2, 3, 8, 9], []⟩ (.seq (.seq (.region 5 [
    ⟨(some 39), .mov (.t 0), none, []⟩,
    ⟨(some 40), .mov (.t 3), none, []⟩,
    ⟨(some 41), .mov (.t 8), none, []⟩,
    ⟨(some 42), .bin .add (.t 40) (.t 41), none, [1, 2]⟩,
    ⟨(some 43), .iaddr 1 (.t 39) (.t 42), none, [0, 1, 2, 3]⟩,
    ⟨(some 44), .load 1 false (.t 43), none, [0, 1, 2, 3, 4]⟩,
    ⟨(some 45), .mov (.t 0), none, []⟩,
    ⟨(some 46), .mov (.t 3), none, []⟩,
    ⟨(some 47), .mov (.t 9), none, []⟩,
    ⟨(some 48), .bin .add (.t 46) (.t 47), none, [7, 8]⟩,
    ⟨(some 49), .iaddr 1 (.t 45) (.t 48), none, [6, 7, 8, 9]⟩,
    ⟨(some 50), .load 1 false (.t 49), none, [6, 7, 8, 9, 10]⟩,
    ⟨(some 51), .call (.c (.fn F_cmp_Less_string [])) [(.t 44), (.t 50)], none, [0, 1, 2, 3, 4, 5, 6, 7, 8, 9, 10, 11]⟩,
    ⟨(some 52), .un .not (.t 51), none, [0, 1, 2, 3, 4, 5, 6, 7, 8, 9, 10, 11, 12]⟩] true)
  (.cond (.t 52)
    (.mask ⟨[], []⟩ (.ret))
    (.skip)))
  (.mask ⟨[0, 2, 3, 8, 9], []⟩ (.seq (.region 6 [
    ⟨(some 53), .mov (.t 0), none, []⟩,
    ⟨(some 54), .mov (.t 3), none, []⟩,
    ⟨(some 55), .mov (.t 8), none, []⟩,
    ⟨(some 56), .bin .add (.t 54) (.t 55), none, [1, 2]⟩,
    ⟨(some 57), .mov (.t 0), none, []⟩,
    ⟨(some 58), .mov (.t 3), none, []⟩,
    ⟨(some 59), .mov (.t 9), none, []⟩,
    ⟨(some 60), .bin .add (.t 58) (.t 59), none, [5, 6]⟩,
    ⟨(some 61), .mov (.t 0), none, []⟩,
    ⟨(some 62), .mov (.t 3), none, []⟩,
    ⟨(some 63), .mov (.t 9), none, []⟩,
    ⟨(some 64), .bin .add (.t 62) (.t 63), none, [9, 10]⟩,
    ⟨(some 65), .iaddr 1 (.t 61) (.t 64), none, [8, 9, 10, 11]⟩,
    ⟨(some 66), .load 1 false (.t 65), none, [8, 9, 10, 11, 12]⟩,
    ⟨(some 67), .mov (.t 0), none, []⟩,
    ⟨(some 68), .mov (.t 3), none, []⟩,
    ⟨(some 69), .mov (.t 8), none, []⟩,
    ⟨(some 70), .bin .add (.t 68) (.t 69), none, [15, 16]⟩,
    ⟨(some 71), .iaddr 1 (.t 67) (.t 70), none, [14, 15, 16, 17]⟩,
    ⟨(some 72), .load 1 false (.t 71), none, [14, 15, 16, 17, 18]⟩,
    ⟨(some 73), .iaddr 1 (.t 53) (.t 56), none, [0, 1, 2, 3, 8, 9, 10, 11, 12, 13, 14, 15, 16, 17, 18, 19]⟩,
    ⟨none, .store 1 (.t 73) (.t 66), none, [0, 1, 2, 3, 8, 9, 10, 11, 12, 13, 14, 15, 16, 17, 18, 19, 20]⟩,
    ⟨(some 74), .iaddr 1 (.t 57) (.t 60), none, [0, 1, 2, 3, 4, 5, 6, 7, 8, 9, 10, 11, 12, 13, 14, 15, 16, 17, 18, 19, 20, 21]⟩,
    ⟨none, .store 1 (.t 74) (.t 72), none, [0, 1, 2, 3, 4, 5, 6, 7, 8, 9, 10, 11, 12, 13, 14, 15, 16, 17, 18, 19, 20, 21, 22]⟩] true)
  (.region 7 [
    ⟨(some 75), .mov (.t 9), none, []⟩,
    ⟨(some 8), .mov (.t 75), none, []⟩] false)))))))))
/-- slices.siftDownOrdered[string] -/
def code_slices_siftDownOrdered_string : AFunc := ⟨76, [],
  .seq (.region 0 [
    ⟨(some 10), .mov (.t 1), none, []⟩,
    ⟨(some 8), .mov (.t 10), none, []⟩] false)
  (.block 0 (.loop mask_slices_siftDownOrdered_string_0 body_slices_siftDownOrdered_string_0))⟩
/-- slices.nextPowerOfTwo -/
def code_slices_nextPowerOfTwo : AFunc := ⟨7, [.tmp 2],
  .seq (.region 0 [
    ⟨(some 2), .mov (.c (.d (.int .u64 (0)))), none, []⟩] false)
  (.seq (.region 1 [
    ⟨(some 3), .mov (.t 0), none, []⟩,
    ⟨(some 4), .toInt .u64 (.t 3), none, []⟩,
    ⟨(some 5), .call (.c (.fn F_math_bits_Len [])) [(.t 4)], none, []⟩,
    ⟨(some 6), .bin .shl (.c (.d (.int .u64 (1)))) (.t 5), none, []⟩,
    ⟨(some 2), .mov (.t 6), none, []⟩] false)
  (.mask ⟨[2], []⟩ (.ret)))⟩
/-- (*slices.xorshift).Next -/
def code_slices_xorshift_Next : AFunc := ⟨33, [.tmp 2],
  .seq (.region 0 [
    ⟨(some 2), .mov (.c (.d (.int .u64 (0)))), none, []⟩] false)
  (.seq (.region 1 [
    ⟨(some 3), .mov (.t 0), none, []⟩,
    ⟨(some 4), .nilchk (.t 3), none, [0]⟩,
    ⟨(some 5), .load 1 false (.t 4), none, [0, 1]⟩,
    ⟨(some 6), .mov (.t 0), none, []⟩,
    ⟨(some 7), .nilchk (.t 6), none, [3]⟩,
    ⟨(some 8), .load 1 false (.t 7), none, [3, 4]⟩,
    ⟨(some 9), .bin .shl (.t 8) (.c (.d (.int .u64 (13)))), none, [3, 4, 5]⟩,
    ⟨(some 10), .bin .xor (.t 5) (.t 9), none, [0, 1, 2, 3, 4, 5, 6]⟩,
    ⟨(some 11), .nilchk (.t 3), none, [0, 1, 2, 3, 4, 5, 6, 7]⟩,
    ⟨none, .store 1 (.t 11) (.t 10), none, [0, 1, 2, 3, 4, 5, 6, 7, 8]⟩] true)
  (.seq (.region 2 [
    ⟨(some 12), .mov (.t 0), none, []⟩,
    ⟨(some 13), .nilchk (.t 12), none, [0]⟩,
    ⟨(some 14), .load 1 false (.t 13), none, [0, 1]⟩,
    ⟨(some 15), .mov (.t 0), none, []⟩,
    ⟨(some 16), .nilchk (.t 15), none, [3]⟩,
    ⟨(some 17), .load 1 false (.t 16), none, [3, 4]⟩,
    ⟨(some 18), .bin .shr (.t 17) (.c (.d (.int .u64 (7)))), none, [3, 4, 5]⟩,
    ⟨(some 19), .bin .xor (.t 14) (.t 18), none, [0, 1, 2, 3, 4, 5, 6]⟩,
    ⟨(some 20), .nilchk (.t 12), none, [0, 1, 2, 3, 4, 5, 6, 7]⟩,
    ⟨none, .store 1 (.t 20) (.t 19), none, [0, 1, 2, 3, 4, 5, 6, 7, 8]⟩] true)
  (.seq (.region 3 [
    ⟨(some 21), .mov (.t 0), none, []⟩,
    ⟨(some 22), .nilchk (.t 21), none, [0]⟩,
    ⟨(some 23), .load 1 false (.t 22), none, [0, 1]⟩,
    ⟨(some 24), .mov (.t 0), none, []⟩,
    ⟨(some 25), .nilchk (.t 24), none, [3]⟩,
    ⟨(some 26), .load 1 false (.t 25), none, [3, 4]⟩,
    ⟨(some 27), .bin .shl (.t 26) (.c (.d (.int .u64 (17)))), none, [3, 4, 5]⟩,
    ⟨(some 28), .bin .xor (.t 23) (.t 27), none, [0, 1, 2, 3, 4, 5, 6]⟩,
    ⟨(some 29), .nilchk (.t 21), none, [0, 1, 2, 3, 4, 5, 6, 7]⟩,
    ⟨none, .store 1 (.t 29) (.t 28), none, [0, 1, 2, 3, 4, 5, 6, 7, 8]⟩] true)
  (.seq (.region 4 [
    ⟨(some 30), .mov (.t 0), none, []⟩,
    ⟨(some 31), .nilchk (.t 30), none, []⟩,
    ⟨(some 32), .load 1 false (.t 31), none, []⟩,
    ⟨(some 2), .mov (.t 32), none, []⟩] false)
  (.mask ⟨[2], []⟩ (.ret))))))⟩
/-- slices.medianAdjacentOrdered[string] -/
def code_slices_medianAdjacentOrdered_string : AFunc := ⟨15, [.tmp 6],
  .seq (.region 0 [
    ⟨(some 6), .mov (.c (.d (.int .i64 (0)))), none, []⟩] false)
  (.seq (.region 1 [
    ⟨(some 7), .mov (.t 0), none, []⟩,
    ⟨(some 8), .mov (.t 1), none, []⟩,
    ⟨(some 9), .bin .sub (.t 8) (.c (.d (.int .i64 (1)))), none, []⟩,
    ⟨(some 10), .mov (.t 1), none, []⟩,
    ⟨(some 11), .mov (.t 1), none, []⟩,
    ⟨(some 12), .bin .add (.t 11) (.c (.d (.int .i64 (1)))), none, []⟩,
    ⟨(some 13), .mov (.t 2), none, []⟩,
    ⟨(some 14), .call (.c (.fn F_slices_medianOrdered_string [])) [(.t 7), (.t 9), (.t 10), (.t 12), (.t 13)], none, []⟩,
    ⟨(some 6), .mov (.t 14), none, []⟩] false)
  (.mask ⟨[6], []⟩ (.ret)))⟩
/-- slices.medianOrdered[string] -/
def code_slices_medianOrdered_string : AFunc := ⟨36, [.tmp 10],
  .seq (.region 0 [
    ⟨(some 10), .mov (.c (.d (.int .i64 (0)))), none, []⟩] false)
  (.seq (.region 1 [
    ⟨(some 12), .mov (.t 0), none, []⟩,
    ⟨(some 13), .mov (.t 1), none, []⟩,
    ⟨(some 14), .mov (.t 2), none, []⟩,
    ⟨(some 15), .mov (.t 4), none, []⟩,
    ⟨(some 16), .call (.c (.fn F_slices_order2Ordered_string [])) [(.t 12), (.t 13), (.t 14), (.t 15)], none, []⟩,
    ⟨(some 11), .mov (.t 16), none, []⟩,
    ⟨(some 17), .extract (.t 11) 0, none, []⟩,
    ⟨(some 18), .extract (.t 11) 1, none, []⟩,
    ⟨(some 1), .mov (.t 17), none, []⟩,
    ⟨(some 2), .mov (.t 18), none, []⟩] false)
  (.seq (.region 2 [
    ⟨(some 20), .mov (.t 0), none, []⟩,
    ⟨(some 21), .mov (.t 2), none, []⟩,
    ⟨(some 22), .mov (.t 3), none, []⟩,
    ⟨(some 23), .mov (.t 4), none, []⟩,
    ⟨(some 24), .call (.c (.fn F_slices_order2Ordered_string [])) [(.t 20), (.t 21), (.t 22), (.t 23)], none, []⟩,
    ⟨(some 19), .mov (.t 24), none, []⟩,
    ⟨(some 25), .extract (.t 19) 0, none, []⟩,
    ⟨(some 26), .extract (.t 19) 1, none, []⟩,
    ⟨(some 2), .mov (.t 25), none, []⟩,
    ⟨(some 3), .mov (.t 26), none, []⟩] false)
  (.seq (.region 3 [
    ⟨(some 28), .mov (.t 0), none, []⟩,
    ⟨(some 29), .mov (.t 1), none, []⟩,
    ⟨(some 30), .mov (.t 2), none, []⟩,
    ⟨(some 31), .mov (.t 4), none, []⟩,
    ⟨(some 32), .call (.c (.fn F_slices_order2Ordered_string [])) [(.t 28), (.t 29), (.t 30), (.t 31)], none, []⟩,
    ⟨(some 27), .mov (.t 32), none, []⟩,
    ⟨(some 33), .extract (.t 27) 0, none, []⟩,
    ⟨(some 34), .extract (.t 27) 1, none, []⟩,
    ⟨(some 1), .mov (.t 33), none, []⟩,
    ⟨(some 2), .mov (.t 34), none, []⟩] false)
  (.seq (.region 4 [
    ⟨(some 35), .mov (.t 2), none, []⟩,
    ⟨(some 10), .mov (.t 35), none, []⟩] false)
  (.mask ⟨[10], []⟩ (.ret))))))⟩
/-- cmp.isNaN[string] -/
def code_cmp_isNaN_string : AFunc := ⟨6, [.tmp 2],
  .seq (.region 0 [
    ⟨(some 2), .mov (.c (.d (.bool false))), none, []⟩] false)
  (.seq (.region 1 [
    ⟨(some 3), .mov (.t 0), none, []⟩,
    ⟨(some 4), .mov (.t 0), none, []⟩,
    ⟨(some 5), .bin .neq (.t 3) (.t 4), none, []⟩,
    ⟨(some 2), .mov (.t 5), none, []⟩] false)
  (.mask ⟨[2], []⟩ (.ret)))⟩
/-- slices.order2Ordered[string] -/
def code_slices_order2Ordered_string : AFunc := ⟨28, [.tmp 8, .tmp 9],
  .seq (.region 0 [
    ⟨(some 8), .mov (.c (.d (.int .i64 (0)))), none, []⟩,
    ⟨(some 9), .mov (.c (.d (.int .i64 (0)))), none, []⟩] false)
  (.seq (.seq (.region 1 [
    ⟨(some 10), .mov (.t 0), none, []⟩,
    ⟨(some 11), .mov (.t 2), none, []⟩,
    ⟨(some 12), .iaddr 1 (.t 10) (.t 11), none, [0, 1]⟩,
    ⟨(some 13), .load 1 false (.t 12), none, [0, 1, 2]⟩,
    ⟨(some 14), .mov (.t 0), none, []⟩,
    ⟨(some 15), .mov (.t 1), none, []⟩,
    ⟨(some 16), .iaddr 1 (.t 14) (.t 15), none, [4, 5]⟩,
    ⟨(some 17), .load 1 false (.t 16), none, [4, 5, 6]⟩,
    ⟨(some 18), .call (.c (.fn F_cmp_Less_string [])) [(.t 13), (.t 17)], none, [0, 1, 2, 3, 4, 5, 6, 7]⟩] true)
  (.cond (.t 18)
    (.seq (.region 2 [
      ⟨(some 19), .mov (.t 3), none, []⟩,
      ⟨(some 20), .nilchk (.t 19), none, []⟩,
      ⟨(some 21), .load 1 false (.t 20), none, []⟩,
      ⟨(some 22), .bin .add (.t 21) (.c (.d (.int .i64 (1)))), none, []⟩,
      ⟨(some 23), .nilchk (.t 19), none, []⟩,
      ⟨none, .store 1 (.t 23) (.t 22), none, []⟩] false)
    (.seq (.region 3 [
      ⟨(some 24), .mov (.t 2), none, []⟩,
      ⟨(some 25), .mov (.t 1), none, []⟩,
      ⟨(some 8), .mov (.t 24), none, []⟩,
      ⟨(some 9), .mov (.t 25), none, []⟩] false)
    (.mask ⟨[8, 9], []⟩ (.ret))))
    (.skip)))
  (.mask ⟨[1, 2], []⟩ (.seq (.region 4 [
    ⟨(some 26), .mov (.t 1), none, []⟩,
    ⟨(some 27), .mov (.t 2), none, []⟩,
    ⟨(some 8), .mov (.t 26), none, []⟩,
    ⟨(some 9), .mov (.t 27), none, []⟩] false)
  (.mask ⟨[8, 9], []⟩ (.ret)))))⟩
def codeL : List (Nat × AFunc) := [(F_law33_WallRuns, code_law33_WallRuns),
  (F_law33_WallNever, code_law33_WallNever),
  (F_law33_WallKeeps, code_law33_WallKeeps),
  (F_law33_WallClones, code_law33_WallClones),
  (F_law33_alive, code_law33_alive),
  (F_wall_New, code_wall_New),
  (F_law33_few, code_law33_few),
  (F_law33_run, code_law33_run),
  (F_wall_Wall_Forget, code_wall_Wall_Forget),
  (F_law33_clash, code_law33_clash),
  (F_wall_Wall_Leak, code_wall_Wall_Leak),
  (F_wall_Wall_May, code_wall_Wall_May),
  (F_law33_foes, code_law33_foes),
  (F_wall_Wall_Clone, code_wall_Wall_Clone),
  (F_law33_step, code_law33_step),
  (F_wall_Wall_is, code_wall_Wall_is),
  (F_slices_Sort_string_string, code_slices_Sort_string_string),
  (F_wall_Wall_Leak_1, code_wall_Wall_Leak_1),
  (F_slices_ContainsFunc_string_string, code_slices_ContainsFunc_string_string),
  (F_wall_Wall_May_1, code_wall_Wall_May_1),
  (F_law33_class, code_law33_class),
  (F_maps_Clone_map_string_wall_class_string_wall_class, code_maps_Clone_map_string_wall_class_string_wall_class),
  (F_maps_Clone_map_wall_sight_int_wall_sight_int, code_maps_Clone_map_wall_sight_int_wall_sight_int),
  (F_law33_may, code_law33_may),
  (F_law33_of, code_law33_of),
  (F_plain_Texts, code_plain_Texts),
  (F_math_bits_Len, code_math_bits_Len),
  (F_slices_pdqsortOrdered_string, code_slices_pdqsortOrdered_string),
  (F_wall_Wall_foes, code_wall_Wall_foes),
  (F_slices_IndexFunc_string_string, code_slices_IndexFunc_string_string),
  (F_plain_Rising, code_plain_Rising),
  (F_math_bits_Len32, code_math_bits_Len32),
  (F_math_bits_Len64, code_math_bits_Len64),
  (F_slices_insertionSortOrdered_string, code_slices_insertionSortOrdered_string),
  (F_slices_heapSortOrdered_string, code_slices_heapSortOrdered_string),
  (F_slices_breakPatternsOrdered_string, code_slices_breakPatternsOrdered_string),
  (F_slices_choosePivotOrdered_string, code_slices_choosePivotOrdered_string),
  (F_slices_reverseRangeOrdered_string, code_slices_reverseRangeOrdered_string),
  (F_slices_partialInsertionSortOrdered_string, code_slices_partialInsertionSortOrdered_string),
  (F_cmp_Less_string, code_cmp_Less_string),
  (F_slices_partitionEqualOrdered_string, code_slices_partitionEqualOrdered_string),
  (F_slices_partitionOrdered_string, code_slices_partitionOrdered_string),
  (F_plain_In, code_plain_In),
  (F_slices_siftDownOrdered_string, code_slices_siftDownOrdered_string),
  (F_slices_nextPowerOfTwo, code_slices_nextPowerOfTwo),
  (F_slices_xorshift_Next, code_slices_xorshift_Next),
  (F_slices_medianAdjacentOrdered_string, code_slices_medianAdjacentOrdered_string),
  (F_slices_medianOrdered_string, code_slices_medianOrdered_string),
  (F_cmp_isNaN_string, code_cmp_isNaN_string),
  (F_slices_order2Ordered_string, code_slices_order2Ordered_string)]
def code : Nat → Option AFunc := tableAt codeL
theorem at_law33_WallRuns : code F_law33_WallRuns = some code_law33_WallRuns := by kernel_rfl
theorem at_law33_WallNever : code F_law33_WallNever = some code_law33_WallNever := by kernel_rfl
theorem at_law33_WallKeeps : code F_law33_WallKeeps = some code_law33_WallKeeps := by kernel_rfl
theorem at_law33_WallClones : code F_law33_WallClones = some code_law33_WallClones := by kernel_rfl
theorem at_law33_alive : code F_law33_alive = some code_law33_alive := by kernel_rfl
theorem at_wall_New : code F_wall_New = some code_wall_New := by kernel_rfl
theorem at_law33_few : code F_law33_few = some code_law33_few := by kernel_rfl
theorem at_law33_run : code F_law33_run = some code_law33_run := by kernel_rfl
theorem at_wall_Wall_Forget : code F_wall_Wall_Forget = some code_wall_Wall_Forget := by kernel_rfl
theorem at_law33_clash : code F_law33_clash = some code_law33_clash := by kernel_rfl
theorem at_wall_Wall_Leak : code F_wall_Wall_Leak = some code_wall_Wall_Leak := by kernel_rfl
theorem at_wall_Wall_May : code F_wall_Wall_May = some code_wall_Wall_May := by kernel_rfl
theorem at_law33_foes : code F_law33_foes = some code_law33_foes := by kernel_rfl
theorem at_wall_Wall_Clone : code F_wall_Wall_Clone = some code_wall_Wall_Clone := by kernel_rfl
theorem at_law33_step : code F_law33_step = some code_law33_step := by kernel_rfl
theorem at_wall_Wall_is : code F_wall_Wall_is = some code_wall_Wall_is := by kernel_rfl
theorem at_slices_Sort_string_string : code F_slices_Sort_string_string = some code_slices_Sort_string_string := by kernel_rfl
theorem at_wall_Wall_Leak_1 : code F_wall_Wall_Leak_1 = some code_wall_Wall_Leak_1 := by kernel_rfl
theorem at_slices_ContainsFunc_string_string : code F_slices_ContainsFunc_string_string = some code_slices_ContainsFunc_string_string := by kernel_rfl
theorem at_wall_Wall_May_1 : code F_wall_Wall_May_1 = some code_wall_Wall_May_1 := by kernel_rfl
theorem at_law33_class : code F_law33_class = some code_law33_class := by kernel_rfl
theorem at_maps_Clone_map_string_wall_class_string_wall_class : code F_maps_Clone_map_string_wall_class_string_wall_class = some code_maps_Clone_map_string_wall_class_string_wall_class := by kernel_rfl
theorem at_maps_Clone_map_wall_sight_int_wall_sight_int : code F_maps_Clone_map_wall_sight_int_wall_sight_int = some code_maps_Clone_map_wall_sight_int_wall_sight_int := by kernel_rfl
theorem at_law33_may : code F_law33_may = some code_law33_may := by kernel_rfl
theorem at_law33_of : code F_law33_of = some code_law33_of := by kernel_rfl
theorem at_plain_Texts : code F_plain_Texts = some code_plain_Texts := by kernel_rfl
theorem at_math_bits_Len : code F_math_bits_Len = some code_math_bits_Len := by kernel_rfl
theorem at_slices_pdqsortOrdered_string : code F_slices_pdqsortOrdered_string = some code_slices_pdqsortOrdered_string := by kernel_rfl
theorem at_wall_Wall_foes : code F_wall_Wall_foes = some code_wall_Wall_foes := by kernel_rfl
theorem at_slices_IndexFunc_string_string : code F_slices_IndexFunc_string_string = some code_slices_IndexFunc_string_string := by kernel_rfl
theorem at_plain_Rising : code F_plain_Rising = some code_plain_Rising := by kernel_rfl
theorem at_math_bits_Len32 : code F_math_bits_Len32 = some code_math_bits_Len32 := by kernel_rfl
theorem at_math_bits_Len64 : code F_math_bits_Len64 = some code_math_bits_Len64 := by kernel_rfl
theorem at_slices_insertionSortOrdered_string : code F_slices_insertionSortOrdered_string = some code_slices_insertionSortOrdered_string := by kernel_rfl
theorem at_slices_heapSortOrdered_string : code F_slices_heapSortOrdered_string = some code_slices_heapSortOrdered_string := by kernel_rfl
theorem at_slices_breakPatternsOrdered_string : code F_slices_breakPatternsOrdered_string = some code_slices_breakPatternsOrdered_string := by kernel_rfl
theorem at_slices_choosePivotOrdered_string : code F_slices_choosePivotOrdered_string = some code_slices_choosePivotOrdered_string := by kernel_rfl
theorem at_slices_reverseRangeOrdered_string : code F_slices_reverseRangeOrdered_string = some code_slices_reverseRangeOrdered_string := by kernel_rfl
theorem at_slices_partialInsertionSortOrdered_string : code F_slices_partialInsertionSortOrdered_string = some code_slices_partialInsertionSortOrdered_string := by kernel_rfl
theorem at_cmp_Less_string : code F_cmp_Less_string = some code_cmp_Less_string := by kernel_rfl
theorem at_slices_partitionEqualOrdered_string : code F_slices_partitionEqualOrdered_string = some code_slices_partitionEqualOrdered_string := by kernel_rfl
theorem at_slices_partitionOrdered_string : code F_slices_partitionOrdered_string = some code_slices_partitionOrdered_string := by kernel_rfl
theorem at_plain_In : code F_plain_In = some code_plain_In := by kernel_rfl
theorem at_slices_siftDownOrdered_string : code F_slices_siftDownOrdered_string = some code_slices_siftDownOrdered_string := by kernel_rfl
theorem at_slices_nextPowerOfTwo : code F_slices_nextPowerOfTwo = some code_slices_nextPowerOfTwo := by kernel_rfl
theorem at_slices_xorshift_Next : code F_slices_xorshift_Next = some code_slices_xorshift_Next := by kernel_rfl
theorem at_slices_medianAdjacentOrdered_string : code F_slices_medianAdjacentOrdered_string = some code_slices_medianAdjacentOrdered_string := by kernel_rfl
theorem at_slices_medianOrdered_string : code F_slices_medianOrdered_string = some code_slices_medianOrdered_string := by kernel_rfl
theorem at_cmp_isNaN_string : code F_cmp_isNaN_string = some code_cmp_isNaN_string := by kernel_rfl
theorem at_slices_order2Ordered_string : code F_slices_order2Ordered_string = some code_slices_order2Ordered_string := by kernel_rfl
end Bz.S
