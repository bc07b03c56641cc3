/- The code of functions, as the clean machine reads it (printed by a program of ours out of the seat's translation). -/
import Derived.Test.YtddljfbalbnkcaaBz0
import Derived.KernelRfl
set_option linter.unusedSimpArgs false
set_option linter.unusedVariables false
set_option maxRecDepth 100000
namespace Bz.S
open Go Bz
def F_law12_ReadsJoins : Nat := 3
def F_law12_ReadsTells : Nat := 4
def F_law12_ReadsRight : Nat := 5
def F_law12_alive : Nat := 6
def F_reads_Union : Nat := 8
def F_law12_like : Nat := 7
def F_reads_Of : Nat := 9
def F_law12_all : Nat := 10
def F_reads_Writes : Nat := 11
def F_reads_Right : Nat := 12
def F_slices_Concat_reads_Read_reads_Read : Nat := 14
def F_slices_SortFunc_reads_Read_reads_Read : Nat := 15
def F_reads_compare : Nat := 16
def F_slices_Compact_reads_Read_reads_Read : Nat := 17
def F_law12_has : Nat := 13
def F_reads_all : Nat := 18
def F_ref07_All : Nat := 19
def F_slices_Concat_api_Update_api_Update : Nat := 20
def F_slices_Grow_reads_Read_reads_Read : Nat := 21
def F_math_bits_Len : Nat := 23
def F_slices_pdqsortCmpFunc_reads_Read : Nat := 22
def F_cmp_Compare_int : Nat := 25
def F_cmp_Compare_string : Nat := 26
def F_cmp_Or_int : Nat := 24
def F_slices_Grow_api_Update_api_Update : Nat := 27
def F_math_bits_Len32 : Nat := 36
def F_math_bits_Len64 : Nat := 37
def F_slices_insertionSortCmpFunc_reads_Read : Nat := 28
def F_slices_heapSortCmpFunc_reads_Read : Nat := 29
def F_slices_breakPatternsCmpFunc_reads_Read : Nat := 30
def F_slices_choosePivotCmpFunc_reads_Read : Nat := 31
def F_slices_reverseRangeCmpFunc_reads_Read : Nat := 32
def F_slices_partialInsertionSortCmpFunc_reads_Read : Nat := 33
def F_slices_partitionEqualCmpFunc_reads_Read : Nat := 34
def F_slices_partitionCmpFunc_reads_Read : Nat := 35
def F_cmp_isNaN_int : Nat := 38
def F_cmp_isNaN_string : Nat := 39
def F_slices_siftDownCmpFunc_reads_Read : Nat := 40
def F_slices_nextPowerOfTwo : Nat := 41
def F_slices_xorshift_Next : Nat := 42
def F_slices_medianAdjacentCmpFunc_reads_Read : Nat := 43
def F_slices_medianCmpFunc_reads_Read : Nat := 44
def F_slices_order2CmpFunc_reads_Read : Nat := 45
/-- beadle/beadlelaw12.ReadsJoins -/
def code_law12_ReadsJoins : AFunc := ⟨45, [.tmp 6],
  .seq (.region 0 [
    ⟨(some 6), .mov (.c (.d (.bool false))), none, []⟩] false)
  (.seq (.seq (.region 1 [
    ⟨(some 8), .call (.c (.fn F_law12_alive [])) [], none, []⟩,
    ⟨(some 9), .un .not (.t 8), none, []⟩] false)
  (.cond (.t 9)
    (.seq (.region 2 [
      ⟨(some 6), .mov (.c (.d (.bool false))), none, []⟩] false)
    (.mask ⟨[6], []⟩ (.ret)))
    (.skip)))
  (.mask ⟨[0, 1, 2], []⟩ (.seq (.region 3 [
    ⟨(some 7), .mov (.c (.d (.vs true []))), none, []⟩] false)
  (.seq (.region 4 [
    ⟨(some 10), .mov (.t 7), none, []⟩,
    ⟨(some 11), .mov (.t 0), none, []⟩,
    ⟨(some 12), .append 2 (.t 10) (.t 11), none, []⟩,
    ⟨(some 7), .mov (.t 12), none, []⟩] false)
  (.seq (.region 5 [
    ⟨(some 13), .mov (.t 7), none, []⟩,
    ⟨(some 14), .mov (.t 1), none, []⟩,
    ⟨(some 15), .append 2 (.t 13) (.t 14), none, []⟩,
    ⟨(some 7), .mov (.t 15), none, []⟩] false)
  (.seq (.region 6 [
    ⟨(some 16), .mov (.t 7), none, []⟩,
    ⟨(some 17), .mov (.t 2), none, []⟩,
    ⟨(some 18), .append 2 (.t 16) (.t 17), none, []⟩,
    ⟨(some 7), .mov (.t 18), none, []⟩] false)
  (.seq (.region 7 [
    ⟨(some 19), .mov (.t 0), none, []⟩,
    ⟨(some 20), .mov (.t 1), none, []⟩,
    ⟨(some 21), .mov (.t 2), none, []⟩,
    ⟨(some 22), .buildSl 1 [(.vs false [])] 3 [(0, (.t 19)), (1, (.t 20)), (2, (.t 21))], none, []⟩,
    ⟨(some 23), .call (.c (.fn F_reads_Union [])) [(.t 22)], none, []⟩,
    ⟨(some 24), .mov (.t 7), none, []⟩,
    ⟨(some 25), .call (.c (.fn F_law12_like [])) [(.t 23), (.t 24)], none, []⟩,
    ⟨(some 26), .mov (.t 25), none, []⟩,
    ⟨(some 27), .mov (.t 2), (some (26, true)), []⟩,
    ⟨(some 28), .mov (.t 0), (some (26, true)), []⟩,
    ⟨(some 29), .mov (.t 1), (some (26, true)), []⟩,
    ⟨(some 30), .buildSl 1 [(.vs false [])] 3 [(0, (.t 27)), (1, (.t 28)), (2, (.t 29))], (some (26, true)), []⟩,
    ⟨(some 31), .call (.c (.fn F_reads_Union [])) [(.t 30)], (some (26, true)), []⟩,
    ⟨(some 32), .mov (.t 7), (some (26, true)), []⟩,
    ⟨(some 33), .call (.c (.fn F_law12_like [])) [(.t 31), (.t 32)], (some (26, true)), []⟩,
    ⟨(some 34), .pick (.t 26) (.t 33) (.c (.d (.bool false))), none, []⟩,
    ⟨(some 35), .mov (.t 34), none, []⟩,
    ⟨(some 36), .mov (.t 2), (some (35, true)), []⟩,
    ⟨(some 37), .buildSl 1 [(.vs false [])] 1 [(0, (.t 36))], (some (35, true)), []⟩,
    ⟨(some 38), .call (.c (.fn F_reads_Union [])) [(.t 37)], (some (35, true)), []⟩,
    ⟨(some 39), .mov (.t 7), (some (35, true)), []⟩,
    ⟨(some 40), .buildSl 1 [(.vs false [])] 2 [(0, (.t 38)), (1, (.t 39))], (some (35, true)), []⟩,
    ⟨(some 41), .call (.c (.fn F_reads_Union [])) [(.t 40)], (some (35, true)), []⟩,
    ⟨(some 42), .mov (.t 7), (some (35, true)), []⟩,
    ⟨(some 43), .call (.c (.fn F_law12_like [])) [(.t 41), (.t 42)], (some (35, true)), []⟩,
    ⟨(some 44), .pick (.t 35) (.t 43) (.c (.d (.bool false))), none, []⟩,
    ⟨(some 6), .mov (.t 44), none, []⟩] false)
  (.mask ⟨[6], []⟩ (.ret)))))))))⟩
def mask_law12_ReadsTells_0 : Mask := ⟨[1, 2, 5, 6], [.slot 5 10000050 2]⟩
def body_law12_ReadsTells_0 : ACode :=
  .seq (.seq (.region 5 [
    ⟨(some 9), .mov (.t 6), none, []⟩,
    ⟨(some 10), .mov (.t 1), none, []⟩,
    ⟨(some 11), .len .sl (.t 10), none, []⟩,
    ⟨(some 12), .bin .lss (.t 9) (.t 11), none, []⟩] false)
  (.cond (.t 12)
    (.skip)
    (.mask ⟨[1, 2, 5], [.slot 5 10000050 2]⟩ (.exit 0))))
  (.mask ⟨[1, 2, 5, 6], [.slot 5 10000050 2]⟩ (.seq (.block 1 (.region 7 [
    ⟨(some 15), .mov (.t 5), none, []⟩,
    ⟨(some 16), .mov (.t 1), none, []⟩,
    ⟨(some 17), .mov (.t 6), none, []⟩,
    ⟨(some 18), .iaddr 8 (.t 16) (.t 17), none, [1, 2]⟩,
    ⟨(some 19), .faddr 0 (.t 18), none, [1, 2, 3]⟩,
    ⟨(some 20), .load 1 false (.t 19), none, [1, 2, 3, 4]⟩,
    ⟨(some 21), .mov (.t 1), none, []⟩,
    ⟨(some 22), .mov (.t 6), none, []⟩,
    ⟨(some 23), .iaddr 8 (.t 21) (.t 22), none, [6, 7]⟩,
    ⟨(some 24), .faddr 1 (.t 23), none, [6, 7, 8]⟩,
    ⟨(some 25), .load 1 false (.t 24), none, [6, 7, 8, 9]⟩,
    ⟨(some 26), .build [(.d (.int .i64 (0))), (.d (.str []))] [(0, 1, (.t 20)), (1, 1, (.t 25))], none, [1, 2, 3, 4, 5, 6, 7, 8, 9, 10]⟩,
    ⟨(some 27), .buildSl 2 [(.int .i64 (0)), (.str [])] 1 [(0, (.t 26))], none, [1, 2, 3, 4, 5, 6, 7, 8, 9, 10, 11]⟩,
    ⟨(some 28), .append 2 (.t 15) (.t 27), none, [0, 1, 2, 3, 4, 5, 6, 7, 8, 9, 10, 11, 12]⟩,
    ⟨(some 5), .mov (.t 28), none, [0, 1, 2, 3, 4, 5, 6, 7, 8, 9, 10, 11, 12, 13]⟩] true))
  (.mask ⟨[1, 2, 5, 6], [.slot 5 10000050 2]⟩ (.region 6 [
    ⟨(some 13), .mov (.t 6), none, []⟩,
    ⟨(some 14), .bin .add (.t 13) (.c (.d (.int .i64 (1)))), none, []⟩,
    ⟨(some 6), .mov (.t 14), none, []⟩] false))))
/-- beadle/beadlelaw12.ReadsTells -/
def code_law12_ReadsTells : AFunc := ⟨41, [.tmp 4],
  .seq (.region 0 [
    ⟨(some 2), .box 6 (.t 0), none, []⟩,
    ⟨(some 4), .mov (.c (.d (.bool false))), none, []⟩] false)
  (.seq (.seq (.region 1 [
    ⟨(some 7), .call (.c (.fn F_law12_alive [])) [], none, []⟩,
    ⟨(some 8), .un .not (.t 7), none, []⟩] false)
  (.cond (.t 8)
    (.seq (.region 2 [
      ⟨(some 4), .mov (.c (.d (.bool false))), none, []⟩] false)
    (.mask ⟨[4], []⟩ (.ret)))
    (.skip)))
  (.mask ⟨[1, 2], []⟩ (.seq (.region 3 [
    ⟨(some 5), .mov (.c (.d (.vs true []))), none, []⟩] false)
  (.seq (.seq (.region 4 [
    ⟨(some 6), .mov (.c (.d (.int .i64 (0)))), none, []⟩] false)
  (.block 0 (.loop mask_law12_ReadsTells_0 body_law12_ReadsTells_0)))
  (.mask ⟨[1, 2, 5], [.slot 5 10000050 2]⟩ (.seq (.region 8 [
    ⟨(some 29), .load 6 true (.t 2), none, []⟩,
    ⟨(some 30), .call (.c (.fn F_reads_Of [])) [(.t 29)], none, [0]⟩,
    ⟨(some 31), .load 6 true (.t 2), none, []⟩,
    ⟨(some 32), .buildSl 6 [(.int .i64 (0)), (.str []), (.int .i64 (0)), (.int .i64 (0)), (.int .i64 (0)), (.vs false [])] 1 [(0, (.t 31))], none, [2]⟩,
    ⟨(some 33), .call (.c (.fn F_law12_all [])) [(.t 32)], none, [0, 1, 2, 3]⟩,
    ⟨(some 34), .call (.c (.fn F_law12_like [])) [(.t 30), (.t 33)], none, [0, 1, 2, 3, 4]⟩,
    ⟨(some 35), .mov (.t 34), none, [0, 1, 2, 3, 4, 5]⟩,
    ⟨(some 36), .mov (.t 1), (some (35, true)), [0, 1, 2, 3, 4, 5, 6]⟩,
    ⟨(some 37), .call (.c (.fn F_reads_Writes [])) [(.t 36)], (some (35, true)), [0, 1, 2, 3, 4, 5, 6, 7]⟩,
    ⟨(some 38), .mov (.t 5), (some (35, true)), [0, 1, 2, 3, 4, 5, 6]⟩,
    ⟨(some 39), .call (.c (.fn F_law12_like [])) [(.t 37), (.t 38)], (some (35, true)), [0, 1, 2, 3, 4, 5, 6, 7, 8, 9]⟩,
    ⟨(some 40), .pick (.t 35) (.t 39) (.c (.d (.bool false))), none, [0, 1, 2, 3, 4, 5, 6, 7, 8, 9, 10]⟩,
    ⟨(some 4), .mov (.t 40), none, [0, 1, 2, 3, 4, 5, 6, 7, 8, 9, 10, 11]⟩] true)
  (.mask ⟨[4], []⟩ (.ret))))))))⟩
def mask_law12_ReadsRight_0 : Mask := ⟨[1, 3, 4], [.slot 3 10000030 6]⟩
def body_law12_ReadsRight_0 : ACode :=
  .seq (.seq (.region 5 [
    ⟨(some 14), .mov (.t 4), none, []⟩,
    ⟨(some 15), .faddr 13 (.t 1), none, []⟩,
    ⟨(some 16), .load 1 false (.t 15), none, []⟩,
    ⟨(some 17), .len .sl (.t 16), none, []⟩,
    ⟨(some 18), .bin .lss (.t 14) (.t 17), none, []⟩] false)
  (.cond (.t 18)
    (.skip)
    (.mask ⟨[1, 3], [.slot 3 10000030 6]⟩ (.exit 0))))
  (.mask ⟨[1, 3, 4], [.slot 3 10000030 6]⟩ (.seq (.block 1 (.region 7 [
    ⟨(some 21), .mov (.t 3), none, []⟩,
    ⟨(some 22), .faddr 13 (.t 1), none, []⟩,
    ⟨(some 23), .load 1 false (.t 22), none, []⟩,
    ⟨(some 24), .mov (.t 4), none, []⟩,
    ⟨(some 25), .iaddr 8 (.t 23) (.t 24), none, []⟩,
    ⟨(some 26), .faddr 2 (.t 25), none, []⟩,
    ⟨(some 27), .load 6 true (.t 26), none, []⟩,
    ⟨(some 28), .buildSl 6 [(.int .i64 (0)), (.str []), (.int .i64 (0)), (.int .i64 (0)), (.int .i64 (0)), (.vs false [])] 1 [(0, (.t 27))], none, []⟩,
    ⟨(some 29), .append 6 (.t 21) (.t 28), none, []⟩,
    ⟨(some 3), .mov (.t 29), none, []⟩] false))
  (.mask ⟨[1, 3, 4], [.slot 3 10000030 6]⟩ (.region 6 [
    ⟨(some 19), .mov (.t 4), none, []⟩,
    ⟨(some 20), .bin .add (.t 19) (.c (.d (.int .i64 (1)))), none, []⟩,
    ⟨(some 4), .mov (.t 20), none, []⟩] false))))
def mask_law12_ReadsRight_1 : Mask := ⟨[1, 3, 5], [.slot 3 10000030 6]⟩
def body_law12_ReadsRight_1 : ACode :=
  .seq (.seq (.region 9 [
    ⟨(some 30), .mov (.t 5), none, []⟩,
    ⟨(some 31), .faddr 14 (.t 1), none, []⟩,
    ⟨(some 32), .load 1 false (.t 31), none, []⟩,
    ⟨(some 33), .len .sl (.t 32), none, []⟩,
    ⟨(some 34), .bin .lss (.t 30) (.t 33), none, []⟩] false)
  (.cond (.t 34)
    (.skip)
    (.mask ⟨[1, 3], [.slot 3 10000030 6]⟩ (.exit 2))))
  (.mask ⟨[1, 3, 5], [.slot 3 10000030 6]⟩ (.seq (.block 3 (.region 11 [
    ⟨(some 37), .mov (.t 3), none, []⟩,
    ⟨(some 38), .faddr 14 (.t 1), none, []⟩,
    ⟨(some 39), .load 1 false (.t 38), none, []⟩,
    ⟨(some 40), .mov (.t 5), none, []⟩,
    ⟨(some 41), .iaddr 8 (.t 39) (.t 40), none, []⟩,
    ⟨(some 42), .faddr 2 (.t 41), none, []⟩,
    ⟨(some 43), .load 6 true (.t 42), none, []⟩,
    ⟨(some 44), .buildSl 6 [(.int .i64 (0)), (.str []), (.int .i64 (0)), (.int .i64 (0)), (.int .i64 (0)), (.vs false [])] 1 [(0, (.t 43))], none, []⟩,
    ⟨(some 45), .append 6 (.t 37) (.t 44), none, []⟩,
    ⟨(some 3), .mov (.t 45), none, []⟩] false))
  (.mask ⟨[1, 3, 5], [.slot 3 10000030 6]⟩ (.region 10 [
    ⟨(some 35), .mov (.t 5), none, []⟩,
    ⟨(some 36), .bin .add (.t 35) (.c (.d (.int .i64 (1)))), none, []⟩,
    ⟨(some 5), .mov (.t 36), none, []⟩] false))))
def mask_law12_ReadsRight_2 : Mask := ⟨[1, 3, 6], [.slot 3 10000030 6]⟩
def body_law12_ReadsRight_2 : ACode :=
  .seq (.seq (.region 13 [
    ⟨(some 46), .mov (.t 6), none, []⟩,
    ⟨(some 47), .faddr 15 (.t 1), none, []⟩,
    ⟨(some 48), .load 1 false (.t 47), none, []⟩,
    ⟨(some 49), .len .sl (.t 48), none, []⟩,
    ⟨(some 50), .bin .lss (.t 46) (.t 49), none, []⟩] false)
  (.cond (.t 50)
    (.skip)
    (.mask ⟨[1, 3], [.slot 3 10000030 6]⟩ (.exit 4))))
  (.mask ⟨[1, 3, 6], [.slot 3 10000030 6]⟩ (.seq (.block 5 (.region 15 [
    ⟨(some 53), .mov (.t 3), none, []⟩,
    ⟨(some 54), .faddr 15 (.t 1), none, []⟩,
    ⟨(some 55), .load 1 false (.t 54), none, []⟩,
    ⟨(some 56), .mov (.t 6), none, []⟩,
    ⟨(some 57), .iaddr 8 (.t 55) (.t 56), none, []⟩,
    ⟨(some 58), .faddr 2 (.t 57), none, []⟩,
    ⟨(some 59), .load 6 true (.t 58), none, []⟩,
    ⟨(some 60), .buildSl 6 [(.int .i64 (0)), (.str []), (.int .i64 (0)), (.int .i64 (0)), (.int .i64 (0)), (.vs false [])] 1 [(0, (.t 59))], none, []⟩,
    ⟨(some 61), .append 6 (.t 53) (.t 60), none, []⟩,
    ⟨(some 3), .mov (.t 61), none, []⟩] false))
  (.mask ⟨[1, 3, 6], [.slot 3 10000030 6]⟩ (.region 14 [
    ⟨(some 51), .mov (.t 6), none, []⟩,
    ⟨(some 52), .bin .add (.t 51) (.c (.d (.int .i64 (1)))), none, []⟩,
    ⟨(some 6), .mov (.t 52), none, []⟩] false))))
/-- beadle/beadlelaw12.ReadsRight -/
def code_law12_ReadsRight : AFunc := ⟨67, [.tmp 2],
  .seq (.region 0 [
    ⟨(some 1), .box 17 (.t 0), none, []⟩,
    ⟨(some 2), .mov (.c (.d (.bool false))), none, []⟩] false)
  (.seq (.seq (.region 1 [
    ⟨(some 7), .call (.c (.fn F_law12_alive [])) [], none, []⟩,
    ⟨(some 8), .un .not (.t 7), none, []⟩] false)
  (.cond (.t 8)
    (.seq (.region 2 [
      ⟨(some 2), .mov (.c (.d (.bool false))), none, []⟩] false)
    (.mask ⟨[2], []⟩ (.ret)))
    (.skip)))
  (.mask ⟨[1], []⟩ (.seq (.region 3 [
    ⟨(some 9), .faddr 1 (.t 1), none, []⟩,
    ⟨(some 10), .load 6 true (.t 9), none, []⟩,
    ⟨(some 11), .faddr 7 (.t 1), none, []⟩,
    ⟨(some 12), .load 6 true (.t 11), none, []⟩,
    ⟨(some 13), .buildSl 6 [(.int .i64 (0)), (.str []), (.int .i64 (0)), (.int .i64 (0)), (.int .i64 (0)), (.vs false [])] 2 [(0, (.t 10)), (1, (.t 12))], none, []⟩,
    ⟨(some 3), .mov (.t 13), none, []⟩] false)
  (.seq (.seq (.region 4 [
    ⟨(some 4), .mov (.c (.d (.int .i64 (0)))), none, []⟩] false)
  (.block 0 (.loop mask_law12_ReadsRight_0 body_law12_ReadsRight_0)))
  (.mask ⟨[1, 3], [.slot 3 10000030 6]⟩ (.seq (.seq (.region 8 [
    ⟨(some 5), .mov (.c (.d (.int .i64 (0)))), none, []⟩] false)
  (.block 2 (.loop mask_law12_ReadsRight_1 body_law12_ReadsRight_1)))
  (.mask ⟨[1, 3], [.slot 3 10000030 6]⟩ (.seq (.seq (.region 12 [
    ⟨(some 6), .mov (.c (.d (.int .i64 (0)))), none, []⟩] false)
  (.block 4 (.loop mask_law12_ReadsRight_2 body_law12_ReadsRight_2)))
  (.mask ⟨[1, 3], [.slot 3 10000030 6]⟩ (.seq (.region 16 [
    ⟨(some 62), .load 17 true (.t 1), none, []⟩,
    ⟨(some 63), .call (.c (.fn F_reads_Right [])) [(.t 62)], none, []⟩,
    ⟨(some 64), .mov (.t 3), none, []⟩,
    ⟨(some 65), .call (.c (.fn F_law12_all [])) [(.t 64)], none, []⟩,
    ⟨(some 66), .call (.c (.fn F_law12_like [])) [(.t 63), (.t 65)], none, []⟩,
    ⟨(some 2), .mov (.t 66), none, []⟩] false)
  (.mask ⟨[2], []⟩ (.ret))))))))))))⟩
/-- beadle/beadlelaw12.alive -/
def code_law12_alive : AFunc := ⟨22, [.tmp 0],
  .seq (.region 0 [
    ⟨(some 0), .mov (.c (.d (.bool false))), none, []⟩] false)
  (.seq (.region 1 [
    ⟨(some 2), .build [(.d (.int .i64 (0))), (.d (.str [])), (.d (.int .i64 (0))), (.d (.int .i64 (0))), (.d (.int .i64 (0))), (.d (.vs true []))] [(0, 1, (.c (.d (.int .i64 (5))))), (1, 1, (.c (.d (.str [97]))))], none, []⟩,
    ⟨(some 3), .call (.c (.fn F_reads_Of [])) [(.t 2)], none, []⟩,
    ⟨(some 1), .mov (.t 3), none, []⟩] false)
  (.seq (.region 2 [
    ⟨(some 4), .mov (.t 1), none, []⟩,
    ⟨(some 5), .len .sl (.t 4), none, []⟩,
    ⟨(some 6), .bin .eql (.t 5) (.c (.d (.int .i64 (1)))), none, []⟩,
    ⟨(some 7), .mov (.t 6), none, []⟩,
    ⟨(some 8), .mov (.t 1), (some (7, true)), []⟩,
    ⟨(some 9), .iaddr 2 (.t 8) (.c (.d (.int .i64 (0)))), (some (7, true)), []⟩,
    ⟨(some 10), .load 2 true (.t 9), (some (7, true)), []⟩,
    ⟨(some 11), .build [(.d (.int .i64 (0))), (.d (.str []))] [(0, 1, (.c (.d (.int .i64 (5))))), (1, 1, (.c (.d (.str [97]))))], (some (7, true)), []⟩,
    ⟨(some 12), .eqagg [.int .i64, .str] false (.t 10) (.t 11), (some (7, true)), []⟩,
    ⟨(some 13), .pick (.t 7) (.t 12) (.c (.d (.bool false))), none, []⟩,
    ⟨(some 14), .mov (.t 13), none, []⟩,
    ⟨(some 15), .mov (.t 1), (some (14, true)), []⟩,
    ⟨(some 16), .mov (.t 1), (some (14, true)), []⟩,
    ⟨(some 17), .buildSl 1 [(.vs false [])] 2 [(0, (.t 15)), (1, (.t 16))], (some (14, true)), []⟩,
    ⟨(some 18), .call (.c (.fn F_reads_Union [])) [(.t 17)], (some (14, true)), []⟩,
    ⟨(some 19), .len .sl (.t 18), (some (14, true)), []⟩,
    ⟨(some 20), .bin .eql (.t 19) (.c (.d (.int .i64 (1)))), (some (14, true)), []⟩,
    ⟨(some 21), .pick (.t 14) (.t 20) (.c (.d (.bool false))), none, []⟩,
    ⟨(some 0), .mov (.t 21), none, []⟩] false)
  (.mask ⟨[0], []⟩ (.ret))))⟩
/-- beadle/reads.Union -/
def code_reads_Union : AFunc := ⟨10, [.tmp 2],
  .seq (.region 0 [
    ⟨(some 2), .mov (.c (.d (.vs true []))), none, []⟩] false)
  (.seq (.region 1 [
    ⟨(some 4), .mov (.t 0), none, []⟩,
    ⟨(some 5), .call (.c (.fn F_slices_Concat_reads_Read_reads_Read [])) [(.t 4)], none, []⟩,
    ⟨(some 3), .mov (.t 5), none, []⟩] false)
  (.seq (.region 2 [
    ⟨(some 6), .mov (.t 3), none, []⟩,
    ⟨(some 7), .call (.c (.fn F_slices_SortFunc_reads_Read_reads_Read [])) [(.t 6), (.c (.fn F_reads_compare []))], none, []⟩] false)
  (.seq (.region 3 [
    ⟨(some 8), .mov (.t 3), none, []⟩,
    ⟨(some 9), .call (.c (.fn F_slices_Compact_reads_Read_reads_Read [])) [(.t 8)], none, []⟩,
    ⟨(some 2), .mov (.t 9), none, []⟩] false)
  (.mask ⟨[2], []⟩ (.ret)))))⟩
def mask_law12_like_0 : Mask := ⟨[0, 1, 5], []⟩
def body_law12_like_0 : ACode :=
  .seq (.seq (.region 2 [
    ⟨(some 7), .mov (.t 5), none, []⟩,
    ⟨(some 8), .mov (.t 1), none, []⟩,
    ⟨(some 9), .len .sl (.t 8), none, []⟩,
    ⟨(some 10), .bin .lss (.t 7) (.t 9), none, []⟩] false)
  (.cond (.t 10)
    (.skip)
    (.mask ⟨[0, 1], []⟩ (.exit 0))))
  (.mask ⟨[0, 1, 5], []⟩ (.seq (.block 1 (.seq (.region 4 [
    ⟨(some 13), .mov (.t 0), none, []⟩,
    ⟨(some 14), .mov (.t 1), none, []⟩,
    ⟨(some 15), .mov (.t 5), none, []⟩,
    ⟨(some 16), .iaddr 2 (.t 14) (.t 15), none, []⟩,
    ⟨(some 17), .load 2 true (.t 16), none, []⟩,
    ⟨(some 18), .call (.c (.fn F_law12_has [])) [(.t 13), (.t 17)], none, []⟩,
    ⟨(some 19), .un .not (.t 18), none, []⟩] false)
  (.cond (.t 19)
    (.seq (.region 5 [
      ⟨(some 4), .mov (.c (.d (.bool false))), none, []⟩] false)
    (.mask ⟨[4], []⟩ (.ret)))
    (.skip))))
  (.mask ⟨[0, 1, 5], []⟩ (.region 3 [
    ⟨(some 11), .mov (.t 5), none, []⟩,
    ⟨(some 12), .bin .add (.t 11) (.c (.d (.int .i64 (1)))), none, []⟩,
    ⟨(some 5), .mov (.t 12), none, []⟩] false))))
def mask_law12_like_1 : Mask := ⟨[0, 1, 6], []⟩
def body_law12_like_1 : ACode :=
  .seq (.seq (.region 7 [
    ⟨(some 20), .mov (.t 6), none, []⟩,
    ⟨(some 21), .mov (.t 0), none, []⟩,
    ⟨(some 22), .len .sl (.t 21), none, []⟩,
    ⟨(some 23), .bin .lss (.t 20) (.t 22), none, []⟩] false)
  (.cond (.t 23)
    (.skip)
    (.mask ⟨[], []⟩ (.exit 2))))
  (.mask ⟨[0, 1, 6], []⟩ (.seq (.block 3 (.seq (.seq (.region 9 [
    ⟨(some 26), .mov (.t 1), none, []⟩,
    ⟨(some 27), .mov (.t 0), none, []⟩,
    ⟨(some 28), .mov (.t 6), none, []⟩,
    ⟨(some 29), .iaddr 2 (.t 27) (.t 28), none, []⟩,
    ⟨(some 30), .load 2 true (.t 29), none, []⟩,
    ⟨(some 31), .call (.c (.fn F_law12_has [])) [(.t 26), (.t 30)], none, []⟩,
    ⟨(some 32), .un .not (.t 31), none, []⟩] false)
  (.cond (.t 32)
    (.seq (.region 10 [
      ⟨(some 4), .mov (.c (.d (.bool false))), none, []⟩] false)
    (.mask ⟨[4], []⟩ (.ret)))
    (.skip)))
  (.mask ⟨[0, 1, 6], []⟩ (.seq (.region 11 [
    ⟨(some 33), .mov (.t 6), none, []⟩,
    ⟨(some 34), .bin .gtr (.t 33) (.c (.d (.int .i64 (0)))), none, [0]⟩,
    ⟨(some 35), .mov (.t 34), none, [0, 1]⟩,
    ⟨(some 36), .mov (.t 0), (some (35, true)), [0, 1, 2]⟩,
    ⟨(some 37), .mov (.t 6), (some (35, true)), [0, 1, 2]⟩,
    ⟨(some 38), .bin .sub (.t 37) (.c (.d (.int .i64 (1)))), (some (35, true)), [0, 1, 2, 4]⟩,
    ⟨(some 39), .iaddr 2 (.t 36) (.t 38), (some (35, true)), [0, 1, 2, 3, 4, 5]⟩,
    ⟨(some 40), .faddr 0 (.t 39), (some (35, true)), [0, 1, 2, 3, 4, 5, 6]⟩,
    ⟨(some 41), .load 1 false (.t 40), (some (35, true)), [0, 1, 2, 3, 4, 5, 6, 7]⟩,
    ⟨(some 42), .mov (.t 0), (some (35, true)), [0, 1, 2]⟩,
    ⟨(some 43), .mov (.t 6), (some (35, true)), [0, 1, 2]⟩,
    ⟨(some 44), .iaddr 2 (.t 42) (.t 43), (some (35, true)), [0, 1, 2, 9, 10]⟩,
    ⟨(some 45), .faddr 0 (.t 44), (some (35, true)), [0, 1, 2, 9, 10, 11]⟩,
    ⟨(some 46), .load 1 false (.t 45), (some (35, true)), [0, 1, 2, 9, 10, 11, 12]⟩,
    ⟨(some 47), .bin .gtr (.t 41) (.t 46), (some (35, true)), [0, 1, 2, 3, 4, 5, 6, 7, 8, 9, 10, 11, 12, 13]⟩,
    ⟨(some 48), .mov (.t 47), (some (35, true)), [0, 1, 2, 3, 4, 5, 6, 7, 8, 9, 10, 11, 12, 13, 14]⟩,
    ⟨(some 49), .mov (.t 0), (some (48, false)), [0, 1, 2, 3, 4, 5, 6, 7, 8, 9, 10, 11, 12, 13, 14, 15]⟩,
    ⟨(some 50), .mov (.t 6), (some (48, false)), [0, 1, 2, 3, 4, 5, 6, 7, 8, 9, 10, 11, 12, 13, 14, 15]⟩,
    ⟨(some 51), .bin .sub (.t 50) (.c (.d (.int .i64 (1)))), (some (48, false)), [0, 1, 2, 3, 4, 5, 6, 7, 8, 9, 10, 11, 12, 13, 14, 15, 17]⟩,
    ⟨(some 52), .iaddr 2 (.t 49) (.t 51), (some (48, false)), [0, 1, 2, 3, 4, 5, 6, 7, 8, 9, 10, 11, 12, 13, 14, 15, 16, 17, 18]⟩,
    ⟨(some 53), .faddr 0 (.t 52), (some (48, false)), [0, 1, 2, 3, 4, 5, 6, 7, 8, 9, 10, 11, 12, 13, 14, 15, 16, 17, 18, 19]⟩,
    ⟨(some 54), .load 1 false (.t 53), (some (48, false)), [0, 1, 2, 3, 4, 5, 6, 7, 8, 9, 10, 11, 12, 13, 14, 15, 16, 17, 18, 19, 20]⟩,
    ⟨(some 55), .mov (.t 0), (some (48, false)), [0, 1, 2, 3, 4, 5, 6, 7, 8, 9, 10, 11, 12, 13, 14, 15]⟩,
    ⟨(some 56), .mov (.t 6), (some (48, false)), [0, 1, 2, 3, 4, 5, 6, 7, 8, 9, 10, 11, 12, 13, 14, 15]⟩,
    ⟨(some 57), .iaddr 2 (.t 55) (.t 56), (some (48, false)), [0, 1, 2, 3, 4, 5, 6, 7, 8, 9, 10, 11, 12, 13, 14, 15, 22, 23]⟩,
    ⟨(some 58), .faddr 0 (.t 57), (some (48, false)), [0, 1, 2, 3, 4, 5, 6, 7, 8, 9, 10, 11, 12, 13, 14, 15, 22, 23, 24]⟩,
    ⟨(some 59), .load 1 false (.t 58), (some (48, false)), [0, 1, 2, 3, 4, 5, 6, 7, 8, 9, 10, 11, 12, 13, 14, 15, 22, 23, 24, 25]⟩,
    ⟨(some 60), .bin .eql (.t 54) (.t 59), (some (48, false)), [0, 1, 2, 3, 4, 5, 6, 7, 8, 9, 10, 11, 12, 13, 14, 15, 16, 17, 18, 19, 20, 21, 22, 23, 24, 25, 26]⟩,
    ⟨(some 61), .mov (.t 60), (some (48, false)), [0, 1, 2, 3, 4, 5, 6, 7, 8, 9, 10, 11, 12, 13, 14, 15, 16, 17, 18, 19, 20, 21, 22, 23, 24, 25, 26, 27]⟩,
    ⟨(some 62), .mov (.t 0), (some (61, true)), [0, 1, 2, 3, 4, 5, 6, 7, 8, 9, 10, 11, 12, 13, 14, 15, 16, 17, 18, 19, 20, 21, 22, 23, 24, 25, 26, 27, 28]⟩,
    ⟨(some 63), .mov (.t 6), (some (61, true)), [0, 1, 2, 3, 4, 5, 6, 7, 8, 9, 10, 11, 12, 13, 14, 15, 16, 17, 18, 19, 20, 21, 22, 23, 24, 25, 26, 27, 28]⟩,
    ⟨(some 64), .bin .sub (.t 63) (.c (.d (.int .i64 (1)))), (some (61, true)), [0, 1, 2, 3, 4, 5, 6, 7, 8, 9, 10, 11, 12, 13, 14, 15, 16, 17, 18, 19, 20, 21, 22, 23, 24, 25, 26, 27, 28, 30]⟩,
    ⟨(some 65), .iaddr 2 (.t 62) (.t 64), (some (61, true)), [0, 1, 2, 3, 4, 5, 6, 7, 8, 9, 10, 11, 12, 13, 14, 15, 16, 17, 18, 19, 20, 21, 22, 23, 24, 25, 26, 27, 28, 29, 30, 31]⟩,
    ⟨(some 66), .faddr 1 (.t 65), (some (61, true)), [0, 1, 2, 3, 4, 5, 6, 7, 8, 9, 10, 11, 12, 13, 14, 15, 16, 17, 18, 19, 20, 21, 22, 23, 24, 25, 26, 27, 28, 29, 30, 31, 32]⟩,
    ⟨(some 67), .load 1 false (.t 66), (some (61, true)), [0, 1, 2, 3, 4, 5, 6, 7, 8, 9, 10, 11, 12, 13, 14, 15, 16, 17, 18, 19, 20, 21, 22, 23, 24, 25, 26, 27, 28, 29, 30, 31, 32, 33]⟩,
    ⟨(some 68), .mov (.t 0), (some (61, true)), [0, 1, 2, 3, 4, 5, 6, 7, 8, 9, 10, 11, 12, 13, 14, 15, 16, 17, 18, 19, 20, 21, 22, 23, 24, 25, 26, 27, 28]⟩,
    ⟨(some 69), .mov (.t 6), (some (61, true)), [0, 1, 2, 3, 4, 5, 6, 7, 8, 9, 10, 11, 12, 13, 14, 15, 16, 17, 18, 19, 20, 21, 22, 23, 24, 25, 26, 27, 28]⟩,
    ⟨(some 70), .iaddr 2 (.t 68) (.t 69), (some (61, true)), [0, 1, 2, 3, 4, 5, 6, 7, 8, 9, 10, 11, 12, 13, 14, 15, 16, 17, 18, 19, 20, 21, 22, 23, 24, 25, 26, 27, 28, 35, 36]⟩,
    ⟨(some 71), .faddr 1 (.t 70), (some (61, true)), [0, 1, 2, 3, 4, 5, 6, 7, 8, 9, 10, 11, 12, 13, 14, 15, 16, 17, 18, 19, 20, 21, 22, 23, 24, 25, 26, 27, 28, 35, 36, 37]⟩,
    ⟨(some 72), .load 1 false (.t 71), (some (61, true)), [0, 1, 2, 3, 4, 5, 6, 7, 8, 9, 10, 11, 12, 13, 14, 15, 16, 17, 18, 19, 20, 21, 22, 23, 24, 25, 26, 27, 28, 35, 36, 37, 38]⟩,
    ⟨(some 73), .bin .geq (.t 67) (.t 72), (some (61, true)), [0, 1, 2, 3, 4, 5, 6, 7, 8, 9, 10, 11, 12, 13, 14, 15, 16, 17, 18, 19, 20, 21, 22, 23, 24, 25, 26, 27, 28, 29, 30, 31, 32, 33, 34, 35, 36, 37, 38, 39]⟩,
    ⟨(some 74), .pick (.t 61) (.t 73) (.c (.d (.bool false))), (some (48, false)), [0, 1, 2, 3, 4, 5, 6, 7, 8, 9, 10, 11, 12, 13, 14, 15, 16, 17, 18, 19, 20, 21, 22, 23, 24, 25, 26, 27, 28, 29, 30, 31, 32, 33, 34, 35, 36, 37, 38, 39, 40]⟩,
    ⟨(some 75), .pick (.t 48) (.c (.d (.bool true))) (.t 74), (some (35, true)), [0, 1, 2, 3, 4, 5, 6, 7, 8, 9, 10, 11, 12, 13, 14, 15, 16, 17, 18, 19, 20, 21, 22, 23, 24, 25, 26, 27, 28, 29, 30, 31, 32, 33, 34, 35, 36, 37, 38, 39, 40, 41]⟩,
    ⟨(some 76), .pick (.t 35) (.t 75) (.c (.d (.bool false))), none, [0, 1, 2, 3, 4, 5, 6, 7, 8, 9, 10, 11, 12, 13, 14, 15, 16, 17, 18, 19, 20, 21, 22, 23, 24, 25, 26, 27, 28, 29, 30, 31, 32, 33, 34, 35, 36, 37, 38, 39, 40, 41, 42]⟩] true)
  (.mask ⟨[0, 1, 6, 76], []⟩ (.cond (.t 76)
    (.seq (.region 12 [
      ⟨(some 4), .mov (.c (.d (.bool false))), none, []⟩] false)
    (.mask ⟨[4], []⟩ (.ret)))
    (.skip)))))))
  (.mask ⟨[0, 1, 6], []⟩ (.region 8 [
    ⟨(some 24), .mov (.t 6), none, []⟩,
    ⟨(some 25), .bin .add (.t 24) (.c (.d (.int .i64 (1)))), none, []⟩,
    ⟨(some 6), .mov (.t 25), none, []⟩] false))))
/-- beadle/beadlelaw12.like -/
def code_law12_like : AFunc := ⟨77, [.tmp 4],
  .seq (.region 0 [
    ⟨(some 4), .mov (.c (.d (.bool false))), none, []⟩] false)
  (.seq (.seq (.region 1 [
    ⟨(some 5), .mov (.c (.d (.int .i64 (0)))), none, []⟩] false)
  (.block 0 (.loop mask_law12_like_0 body_law12_like_0)))
  (.mask ⟨[0, 1], []⟩ (.seq (.seq (.region 6 [
    ⟨(some 6), .mov (.c (.d (.int .i64 (0)))), none, []⟩] false)
  (.block 2 (.loop mask_law12_like_1 body_law12_like_1)))
  (.mask ⟨[], []⟩ (.seq (.region 13 [
    ⟨(some 4), .mov (.c (.d (.bool true))), none, []⟩] false)
  (.mask ⟨[4], []⟩ (.ret)))))))⟩
/-- beadle/reads.Of -/
def code_reads_Of : AFunc := ⟨7, [.tmp 2],
  .seq (.region 0 [
    ⟨(some 1), .box 6 (.t 0), none, []⟩,
    ⟨(some 2), .mov (.c (.d (.vs true []))), none, []⟩] false)
  (.seq (.region 1 [
    ⟨(some 3), .load 6 true (.t 1), none, []⟩,
    ⟨(some 4), .call (.c (.fn F_reads_all [])) [(.t 3)], none, []⟩,
    ⟨(some 5), .buildSl 1 [(.vs false [])] 1 [(0, (.t 4))], none, []⟩,
    ⟨(some 6), .call (.c (.fn F_reads_Union [])) [(.t 5)], none, []⟩,
    ⟨(some 2), .mov (.t 6), none, []⟩] false)
  (.mask ⟨[2], []⟩ (.ret)))⟩
def mask_law12_all_0 : Mask := ⟨[0, 3, 4, 5, 6], [.slot 3 10000030 2]⟩
def body_law12_all_0 : ACode :=
  .seq (.seq (.region 7 [
    ⟨(some 18), .mov (.t 6), none, []⟩,
    ⟨(some 19), .mov (.t 5), none, []⟩,
    ⟨(some 20), .len .sl (.t 19), none, []⟩,
    ⟨(some 21), .bin .lss (.t 18) (.t 20), none, []⟩] false)
  (.cond (.t 21)
    (.skip)
    (.mask ⟨[0, 3, 4], [.slot 3 10000030 2]⟩ (.exit 2))))
  (.mask ⟨[0, 3, 4, 5, 6], [.slot 3 10000030 2]⟩ (.seq (.block 3 (.seq (.region 9 [
    ⟨(some 24), .mov (.t 5), none, []⟩,
    ⟨(some 25), .mov (.t 6), none, []⟩,
    ⟨(some 26), .iaddr 6 (.t 24) (.t 25), none, []⟩,
    ⟨(some 27), .faddr 0 (.t 26), none, []⟩,
    ⟨(some 28), .load 1 false (.t 27), none, []⟩,
    ⟨(some 29), .bin .eql (.t 28) (.c (.d (.int .i64 (5)))), none, []⟩,
    ⟨(some 30), .mov (.t 29), none, []⟩,
    ⟨(some 31), .mov (.t 5), (some (30, false)), []⟩,
    ⟨(some 32), .mov (.t 6), (some (30, false)), []⟩,
    ⟨(some 33), .iaddr 6 (.t 31) (.t 32), (some (30, false)), []⟩,
    ⟨(some 34), .faddr 0 (.t 33), (some (30, false)), []⟩,
    ⟨(some 35), .load 1 false (.t 34), (some (30, false)), []⟩,
    ⟨(some 36), .bin .eql (.t 35) (.c (.d (.int .i64 (6)))), (some (30, false)), []⟩,
    ⟨(some 37), .pick (.t 30) (.c (.d (.bool true))) (.t 36), none, []⟩] false)
  (.mask ⟨[0, 3, 4, 5, 6, 37], [.slot 3 10000030 2]⟩ (.cond (.t 37)
    (.region 10 [
      ⟨(some 38), .mov (.t 3), none, []⟩,
      ⟨(some 39), .mov (.t 5), none, []⟩,
      ⟨(some 40), .mov (.t 6), none, []⟩,
      ⟨(some 41), .iaddr 6 (.t 39) (.t 40), none, [1, 2]⟩,
      ⟨(some 42), .faddr 0 (.t 41), none, [1, 2, 3]⟩,
      ⟨(some 43), .load 1 false (.t 42), none, [1, 2, 3, 4]⟩,
      ⟨(some 44), .mov (.t 5), none, []⟩,
      ⟨(some 45), .mov (.t 6), none, []⟩,
      ⟨(some 46), .iaddr 6 (.t 44) (.t 45), none, [6, 7]⟩,
      ⟨(some 47), .faddr 1 (.t 46), none, [6, 7, 8]⟩,
      ⟨(some 48), .load 1 false (.t 47), none, [6, 7, 8, 9]⟩,
      ⟨(some 49), .build [(.d (.int .i64 (0))), (.d (.str []))] [(0, 1, (.t 43)), (1, 1, (.t 48))], none, [1, 2, 3, 4, 5, 6, 7, 8, 9, 10]⟩,
      ⟨(some 50), .buildSl 2 [(.int .i64 (0)), (.str [])] 1 [(0, (.t 49))], none, [1, 2, 3, 4, 5, 6, 7, 8, 9, 10, 11]⟩,
      ⟨(some 51), .append 2 (.t 38) (.t 50), none, [0, 1, 2, 3, 4, 5, 6, 7, 8, 9, 10, 11, 12]⟩,
      ⟨(some 3), .mov (.t 51), none, [0, 1, 2, 3, 4, 5, 6, 7, 8, 9, 10, 11, 12, 13]⟩] true)
    (.skip)))))
  (.mask ⟨[0, 3, 4, 5, 6], [.slot 3 10000030 2]⟩ (.region 8 [
    ⟨(some 22), .mov (.t 6), none, []⟩,
    ⟨(some 23), .bin .add (.t 22) (.c (.d (.int .i64 (1)))), none, []⟩,
    ⟨(some 6), .mov (.t 23), none, []⟩] false))))
def mask_law12_all_1 : Mask := ⟨[0, 3, 4], [.slot 3 10000030 2]⟩
def body_law12_all_1 : ACode :=
  .seq (.seq (.region 3 [
    ⟨(some 7), .mov (.t 4), none, []⟩,
    ⟨(some 8), .mov (.t 0), none, []⟩,
    ⟨(some 9), .len .sl (.t 8), none, []⟩,
    ⟨(some 10), .bin .lss (.t 7) (.t 9), none, []⟩] false)
  (.cond (.t 10)
    (.skip)
    (.mask ⟨[3], [.slot 3 10000030 2]⟩ (.exit 0))))
  (.mask ⟨[0, 3, 4], [.slot 3 10000030 2]⟩ (.seq (.block 1 (.seq (.region 5 [
    ⟨(some 13), .mov (.t 0), none, []⟩,
    ⟨(some 14), .mov (.t 4), none, []⟩,
    ⟨(some 15), .iaddr 6 (.t 13) (.t 14), none, []⟩,
    ⟨(some 16), .load 6 true (.t 15), none, []⟩,
    ⟨(some 17), .call (.c (.fn F_ref07_All [])) [(.t 16)], none, []⟩,
    ⟨(some 5), .mov (.t 17), none, []⟩] false)
  (.seq (.region 6 [
    ⟨(some 6), .mov (.c (.d (.int .i64 (0)))), none, []⟩] false)
  (.block 2 (.loop mask_law12_all_0 body_law12_all_0)))))
  (.mask ⟨[0, 3, 4], [.slot 3 10000030 2]⟩ (.region 4 [
    ⟨(some 11), .mov (.t 4), none, []⟩,
    ⟨(some 12), .bin .add (.t 11) (.c (.d (.int .i64 (1)))), none, []⟩,
    ⟨(some 4), .mov (.t 12), none, []⟩] false))))
/-- beadle/beadlelaw12.all -/
def code_law12_all : AFunc := ⟨53, [.tmp 2],
  .seq (.region 0 [
    ⟨(some 2), .mov (.c (.d (.vs true []))), none, []⟩] false)
  (.seq (.region 1 [
    ⟨(some 3), .mov (.c (.d (.vs true []))), none, []⟩] false)
  (.seq (.seq (.region 2 [
    ⟨(some 4), .mov (.c (.d (.int .i64 (0)))), none, []⟩] false)
  (.block 0 (.loop mask_law12_all_1 body_law12_all_1)))
  (.mask ⟨[3], [.slot 3 10000030 2]⟩ (.seq (.region 11 [
    ⟨(some 52), .mov (.t 3), none, []⟩,
    ⟨(some 2), .mov (.t 52), none, []⟩] false)
  (.mask ⟨[2], [.slot 2 10000020 2]⟩ (.ret))))))⟩
def mask_reads_Writes_0 : Mask := ⟨[3, 6, 7, 8], [.slot 3 10000030 2]⟩
def body_reads_Writes_0 : ACode :=
  .seq (.region 3 [
    ⟨(some 9), .bin .lss (.t 8) (.t 7), none, []⟩] false)
  (.seq (.cond (.t 9)
    (.skip)
    (.mask ⟨[3], [.slot 3 10000030 2]⟩ (.exit 0)))
  (.mask ⟨[3, 6, 7, 8], [.slot 3 10000030 2]⟩ (.seq (.block 1 (.seq (.region 4 [
    ⟨(some 10), .iaddr 8 (.t 6) (.t 8), none, []⟩,
    ⟨(some 11), .load 8 true (.t 10), none, []⟩,
    ⟨(some 5), .box 8 (.c (.agg [(.d (.int .i64 (0))), (.d (.str [])), (.d (.int .i64 (0))), (.d (.str [])), (.d (.int .i64 (0))), (.d (.int .i64 (0))), (.d (.int .i64 (0))), (.d (.vs true []))])), none, []⟩,
    ⟨none, .store 8 (.t 5) (.t 11), none, []⟩] false)
  (.region 5 [
    ⟨(some 12), .mov (.t 3), none, []⟩,
    ⟨(some 13), .faddr 0 (.t 5), none, []⟩,
    ⟨(some 14), .load 1 false (.t 13), none, []⟩,
    ⟨(some 15), .faddr 1 (.t 5), none, []⟩,
    ⟨(some 16), .load 1 false (.t 15), none, []⟩,
    ⟨(some 17), .build [(.d (.int .i64 (0))), (.d (.str []))] [(0, 1, (.t 14)), (1, 1, (.t 16))], none, []⟩,
    ⟨(some 18), .buildSl 2 [(.int .i64 (0)), (.str [])] 1 [(0, (.t 17))], none, []⟩,
    ⟨(some 19), .append 2 (.t 12) (.t 18), none, []⟩,
    ⟨(some 3), .mov (.t 19), none, []⟩] false)))
  (.mask ⟨[3, 6, 7, 8], [.slot 3 10000030 2]⟩ (.region 6 [
    ⟨(some 20), .bin .add (.t 8) (.c (.d (.int .i64 (1)))), none, []⟩,
    ⟨(some 8), .mov (.t 20), none, []⟩] false)))))
/-- beadle/reads.Writes -/
def code_reads_Writes : AFunc := ⟨24, [.tmp 2],
  .seq (.region 0 [
    ⟨(some 2), .mov (.c (.d (.vs true []))), none, []⟩] false)
  (.seq (.region 1 [
    ⟨(some 3), .mov (.c (.d (.vs true []))), none, []⟩] false)
  (.seq (.seq (.region 2 [
    ⟨(some 6), .mov (.t 0), none, []⟩,
    ⟨(some 7), .len .sl (.t 6), none, []⟩,
    ⟨(some 8), .mov (.c (.d (.int .i64 (0)))), none, []⟩] false)
  (.block 0 (.loop mask_reads_Writes_0 body_reads_Writes_0)))
  (.mask ⟨[3], [.slot 3 10000030 2]⟩ (.seq (.region 7 [
    ⟨(some 21), .mov (.t 3), none, []⟩,
    ⟨(some 22), .buildSl 1 [(.vs false [])] 1 [(0, (.t 21))], none, []⟩,
    ⟨(some 23), .call (.c (.fn F_reads_Union [])) [(.t 22)], none, []⟩,
    ⟨(some 2), .mov (.t 23), none, []⟩] false)
  (.mask ⟨[2], []⟩ (.ret))))))⟩
def mask_reads_Right_0 : Mask := ⟨[3, 20, 21, 22], [.slot 3 10000030 2]⟩
def body_reads_Right_0 : ACode :=
  .seq (.region 3 [
    ⟨(some 23), .bin .lss (.t 22) (.t 21), none, []⟩] false)
  (.seq (.cond (.t 23)
    (.skip)
    (.mask ⟨[3], [.slot 3 10000030 2]⟩ (.exit 0)))
  (.mask ⟨[3, 20, 21, 22], [.slot 3 10000030 2]⟩ (.seq (.block 1 (.seq (.region 4 [
    ⟨(some 24), .iaddr 8 (.t 20) (.t 22), none, []⟩,
    ⟨(some 25), .load 8 true (.t 24), none, []⟩,
    ⟨(some 5), .box 8 (.c (.agg [(.d (.int .i64 (0))), (.d (.str [])), (.d (.int .i64 (0))), (.d (.str [])), (.d (.int .i64 (0))), (.d (.int .i64 (0))), (.d (.int .i64 (0))), (.d (.vs true []))])), none, []⟩,
    ⟨none, .store 8 (.t 5) (.t 25), none, []⟩] false)
  (.region 5 [
    ⟨(some 26), .mov (.t 3), none, []⟩,
    ⟨(some 27), .faddr 2 (.t 5), none, []⟩,
    ⟨(some 28), .load 6 true (.t 27), none, []⟩,
    ⟨(some 29), .call (.c (.fn F_reads_all [])) [(.t 28)], none, []⟩,
    ⟨(some 30), .append 2 (.t 26) (.t 29), none, []⟩,
    ⟨(some 3), .mov (.t 30), none, []⟩] false)))
  (.mask ⟨[3, 20, 21, 22], [.slot 3 10000030 2]⟩ (.region 6 [
    ⟨(some 31), .bin .add (.t 22) (.c (.d (.int .i64 (1)))), none, []⟩,
    ⟨(some 22), .mov (.t 31), none, []⟩] false)))))
/-- beadle/reads.Right -/
def code_reads_Right : AFunc := ⟨35, [.tmp 2],
  .seq (.region 0 [
    ⟨(some 1), .box 17 (.t 0), none, []⟩,
    ⟨(some 2), .mov (.c (.d (.vs true []))), none, []⟩] false)
  (.seq (.region 1 [
    ⟨(some 6), .faddr 1 (.t 1), none, []⟩,
    ⟨(some 7), .load 6 true (.t 6), none, [0]⟩,
    ⟨(some 8), .call (.c (.fn F_reads_all [])) [(.t 7)], none, [0, 1]⟩,
    ⟨(some 9), .faddr 7 (.t 1), none, []⟩,
    ⟨(some 10), .load 6 true (.t 9), none, [3]⟩,
    ⟨(some 11), .call (.c (.fn F_reads_all [])) [(.t 10)], none, [0, 1, 2, 3, 4]⟩,
    ⟨(some 12), .append 2 (.t 8) (.t 11), none, [0, 1, 2, 3, 4, 5]⟩,
    ⟨(some 3), .mov (.t 12), none, [0, 1, 2, 3, 4, 5, 6]⟩] true)
  (.seq (.seq (.region 2 [
    ⟨(some 13), .faddr 13 (.t 1), none, []⟩,
    ⟨(some 14), .load 1 false (.t 13), none, []⟩,
    ⟨(some 15), .faddr 14 (.t 1), none, []⟩,
    ⟨(some 16), .load 1 false (.t 15), none, []⟩,
    ⟨(some 17), .faddr 15 (.t 1), none, []⟩,
    ⟨(some 18), .load 1 false (.t 17), none, []⟩,
    ⟨(some 19), .buildSl 1 [(.vs false [])] 3 [(0, (.t 14)), (1, (.t 16)), (2, (.t 18))], none, []⟩,
    ⟨(some 20), .call (.c (.fn F_slices_Concat_api_Update_api_Update [])) [(.t 19)], none, []⟩,
    ⟨(some 21), .len .sl (.t 20), none, []⟩,
    ⟨(some 22), .mov (.c (.d (.int .i64 (0)))), none, []⟩] false)
  (.block 0 (.loop mask_reads_Right_0 body_reads_Right_0)))
  (.mask ⟨[3], [.slot 3 10000030 2]⟩ (.seq (.region 7 [
    ⟨(some 32), .mov (.t 3), none, []⟩,
    ⟨(some 33), .buildSl 1 [(.vs false [])] 1 [(0, (.t 32))], none, []⟩,
    ⟨(some 34), .call (.c (.fn F_reads_Union [])) [(.t 33)], none, []⟩,
    ⟨(some 2), .mov (.t 34), none, []⟩] false)
  (.mask ⟨[2], []⟩ (.ret))))))⟩
def mask_slices_Concat_reads_Read_reads_Read_0 : Mask := ⟨[0, 3, 9, 10, 11], []⟩
def body_slices_Concat_reads_Read_reads_Read_0 : ACode :=
  .seq (.region 3 [
    ⟨(some 12), .bin .lss (.t 11) (.t 10), none, []⟩] false)
  (.seq (.cond (.t 12)
    (.skip)
    (.mask ⟨[0, 3], []⟩ (.exit 0)))
  (.mask ⟨[0, 3, 9, 10, 11], []⟩ (.seq (.block 1 (.seq (.region 4 [
    ⟨(some 13), .iaddr 1 (.t 9) (.t 11), none, []⟩,
    ⟨(some 14), .load 1 false (.t 13), none, []⟩,
    ⟨(some 5), .mov (.t 14), none, []⟩] false)
  (.seq (.region 5 [
    ⟨(some 15), .mov (.t 3), none, []⟩,
    ⟨(some 16), .mov (.t 5), none, []⟩,
    ⟨(some 17), .len .sl (.t 16), none, []⟩,
    ⟨(some 18), .bin .add (.t 15) (.t 17), none, []⟩,
    ⟨(some 3), .mov (.t 18), none, []⟩] false)
  (.seq (.region 6 [
    ⟨(some 19), .mov (.t 3), none, []⟩,
    ⟨(some 20), .bin .lss (.t 19) (.c (.d (.int .i64 (0)))), none, []⟩] false)
  (.cond (.t 20)
    (.region 7 [
      ⟨(some 21), .bad, none, []⟩,
      ⟨none, .bad, none, []⟩] false)
    (.skip))))))
  (.mask ⟨[0, 3, 9, 10, 11], []⟩ (.region 8 [
    ⟨(some 22), .bin .add (.t 11) (.c (.d (.int .i64 (1)))), none, []⟩,
    ⟨(some 11), .mov (.t 22), none, []⟩] false)))))
def mask_slices_Concat_reads_Read_reads_Read_1 : Mask := ⟨[6, 25, 26, 27], [.slot 6 10000060 2]⟩
def body_slices_Concat_reads_Read_reads_Read_1 : ACode :=
  .seq (.region 11 [
    ⟨(some 28), .bin .lss (.t 27) (.t 26), none, []⟩] false)
  (.seq (.cond (.t 28)
    (.skip)
    (.mask ⟨[6], [.slot 6 10000060 2]⟩ (.exit 2)))
  (.mask ⟨[6, 25, 26, 27], [.slot 6 10000060 2]⟩ (.seq (.block 3 (.seq (.region 12 [
    ⟨(some 29), .iaddr 1 (.t 25) (.t 27), none, []⟩,
    ⟨(some 30), .load 1 false (.t 29), none, []⟩,
    ⟨(some 8), .mov (.t 30), none, []⟩] false)
  (.region 13 [
    ⟨(some 31), .mov (.t 6), none, []⟩,
    ⟨(some 32), .mov (.t 8), none, []⟩,
    ⟨(some 33), .append 2 (.t 31) (.t 32), none, []⟩,
    ⟨(some 6), .mov (.t 33), none, []⟩] false)))
  (.mask ⟨[6, 25, 26, 27], [.slot 6 10000060 2]⟩ (.region 14 [
    ⟨(some 34), .bin .add (.t 27) (.c (.d (.int .i64 (1)))), none, []⟩,
    ⟨(some 27), .mov (.t 34), none, []⟩] false)))))
/-- slices.Concat[[]beadle/reads.Read,beadle/reads.Read] -/
def code_slices_Concat_reads_Read_reads_Read : AFunc := ⟨36, [.tmp 2],
  .seq (.region 0 [
    ⟨(some 2), .mov (.c (.d (.vs true []))), none, []⟩] false)
  (.seq (.region 1 [
    ⟨(some 3), .mov (.c (.d (.int .i64 (0)))), none, []⟩] false)
  (.seq (.seq (.region 2 [
    ⟨(some 9), .mov (.t 0), none, []⟩,
    ⟨(some 10), .len .sl (.t 9), none, []⟩,
    ⟨(some 11), .mov (.c (.d (.int .i64 (0)))), none, []⟩] false)
  (.block 0 (.loop mask_slices_Concat_reads_Read_reads_Read_0 body_slices_Concat_reads_Read_reads_Read_0)))
  (.mask ⟨[0, 3], []⟩ (.seq (.region 9 [
    ⟨(some 23), .mov (.t 3), none, []⟩,
    ⟨(some 24), .call (.c (.fn F_slices_Grow_reads_Read_reads_Read [])) [(.c (.d (.vs true []))), (.t 23)], none, []⟩,
    ⟨(some 6), .mov (.t 24), none, []⟩] false)
  (.seq (.seq (.region 10 [
    ⟨(some 25), .mov (.t 0), none, []⟩,
    ⟨(some 26), .len .sl (.t 25), none, []⟩,
    ⟨(some 27), .mov (.c (.d (.int .i64 (0)))), none, []⟩] false)
  (.block 2 (.loop mask_slices_Concat_reads_Read_reads_Read_1 body_slices_Concat_reads_Read_reads_Read_1)))
  (.mask ⟨[6], [.slot 6 10000060 2]⟩ (.seq (.region 15 [
    ⟨(some 35), .mov (.t 6), none, []⟩,
    ⟨(some 2), .mov (.t 35), none, []⟩] false)
  (.mask ⟨[2], [.slot 2 10000020 2]⟩ (.ret)))))))))⟩
/-- slices.SortFunc[[]beadle/reads.Read,beadle/reads.Read] -/
def code_slices_SortFunc_reads_Read_reads_Read : AFunc := ⟨14, [],
  .seq (.region 0 [
    ⟨(some 5), .mov (.t 0), none, []⟩,
    ⟨(some 6), .len .sl (.t 5), none, []⟩,
    ⟨(some 4), .mov (.t 6), none, []⟩] false)
  (.region 1 [
    ⟨(some 7), .mov (.t 0), none, []⟩,
    ⟨(some 8), .mov (.t 4), none, []⟩,
    ⟨(some 9), .mov (.t 4), none, []⟩,
    ⟨(some 10), .toInt .u64 (.t 9), none, []⟩,
    ⟨(some 11), .call (.c (.fn F_math_bits_Len [])) [(.t 10)], none, []⟩,
    ⟨(some 12), .mov (.t 1), none, []⟩,
    ⟨(some 13), .call (.c (.fn F_slices_pdqsortCmpFunc_reads_Read [])) [(.t 7), (.c (.d (.int .i64 (0)))), (.t 8), (.t 11), (.t 12)], none, []⟩] false)⟩
/-- beadle/reads.compare -/
def code_reads_compare : AFunc := ⟨17, [.tmp 4],
  .seq (.region 0 [
    ⟨(some 2), .box 2 (.t 0), none, []⟩,
    ⟨(some 3), .box 2 (.t 1), none, []⟩,
    ⟨(some 4), .mov (.c (.d (.int .i64 (0)))), none, []⟩] false)
  (.seq (.region 1 [
    ⟨(some 5), .faddr 0 (.t 2), none, []⟩,
    ⟨(some 6), .load 1 false (.t 5), none, [0]⟩,
    ⟨(some 7), .faddr 0 (.t 3), none, []⟩,
    ⟨(some 8), .load 1 false (.t 7), none, [2]⟩,
    ⟨(some 9), .call (.c (.fn F_cmp_Compare_int [])) [(.t 6), (.t 8)], none, [0, 1, 2, 3]⟩,
    ⟨(some 10), .faddr 1 (.t 2), none, []⟩,
    ⟨(some 11), .load 1 false (.t 10), none, [5]⟩,
    ⟨(some 12), .faddr 1 (.t 3), none, []⟩,
    ⟨(some 13), .load 1 false (.t 12), none, [7]⟩,
    ⟨(some 14), .call (.c (.fn F_cmp_Compare_string [])) [(.t 11), (.t 13)], none, [0, 1, 2, 3, 4, 5, 6, 7, 8]⟩,
    ⟨(some 15), .buildSl 1 [(.int .i64 (0))] 2 [(0, (.t 9)), (1, (.t 14))], none, [0, 1, 2, 3, 4, 5, 6, 7, 8, 9]⟩,
    ⟨(some 16), .call (.c (.fn F_cmp_Or_int [])) [(.t 15)], none, [0, 1, 2, 3, 4, 5, 6, 7, 8, 9, 10]⟩,
    ⟨(some 4), .mov (.t 16), none, [0, 1, 2, 3, 4, 5, 6, 7, 8, 9, 10, 11]⟩] true)
  (.mask ⟨[4], []⟩ (.ret)))⟩
def mask_slices_Compact_reads_Read_reads_Read_0 : Mask := ⟨[0, 3, 4, 5], []⟩
def body_slices_Compact_reads_Read_reads_Read_0 : ACode :=
  .seq (.seq (.region 9 [
    ⟨(some 29), .mov (.t 5), none, []⟩,
    ⟨(some 30), .mov (.t 4), none, []⟩,
    ⟨(some 31), .len .sl (.t 30), none, []⟩,
    ⟨(some 32), .bin .lss (.t 29) (.t 31), none, []⟩] false)
  (.cond (.t 32)
    (.skip)
    (.mask ⟨[0, 3], []⟩ (.exit 2))))
  (.mask ⟨[0, 3, 4, 5], []⟩ (.seq (.block 3 (.seq (.region 11 [
    ⟨(some 35), .mov (.t 4), none, []⟩,
    ⟨(some 36), .mov (.t 5), none, []⟩,
    ⟨(some 37), .iaddr 2 (.t 35) (.t 36), none, [0, 1]⟩,
    ⟨(some 38), .load 2 true (.t 37), none, [0, 1, 2]⟩,
    ⟨(some 39), .mov (.t 4), none, []⟩,
    ⟨(some 40), .mov (.t 5), none, []⟩,
    ⟨(some 41), .bin .sub (.t 40) (.c (.d (.int .i64 (1)))), none, [5]⟩,
    ⟨(some 42), .iaddr 2 (.t 39) (.t 41), none, [4, 5, 6]⟩,
    ⟨(some 43), .load 2 true (.t 42), none, [4, 5, 6, 7]⟩,
    ⟨(some 44), .eqagg [.int .i64, .str] true (.t 38) (.t 43), none, [0, 1, 2, 3, 4, 5, 6, 7, 8]⟩] true)
  (.cond (.t 44)
    (.seq (.region 12 [
      ⟨(some 45), .mov (.t 0), none, []⟩,
      ⟨(some 46), .mov (.t 3), none, []⟩,
      ⟨(some 47), .mov (.t 4), none, []⟩,
      ⟨(some 48), .mov (.t 5), none, []⟩,
      ⟨(some 49), .iaddr 2 (.t 47) (.t 48), none, []⟩,
      ⟨(some 50), .load 2 true (.t 49), none, []⟩,
      ⟨(some 51), .iaddr 2 (.t 45) (.t 46), none, []⟩,
      ⟨none, .store 2 (.t 51) (.t 50), none, []⟩] false)
    (.region 13 [
      ⟨(some 52), .mov (.t 3), none, []⟩,
      ⟨(some 53), .bin .add (.t 52) (.c (.d (.int .i64 (1)))), none, []⟩,
      ⟨(some 3), .mov (.t 53), none, []⟩] false))
    (.skip))))
  (.mask ⟨[0, 3, 4, 5], []⟩ (.region 10 [
    ⟨(some 33), .mov (.t 5), none, []⟩,
    ⟨(some 34), .bin .add (.t 33) (.c (.d (.int .i64 (1)))), none, []⟩,
    ⟨(some 5), .mov (.t 34), none, []⟩] false))))
def mask_slices_Compact_reads_Read_reads_Read_1 : Mask := ⟨[0, 3], []⟩
def body_slices_Compact_reads_Read_reads_Read_1 : ACode :=
  .seq (.seq (.region 4 [
    ⟨(some 10), .mov (.t 3), none, []⟩,
    ⟨(some 11), .mov (.t 0), none, []⟩,
    ⟨(some 12), .len .sl (.t 11), none, []⟩,
    ⟨(some 13), .bin .lss (.t 10) (.t 12), none, []⟩] false)
  (.cond (.t 13)
    (.skip)
    (.mask ⟨[0], []⟩ (.exit 0))))
  (.mask ⟨[0, 3], []⟩ (.seq (.block 1 (.seq (.region 6 [
    ⟨(some 16), .mov (.t 0), none, []⟩,
    ⟨(some 17), .mov (.t 3), none, []⟩,
    ⟨(some 18), .iaddr 2 (.t 16) (.t 17), none, [0, 1]⟩,
    ⟨(some 19), .load 2 true (.t 18), none, [0, 1, 2]⟩,
    ⟨(some 20), .mov (.t 0), none, []⟩,
    ⟨(some 21), .mov (.t 3), none, []⟩,
    ⟨(some 22), .bin .sub (.t 21) (.c (.d (.int .i64 (1)))), none, [5]⟩,
    ⟨(some 23), .iaddr 2 (.t 20) (.t 22), none, [4, 5, 6]⟩,
    ⟨(some 24), .load 2 true (.t 23), none, [4, 5, 6, 7]⟩,
    ⟨(some 25), .eqagg [.int .i64, .str] false (.t 19) (.t 24), none, [0, 1, 2, 3, 4, 5, 6, 7, 8]⟩] true)
  (.cond (.t 25)
    (.seq (.region 7 [
      ⟨(some 26), .mov (.t 0), none, []⟩,
      ⟨(some 27), .mov (.t 3), none, []⟩,
      ⟨(some 28), .slice 2 (.t 26) (some (.t 27)) none none, none, []⟩,
      ⟨(some 4), .mov (.t 28), none, []⟩] false)
    (.seq (.seq (.region 8 [
      ⟨(some 5), .mov (.c (.d (.int .i64 (1)))), none, []⟩] false)
    (.block 2 (.loop mask_slices_Compact_reads_Read_reads_Read_0 body_slices_Compact_reads_Read_reads_Read_0)))
    (.mask ⟨[0, 3], []⟩ (.seq (.region 14 [
      ⟨(some 54), .mov (.t 0), none, []⟩,
      ⟨(some 55), .mov (.t 3), none, []⟩,
      ⟨(some 56), .slice 2 (.t 54) (some (.t 55)) none none, none, []⟩,
      ⟨none, .clear [(.int .i64 (0)), (.str [])] (.t 56), none, []⟩] false)
    (.seq (.region 15 [
      ⟨(some 57), .mov (.t 0), none, []⟩,
      ⟨(some 58), .mov (.t 3), none, []⟩,
      ⟨(some 59), .slice 2 (.t 57) none (some (.t 58)) none, none, []⟩,
      ⟨(some 2), .mov (.t 59), none, []⟩] false)
    (.mask ⟨[2], []⟩ (.ret)))))))
    (.skip))))
  (.mask ⟨[0, 3], []⟩ (.region 5 [
    ⟨(some 14), .mov (.t 3), none, []⟩,
    ⟨(some 15), .bin .add (.t 14) (.c (.d (.int .i64 (1)))), none, []⟩,
    ⟨(some 3), .mov (.t 15), none, []⟩] false))))
/-- slices.Compact[[]beadle/reads.Read,beadle/reads.Read] -/
def code_slices_Compact_reads_Read_reads_Read : AFunc := ⟨61, [.tmp 2],
  .seq (.region 0 [
    ⟨(some 2), .mov (.c (.d (.vs true []))), none, []⟩] false)
  (.seq (.seq (.region 1 [
    ⟨(some 6), .mov (.t 0), none, []⟩,
    ⟨(some 7), .len .sl (.t 6), none, []⟩,
    ⟨(some 8), .bin .lss (.t 7) (.c (.d (.int .i64 (2)))), none, []⟩] false)
  (.cond (.t 8)
    (.seq (.region 2 [
      ⟨(some 9), .mov (.t 0), none, []⟩,
      ⟨(some 2), .mov (.t 9), none, []⟩] false)
    (.mask ⟨[2], []⟩ (.ret)))
    (.skip)))
  (.mask ⟨[0], []⟩ (.seq (.seq (.region 3 [
    ⟨(some 3), .mov (.c (.d (.int .i64 (1)))), none, []⟩] false)
  (.block 0 (.loop mask_slices_Compact_reads_Read_reads_Read_1 body_slices_Compact_reads_Read_reads_Read_1)))
  (.mask ⟨[0], []⟩ (.seq (.region 16 [
    ⟨(some 60), .mov (.t 0), none, []⟩,
    ⟨(some 2), .mov (.t 60), none, []⟩] false)
  (.mask ⟨[2], []⟩ (.ret)))))))⟩
def mask_law12_has_0 : Mask := ⟨[0, 3, 5], []⟩
def body_law12_has_0 : ACode :=
  .seq (.seq (.region 2 [
    ⟨(some 6), .mov (.t 5), none, []⟩,
    ⟨(some 7), .mov (.t 0), none, []⟩,
    ⟨(some 8), .len .sl (.t 7), none, []⟩,
    ⟨(some 9), .bin .lss (.t 6) (.t 8), none, []⟩] false)
  (.cond (.t 9)
    (.skip)
    (.mask ⟨[], []⟩ (.exit 0))))
  (.mask ⟨[0, 3, 5], []⟩ (.seq (.block 1 (.seq (.region 4 [
    ⟨(some 12), .mov (.t 0), none, []⟩,
    ⟨(some 13), .mov (.t 5), none, []⟩,
    ⟨(some 14), .iaddr 2 (.t 12) (.t 13), none, [0, 1]⟩,
    ⟨(some 15), .load 2 true (.t 14), none, [0, 1, 2]⟩,
    ⟨(some 16), .load 2 true (.t 3), none, []⟩,
    ⟨(some 17), .eqagg [.int .i64, .str] false (.t 15) (.t 16), none, [0, 1, 2, 3, 4]⟩] true)
  (.cond (.t 17)
    (.seq (.region 5 [
      ⟨(some 4), .mov (.c (.d (.bool true))), none, []⟩] false)
    (.mask ⟨[4], []⟩ (.ret)))
    (.skip))))
  (.mask ⟨[0, 3, 5], []⟩ (.region 3 [
    ⟨(some 10), .mov (.t 5), none, []⟩,
    ⟨(some 11), .bin .add (.t 10) (.c (.d (.int .i64 (1)))), none, []⟩,
    ⟨(some 5), .mov (.t 11), none, []⟩] false))))
/-- beadle/beadlelaw12.has -/
def code_law12_has : AFunc := ⟨18, [.tmp 4],
  .seq (.region 0 [
    ⟨(some 3), .box 2 (.t 1), none, []⟩,
    ⟨(some 4), .mov (.c (.d (.bool false))), none, []⟩] false)
  (.seq (.seq (.region 1 [
    ⟨(some 5), .mov (.c (.d (.int .i64 (0)))), none, []⟩] false)
  (.block 0 (.loop mask_law12_has_0 body_law12_has_0)))
  (.mask ⟨[], []⟩ (.seq (.region 6 [
    ⟨(some 4), .mov (.c (.d (.bool false))), none, []⟩] false)
  (.mask ⟨[4], []⟩ (.ret)))))⟩
def mask_reads_all_0 : Mask := ⟨[3, 26, 27, 28], [.slot 3 10000030 2]⟩
def body_reads_all_0 : ACode :=
  .seq (.region 7 [
    ⟨(some 29), .bin .lss (.t 28) (.t 27), none, []⟩] false)
  (.seq (.cond (.t 29)
    (.skip)
    (.mask ⟨[3], [.slot 3 10000030 2]⟩ (.exit 0)))
  (.mask ⟨[3, 26, 27, 28], [.slot 3 10000030 2]⟩ (.seq (.block 1 (.seq (.region 8 [
    ⟨(some 30), .iaddr 6 (.t 26) (.t 28), none, []⟩,
    ⟨(some 31), .load 6 true (.t 30), none, []⟩,
    ⟨(some 5), .box 6 (.c (.agg [(.d (.int .i64 (0))), (.d (.str [])), (.d (.int .i64 (0))), (.d (.int .i64 (0))), (.d (.int .i64 (0))), (.d (.vs true []))])), none, []⟩,
    ⟨none, .store 6 (.t 5) (.t 31), none, []⟩] false)
  (.region 9 [
    ⟨(some 32), .mov (.t 3), none, []⟩,
    ⟨(some 33), .load 6 true (.t 5), none, []⟩,
    ⟨(some 34), .call (.c (.fn F_reads_all [])) [(.t 33)], none, []⟩,
    ⟨(some 35), .append 2 (.t 32) (.t 34), none, []⟩,
    ⟨(some 3), .mov (.t 35), none, []⟩] false)))
  (.mask ⟨[3, 26, 27, 28], [.slot 3 10000030 2]⟩ (.region 10 [
    ⟨(some 36), .bin .add (.t 28) (.c (.d (.int .i64 (1)))), none, []⟩,
    ⟨(some 28), .mov (.t 36), none, []⟩] false)))))
/-- beadle/reads.all -/
def code_reads_all : AFunc := ⟨38, [.tmp 2],
  .seq (.region 0 [
    ⟨(some 1), .box 6 (.t 0), none, []⟩,
    ⟨(some 2), .mov (.c (.d (.vs true []))), none, []⟩] false)
  (.seq (.region 1 [
    ⟨(some 3), .mov (.c (.d (.vs true []))), none, []⟩] false)
  (.seq (.seq (.region 2 [
    ⟨(some 6), .faddr 0 (.t 1), none, []⟩,
    ⟨(some 7), .load 1 false (.t 6), none, []⟩,
    ⟨(some 8), .bin .eql (.t 7) (.c (.d (.int .i64 (5)))), none, []⟩,
    ⟨(some 9), .mov (.t 8), none, []⟩,
    ⟨(some 10), .faddr 0 (.t 1), (some (9, false)), []⟩,
    ⟨(some 11), .load 1 false (.t 10), (some (9, false)), []⟩,
    ⟨(some 12), .bin .eql (.t 11) (.c (.d (.int .i64 (6)))), (some (9, false)), []⟩,
    ⟨(some 13), .pick (.t 9) (.c (.d (.bool true))) (.t 12), none, []⟩] false)
  (.mask ⟨[1, 3, 13], [.slot 3 10000030 2]⟩ (.cond (.t 13)
    (.region 3 [
      ⟨(some 14), .mov (.t 3), none, []⟩,
      ⟨(some 15), .faddr 0 (.t 1), none, []⟩,
      ⟨(some 16), .load 1 false (.t 15), none, []⟩,
      ⟨(some 17), .faddr 1 (.t 1), none, []⟩,
      ⟨(some 18), .load 1 false (.t 17), none, []⟩,
      ⟨(some 19), .build [(.d (.int .i64 (0))), (.d (.str []))] [(0, 1, (.t 16)), (1, 1, (.t 18))], none, []⟩,
      ⟨(some 20), .buildSl 2 [(.int .i64 (0)), (.str [])] 1 [(0, (.t 19))], none, []⟩,
      ⟨(some 21), .append 2 (.t 14) (.t 20), none, []⟩,
      ⟨(some 3), .mov (.t 21), none, []⟩] false)
    (.skip))))
  (.mask ⟨[1, 3], [.slot 3 10000030 2]⟩ (.seq (.seq (.region 4 [
    ⟨(some 22), .faddr 0 (.t 1), none, []⟩,
    ⟨(some 23), .load 1 false (.t 22), none, []⟩,
    ⟨(some 24), .bin .eql (.t 23) (.c (.d (.int .i64 (4)))), none, []⟩] false)
  (.cond (.t 24)
    (.seq (.region 5 [
      ⟨(some 2), .mov (.c (.d (.vs true []))), none, []⟩] false)
    (.mask ⟨[2], [.slot 2 10000020 2]⟩ (.ret)))
    (.skip)))
  (.mask ⟨[1, 3], [.slot 3 10000030 2]⟩ (.seq (.seq (.region 6 [
    ⟨(some 25), .faddr 5 (.t 1), none, []⟩,
    ⟨(some 26), .load 1 false (.t 25), none, []⟩,
    ⟨(some 27), .len .sl (.t 26), none, []⟩,
    ⟨(some 28), .mov (.c (.d (.int .i64 (0)))), none, []⟩] false)
  (.block 0 (.loop mask_reads_all_0 body_reads_all_0)))
  (.mask ⟨[3], [.slot 3 10000030 2]⟩ (.seq (.region 11 [
    ⟨(some 37), .mov (.t 3), none, []⟩,
    ⟨(some 2), .mov (.t 37), none, []⟩] false)
  (.mask ⟨[2], [.slot 2 10000020 2]⟩ (.ret))))))))))⟩
def mask_ref07_All_0 : Mask := ⟨[1, 3, 4], [.slot 3 10000030 6]⟩
def body_ref07_All_0 : ACode :=
  .seq (.seq (.region 5 [
    ⟨(some 11), .mov (.t 4), none, []⟩,
    ⟨(some 12), .faddr 5 (.t 1), none, []⟩,
    ⟨(some 13), .load 1 false (.t 12), none, []⟩,
    ⟨(some 14), .len .sl (.t 13), none, []⟩,
    ⟨(some 15), .bin .lss (.t 11) (.t 14), none, []⟩] false)
  (.cond (.t 15)
    (.skip)
    (.mask ⟨[3], [.slot 3 10000030 6]⟩ (.exit 0))))
  (.mask ⟨[1, 3, 4], [.slot 3 10000030 6]⟩ (.seq (.block 1 (.region 7 [
    ⟨(some 18), .mov (.t 3), none, []⟩,
    ⟨(some 19), .faddr 5 (.t 1), none, []⟩,
    ⟨(some 20), .load 1 false (.t 19), none, []⟩,
    ⟨(some 21), .mov (.t 4), none, []⟩,
    ⟨(some 22), .iaddr 6 (.t 20) (.t 21), none, []⟩,
    ⟨(some 23), .load 6 true (.t 22), none, []⟩,
    ⟨(some 24), .call (.c (.fn F_ref07_All [])) [(.t 23)], none, []⟩,
    ⟨(some 25), .append 6 (.t 18) (.t 24), none, []⟩,
    ⟨(some 3), .mov (.t 25), none, []⟩] false))
  (.mask ⟨[1, 3, 4], [.slot 3 10000030 6]⟩ (.region 6 [
    ⟨(some 16), .mov (.t 4), none, []⟩,
    ⟨(some 17), .bin .add (.t 16) (.c (.d (.int .i64 (1)))), none, []⟩,
    ⟨(some 4), .mov (.t 17), none, []⟩] false))))
/-- beadle/beadleref07.All -/
def code_ref07_All : AFunc := ⟨27, [.tmp 2],
  .seq (.region 0 [
    ⟨(some 1), .box 6 (.t 0), none, []⟩,
    ⟨(some 2), .mov (.c (.d (.vs true []))), none, []⟩] false)
  (.seq (.region 1 [
    ⟨(some 5), .load 6 true (.t 1), none, []⟩,
    ⟨(some 6), .buildSl 6 [(.int .i64 (0)), (.str []), (.int .i64 (0)), (.int .i64 (0)), (.int .i64 (0)), (.vs false [])] 1 [(0, (.t 5))], none, []⟩,
    ⟨(some 3), .mov (.t 6), none, []⟩] false)
  (.seq (.seq (.region 2 [
    ⟨(some 7), .faddr 0 (.t 1), none, []⟩,
    ⟨(some 8), .load 1 false (.t 7), none, []⟩,
    ⟨(some 9), .bin .eql (.t 8) (.c (.d (.int .i64 (4)))), none, []⟩] false)
  (.cond (.t 9)
    (.seq (.region 3 [
      ⟨(some 10), .mov (.t 3), none, []⟩,
      ⟨(some 2), .mov (.t 10), none, []⟩] false)
    (.mask ⟨[2], [.slot 2 10000020 6]⟩ (.ret)))
    (.skip)))
  (.mask ⟨[1, 3], [.slot 3 10000030 6]⟩ (.seq (.seq (.region 4 [
    ⟨(some 4), .mov (.c (.d (.int .i64 (0)))), none, []⟩] false)
  (.block 0 (.loop mask_ref07_All_0 body_ref07_All_0)))
  (.mask ⟨[3], [.slot 3 10000030 6]⟩ (.seq (.region 8 [
    ⟨(some 26), .mov (.t 3), none, []⟩,
    ⟨(some 2), .mov (.t 26), none, []⟩] false)
  (.mask ⟨[2], [.slot 2 10000020 6]⟩ (.ret))))))))⟩
def mask_slices_Concat_api_Update_api_Update_0 : Mask := ⟨[0, 3, 9, 10, 11], []⟩
def body_slices_Concat_api_Update_api_Update_0 : ACode :=
  .seq (.region 3 [
    ⟨(some 12), .bin .lss (.t 11) (.t 10), none, []⟩] false)
  (.seq (.cond (.t 12)
    (.skip)
    (.mask ⟨[0, 3], []⟩ (.exit 0)))
  (.mask ⟨[0, 3, 9, 10, 11], []⟩ (.seq (.block 1 (.seq (.region 4 [
    ⟨(some 13), .iaddr 1 (.t 9) (.t 11), none, []⟩,
    ⟨(some 14), .load 1 false (.t 13), none, []⟩,
    ⟨(some 5), .mov (.t 14), none, []⟩] false)
  (.seq (.region 5 [
    ⟨(some 15), .mov (.t 3), none, []⟩,
    ⟨(some 16), .mov (.t 5), none, []⟩,
    ⟨(some 17), .len .sl (.t 16), none, []⟩,
    ⟨(some 18), .bin .add (.t 15) (.t 17), none, []⟩,
    ⟨(some 3), .mov (.t 18), none, []⟩] false)
  (.seq (.region 6 [
    ⟨(some 19), .mov (.t 3), none, []⟩,
    ⟨(some 20), .bin .lss (.t 19) (.c (.d (.int .i64 (0)))), none, []⟩] false)
  (.cond (.t 20)
    (.region 7 [
      ⟨(some 21), .bad, none, []⟩,
      ⟨none, .bad, none, []⟩] false)
    (.skip))))))
  (.mask ⟨[0, 3, 9, 10, 11], []⟩ (.region 8 [
    ⟨(some 22), .bin .add (.t 11) (.c (.d (.int .i64 (1)))), none, []⟩,
    ⟨(some 11), .mov (.t 22), none, []⟩] false)))))
def mask_slices_Concat_api_Update_api_Update_1 : Mask := ⟨[6, 25, 26, 27], [.slot 6 10000060 8]⟩
def body_slices_Concat_api_Update_api_Update_1 : ACode :=
  .seq (.region 11 [
    ⟨(some 28), .bin .lss (.t 27) (.t 26), none, []⟩] false)
  (.seq (.cond (.t 28)
    (.skip)
    (.mask ⟨[6], [.slot 6 10000060 8]⟩ (.exit 2)))
  (.mask ⟨[6, 25, 26, 27], [.slot 6 10000060 8]⟩ (.seq (.block 3 (.seq (.region 12 [
    ⟨(some 29), .iaddr 1 (.t 25) (.t 27), none, []⟩,
    ⟨(some 30), .load 1 false (.t 29), none, []⟩,
    ⟨(some 8), .mov (.t 30), none, []⟩] false)
  (.region 13 [
    ⟨(some 31), .mov (.t 6), none, []⟩,
    ⟨(some 32), .mov (.t 8), none, []⟩,
    ⟨(some 33), .append 8 (.t 31) (.t 32), none, []⟩,
    ⟨(some 6), .mov (.t 33), none, []⟩] false)))
  (.mask ⟨[6, 25, 26, 27], [.slot 6 10000060 8]⟩ (.region 14 [
    ⟨(some 34), .bin .add (.t 27) (.c (.d (.int .i64 (1)))), none, []⟩,
    ⟨(some 27), .mov (.t 34), none, []⟩] false)))))
/-- slices.Concat[[]beadle/api.Update,beadle/api.Update] -/
def code_slices_Concat_api_Update_api_Update : AFunc := ⟨36, [.tmp 2],
  .seq (.region 0 [
    ⟨(some 2), .mov (.c (.d (.vs true []))), none, []⟩] false)
  (.seq (.region 1 [
    ⟨(some 3), .mov (.c (.d (.int .i64 (0)))), none, []⟩] false)
  (.seq (.seq (.region 2 [
    ⟨(some 9), .mov (.t 0), none, []⟩,
    ⟨(some 10), .len .sl (.t 9), none, []⟩,
    ⟨(some 11), .mov (.c (.d (.int .i64 (0)))), none, []⟩] false)
  (.block 0 (.loop mask_slices_Concat_api_Update_api_Update_0 body_slices_Concat_api_Update_api_Update_0)))
  (.mask ⟨[0, 3], []⟩ (.seq (.region 9 [
    ⟨(some 23), .mov (.t 3), none, []⟩,
    ⟨(some 24), .call (.c (.fn F_slices_Grow_api_Update_api_Update [])) [(.c (.d (.vs true []))), (.t 23)], none, []⟩,
    ⟨(some 6), .mov (.t 24), none, []⟩] false)
  (.seq (.seq (.region 10 [
    ⟨(some 25), .mov (.t 0), none, []⟩,
    ⟨(some 26), .len .sl (.t 25), none, []⟩,
    ⟨(some 27), .mov (.c (.d (.int .i64 (0)))), none, []⟩] false)
  (.block 2 (.loop mask_slices_Concat_api_Update_api_Update_1 body_slices_Concat_api_Update_api_Update_1)))
  (.mask ⟨[6], [.slot 6 10000060 8]⟩ (.seq (.region 15 [
    ⟨(some 35), .mov (.t 6), none, []⟩,
    ⟨(some 2), .mov (.t 35), none, []⟩] false)
  (.mask ⟨[2], [.slot 2 10000020 8]⟩ (.ret)))))))))⟩
/-- slices.Grow[[]beadle/reads.Read,beadle/reads.Read] -/
def code_slices_Grow_reads_Read_reads_Read : AFunc := ⟨27, [.tmp 4],
  .seq (.region 0 [
    ⟨(some 4), .mov (.c (.d (.vs true []))), none, []⟩] false)
  (.seq (.seq (.region 1 [
    ⟨(some 5), .mov (.t 1), none, []⟩,
    ⟨(some 6), .bin .lss (.t 5) (.c (.d (.int .i64 (0)))), none, []⟩] false)
  (.cond (.t 6)
    (.region 2 [
      ⟨(some 7), .bad, none, []⟩,
      ⟨none, .bad, none, []⟩] false)
    (.skip)))
  (.mask ⟨[0, 1], []⟩ (.seq (.seq (.region 3 [
    ⟨(some 8), .mov (.t 1), none, []⟩,
    ⟨(some 9), .mov (.t 0), none, []⟩,
    ⟨(some 10), .len .cp (.t 9), none, []⟩,
    ⟨(some 11), .mov (.t 0), none, []⟩,
    ⟨(some 12), .len .sl (.t 11), none, []⟩,
    ⟨(some 13), .bin .sub (.t 10) (.t 12), none, []⟩,
    ⟨(some 14), .bin .sub (.t 8) (.t 13), none, []⟩,
    ⟨(some 1), .mov (.t 14), none, []⟩] false)
  (.seq (.region 4 [
    ⟨(some 15), .mov (.t 1), none, []⟩,
    ⟨(some 16), .bin .gtr (.t 15) (.c (.d (.int .i64 (0)))), none, []⟩] false)
  (.cond (.t 16)
    (.region 5 [
      ⟨(some 17), .mov (.t 0), none, []⟩,
      ⟨(some 18), .mov (.t 0), none, []⟩,
      ⟨(some 19), .len .cp (.t 18), none, []⟩,
      ⟨(some 20), .slice 2 (.t 17) none (some (.t 19)) none, none, []⟩,
      ⟨(some 21), .mov (.t 1), none, []⟩,
      ⟨(some 22), .appz 2 [(.int .i64 (0)), (.str [])] (.t 20) (.t 21), none, []⟩,
      ⟨(some 23), .mov (.t 0), none, []⟩,
      ⟨(some 24), .len .sl (.t 23), none, []⟩,
      ⟨(some 25), .slice 2 (.t 22) none (some (.t 24)) none, none, []⟩,
      ⟨(some 0), .mov (.t 25), none, []⟩] false)
    (.skip))))
  (.mask ⟨[0], []⟩ (.seq (.region 6 [
    ⟨(some 26), .mov (.t 0), none, []⟩,
    ⟨(some 4), .mov (.t 26), none, []⟩] false)
  (.mask ⟨[4], []⟩ (.ret)))))))⟩
/-- math/bits.Len -/
def code_math_bits_Len : AFunc := ⟨8, [.tmp 2],
  .seq (.region 0 [
    ⟨(some 2), .mov (.c (.d (.int .i64 (0)))), none, []⟩] false)
  (.seq (.cond (.c (.d (.bool false)))
    (.seq (.region 1 [
      ⟨(some 3), .mov (.t 0), none, []⟩,
      ⟨(some 4), .toInt .u32 (.t 3), none, []⟩,
      ⟨(some 5), .call (.c (.fn F_math_bits_Len32 [])) [(.t 4)], none, []⟩,
      ⟨(some 2), .mov (.t 5), none, []⟩] false)
    (.mask ⟨[2], []⟩ (.ret)))
    (.skip))
  (.mask ⟨[0], []⟩ (.seq (.region 2 [
    ⟨(some 6), .mov (.t 0), none, []⟩,
    ⟨(some 7), .call (.c (.fn F_math_bits_Len64 [])) [(.t 6)], none, []⟩,
    ⟨(some 2), .mov (.t 7), none, []⟩] false)
  (.mask ⟨[2], []⟩ (.ret)))))⟩
def mask_slices_pdqsortCmpFunc_reads_Read_0 : Mask := ⟨[0, 1, 2, 3, 4, 10, 11], []⟩
def body_slices_pdqsortCmpFunc_reads_Read_0 : ACode :=
  .block 1 (.seq (.region 2 [
    ⟨(some 21), .mov (.t 2), none, []⟩,
    ⟨(some 22), .mov (.t 1), none, []⟩,
    ⟨(some 23), .bin .sub (.t 21) (.t 22), none, []⟩,
    ⟨(some 12), .mov (.t 23), none, []⟩] false)
  (.seq (.seq (.region 3 [
    ⟨(some 24), .mov (.t 12), none, []⟩,
    ⟨(some 25), .bin .leq (.t 24) (.c (.d (.int .i64 (12)))), none, []⟩] false)
  (.cond (.t 25)
    (.seq (.region 4 [
      ⟨(some 26), .mov (.t 0), none, []⟩,
      ⟨(some 27), .mov (.t 1), none, []⟩,
      ⟨(some 28), .mov (.t 2), none, []⟩,
      ⟨(some 29), .mov (.t 4), none, []⟩,
      ⟨(some 30), .call (.c (.fn F_slices_insertionSortCmpFunc_reads_Read [])) [(.t 26), (.t 27), (.t 28), (.t 29)], none, []⟩] false)
    (.mask ⟨[], []⟩ (.ret)))
    (.skip)))
  (.mask ⟨[0, 1, 2, 3, 4, 10, 11, 12], []⟩ (.seq (.seq (.region 5 [
    ⟨(some 31), .mov (.t 3), none, []⟩,
    ⟨(some 32), .bin .eql (.t 31) (.c (.d (.int .i64 (0)))), none, []⟩] false)
  (.cond (.t 32)
    (.seq (.region 6 [
      ⟨(some 33), .mov (.t 0), none, []⟩,
      ⟨(some 34), .mov (.t 1), none, []⟩,
      ⟨(some 35), .mov (.t 2), none, []⟩,
      ⟨(some 36), .mov (.t 4), none, []⟩,
      ⟨(some 37), .call (.c (.fn F_slices_heapSortCmpFunc_reads_Read [])) [(.t 33), (.t 34), (.t 35), (.t 36)], none, []⟩] false)
    (.mask ⟨[], []⟩ (.ret)))
    (.skip)))
  (.mask ⟨[0, 1, 2, 3, 4, 10, 11, 12], []⟩ (.seq (.seq (.region 7 [
    ⟨(some 38), .mov (.t 10), none, []⟩,
    ⟨(some 39), .un .not (.t 38), none, []⟩] false)
  (.cond (.t 39)
    (.seq (.region 8 [
      ⟨(some 40), .mov (.t 0), none, []⟩,
      ⟨(some 41), .mov (.t 1), none, []⟩,
      ⟨(some 42), .mov (.t 2), none, []⟩,
      ⟨(some 43), .mov (.t 4), none, []⟩,
      ⟨(some 44), .call (.c (.fn F_slices_breakPatternsCmpFunc_reads_Read [])) [(.t 40), (.t 41), (.t 42), (.t 43)], none, []⟩] false)
    (.region 9 [
      ⟨(some 45), .mov (.t 3), none, []⟩,
      ⟨(some 46), .bin .sub (.t 45) (.c (.d (.int .i64 (1)))), none, []⟩,
      ⟨(some 3), .mov (.t 46), none, []⟩] false))
    (.skip)))
  (.mask ⟨[0, 1, 2, 3, 4, 10, 11, 12], []⟩ (.seq (.region 10 [
    ⟨(some 48), .mov (.t 0), none, []⟩,
    ⟨(some 49), .mov (.t 1), none, []⟩,
    ⟨(some 50), .mov (.t 2), none, []⟩,
    ⟨(some 51), .mov (.t 4), none, []⟩,
    ⟨(some 52), .call (.c (.fn F_slices_choosePivotCmpFunc_reads_Read [])) [(.t 48), (.t 49), (.t 50), (.t 51)], none, []⟩,
    ⟨(some 47), .mov (.t 52), none, []⟩,
    ⟨(some 53), .extract (.t 47) 0, none, []⟩,
    ⟨(some 54), .extract (.t 47) 1, none, []⟩,
    ⟨(some 13), .mov (.t 53), none, []⟩,
    ⟨(some 14), .mov (.t 54), none, []⟩] false)
  (.seq (.seq (.region 11 [
    ⟨(some 55), .mov (.t 14), none, []⟩,
    ⟨(some 56), .bin .eql (.t 55) (.c (.d (.int .i64 (2)))), none, []⟩] false)
  (.cond (.t 56)
    (.seq (.region 12 [
      ⟨(some 57), .mov (.t 0), none, []⟩,
      ⟨(some 58), .mov (.t 1), none, []⟩,
      ⟨(some 59), .mov (.t 2), none, []⟩,
      ⟨(some 60), .mov (.t 4), none, []⟩,
      ⟨(some 61), .call (.c (.fn F_slices_reverseRangeCmpFunc_reads_Read [])) [(.t 57), (.t 58), (.t 59), (.t 60)], none, []⟩] false)
    (.seq (.region 13 [
      ⟨(some 62), .mov (.t 2), none, []⟩,
      ⟨(some 63), .bin .sub (.t 62) (.c (.d (.int .i64 (1)))), none, []⟩,
      ⟨(some 64), .mov (.t 13), none, []⟩,
      ⟨(some 65), .mov (.t 1), none, []⟩,
      ⟨(some 66), .bin .sub (.t 64) (.t 65), none, []⟩,
      ⟨(some 67), .bin .sub (.t 63) (.t 66), none, []⟩,
      ⟨(some 13), .mov (.t 67), none, []⟩] false)
    (.region 14 [
      ⟨(some 14), .mov (.c (.d (.int .i64 (1)))), none, []⟩] false)))
    (.skip)))
  (.mask ⟨[0, 1, 2, 3, 4, 10, 11, 12, 13, 14], []⟩ (.seq (.seq (.region 15 [
    ⟨(some 68), .mov (.t 10), none, []⟩,
    ⟨(some 69), .mov (.t 68), none, []⟩,
    ⟨(some 70), .mov (.t 11), (some (69, true)), []⟩,
    ⟨(some 71), .pick (.t 69) (.t 70) (.c (.d (.bool false))), none, []⟩,
    ⟨(some 72), .mov (.t 71), none, []⟩,
    ⟨(some 73), .mov (.t 14), (some (72, true)), []⟩,
    ⟨(some 74), .bin .eql (.t 73) (.c (.d (.int .i64 (1)))), (some (72, true)), []⟩,
    ⟨(some 75), .pick (.t 72) (.t 74) (.c (.d (.bool false))), none, []⟩] false)
  (.mask ⟨[0, 1, 2, 3, 4, 10, 11, 12, 13, 75], []⟩ (.cond (.t 75)
    (.seq (.region 16 [
      ⟨(some 76), .mov (.t 0), none, []⟩,
      ⟨(some 77), .mov (.t 1), none, []⟩,
      ⟨(some 78), .mov (.t 2), none, []⟩,
      ⟨(some 79), .mov (.t 4), none, []⟩,
      ⟨(some 80), .call (.c (.fn F_slices_partialInsertionSortCmpFunc_reads_Read [])) [(.t 76), (.t 77), (.t 78), (.t 79)], none, []⟩] false)
    (.cond (.t 80)
      (.mask ⟨[], []⟩ (.ret))
      (.skip)))
    (.skip))))
  (.mask ⟨[0, 1, 2, 3, 4, 10, 11, 12, 13], []⟩ (.seq (.seq (.region 17 [
    ⟨(some 81), .mov (.t 1), none, []⟩,
    ⟨(some 82), .bin .gtr (.t 81) (.c (.d (.int .i64 (0)))), none, [0]⟩,
    ⟨(some 83), .mov (.t 82), none, [0, 1]⟩,
    ⟨(some 84), .mov (.t 4), (some (83, true)), [0, 1, 2]⟩,
    ⟨(some 85), .mov (.t 0), (some (83, true)), [0, 1, 2]⟩,
    ⟨(some 86), .mov (.t 1), (some (83, true)), [0, 1, 2]⟩,
    ⟨(some 87), .bin .sub (.t 86) (.c (.d (.int .i64 (1)))), (some (83, true)), [0, 1, 2, 5]⟩,
    ⟨(some 88), .iaddr 2 (.t 85) (.t 87), (some (83, true)), [0, 1, 2, 4, 5, 6]⟩,
    ⟨(some 89), .load 2 true (.t 88), (some (83, true)), [0, 1, 2, 4, 5, 6, 7]⟩,
    ⟨(some 90), .mov (.t 0), (some (83, true)), [0, 1, 2]⟩,
    ⟨(some 91), .mov (.t 13), (some (83, true)), [0, 1, 2]⟩,
    ⟨(some 92), .iaddr 2 (.t 90) (.t 91), (some (83, true)), [0, 1, 2, 9, 10]⟩,
    ⟨(some 93), .load 2 true (.t 92), (some (83, true)), [0, 1, 2, 9, 10, 11]⟩,
    ⟨(some 94), .call (.t 84) [(.t 89), (.t 93)], (some (83, true)), [0, 1, 2, 3, 4, 5, 6, 7, 8, 9, 10, 11, 12]⟩,
    ⟨(some 95), .bin .lss (.t 94) (.c (.d (.int .i64 (0)))), (some (83, true)), [0, 1, 2, 3, 4, 5, 6, 7, 8, 9, 10, 11, 12, 13]⟩,
    ⟨(some 96), .un .not (.t 95), (some (83, true)), [0, 1, 2, 3, 4, 5, 6, 7, 8, 9, 10, 11, 12, 13, 14]⟩,
    ⟨(some 97), .pick (.t 83) (.t 96) (.c (.d (.bool false))), none, [0, 1, 2, 3, 4, 5, 6, 7, 8, 9, 10, 11, 12, 13, 14, 15]⟩] true)
  (.mask ⟨[0, 1, 2, 3, 4, 10, 11, 12, 13, 97], []⟩ (.cond (.t 97)
    (.seq (.region 18 [
      ⟨(some 98), .mov (.t 0), none, []⟩,
      ⟨(some 99), .mov (.t 1), none, []⟩,
      ⟨(some 100), .mov (.t 2), none, []⟩,
      ⟨(some 101), .mov (.t 13), none, []⟩,
      ⟨(some 102), .mov (.t 4), none, []⟩,
      ⟨(some 103), .call (.c (.fn F_slices_partitionEqualCmpFunc_reads_Read [])) [(.t 98), (.t 99), (.t 100), (.t 101), (.t 102)], none, []⟩,
      ⟨(some 15), .mov (.t 103), none, []⟩] false)
    (.seq (.region 19 [
      ⟨(some 104), .mov (.t 15), none, []⟩,
      ⟨(some 1), .mov (.t 104), none, []⟩] false)
    (.mask ⟨[0, 1, 2, 3, 4, 10, 11], []⟩ (.exit 1))))
    (.skip))))
  (.mask ⟨[0, 1, 2, 3, 4, 12, 13], []⟩ (.seq (.region 20 [
    ⟨(some 106), .mov (.t 0), none, []⟩,
    ⟨(some 107), .mov (.t 1), none, []⟩,
    ⟨(some 108), .mov (.t 2), none, []⟩,
    ⟨(some 109), .mov (.t 13), none, []⟩,
    ⟨(some 110), .mov (.t 4), none, []⟩,
    ⟨(some 111), .call (.c (.fn F_slices_partitionCmpFunc_reads_Read [])) [(.t 106), (.t 107), (.t 108), (.t 109), (.t 110)], none, []⟩,
    ⟨(some 105), .mov (.t 111), none, []⟩,
    ⟨(some 112), .extract (.t 105) 0, none, []⟩,
    ⟨(some 113), .extract (.t 105) 1, none, []⟩,
    ⟨(some 16), .mov (.t 112), none, []⟩,
    ⟨(some 17), .mov (.t 113), none, []⟩] false)
  (.seq (.region 21 [
    ⟨(some 114), .mov (.t 17), none, []⟩,
    ⟨(some 11), .mov (.t 114), none, []⟩] false)
  (.seq (.region 22 [
    ⟨(some 115), .mov (.t 16), none, []⟩,
    ⟨(some 116), .mov (.t 1), none, []⟩,
    ⟨(some 117), .bin .sub (.t 115) (.t 116), none, []⟩,
    ⟨(some 118), .mov (.t 2), none, []⟩,
    ⟨(some 119), .mov (.t 16), none, []⟩,
    ⟨(some 120), .bin .sub (.t 118) (.t 119), none, []⟩,
    ⟨(some 18), .mov (.t 117), none, []⟩,
    ⟨(some 19), .mov (.t 120), none, []⟩] false)
  (.seq (.region 23 [
    ⟨(some 121), .mov (.t 12), none, []⟩,
    ⟨(some 122), .bin .quo (.t 121) (.c (.d (.int .i64 (8)))), none, []⟩,
    ⟨(some 20), .mov (.t 122), none, []⟩] false)
  (.seq (.region 24 [
    ⟨(some 123), .mov (.t 18), none, []⟩,
    ⟨(some 124), .mov (.t 19), none, []⟩,
    ⟨(some 125), .bin .lss (.t 123) (.t 124), none, []⟩] false)
  (.cond (.t 125)
    (.seq (.region 25 [
      ⟨(some 126), .mov (.t 18), none, []⟩,
      ⟨(some 127), .mov (.t 20), none, []⟩,
      ⟨(some 128), .bin .geq (.t 126) (.t 127), none, []⟩,
      ⟨(some 10), .mov (.t 128), none, []⟩] false)
    (.seq (.region 26 [
      ⟨(some 129), .mov (.t 0), none, []⟩,
      ⟨(some 130), .mov (.t 1), none, []⟩,
      ⟨(some 131), .mov (.t 16), none, []⟩,
      ⟨(some 132), .mov (.t 3), none, []⟩,
      ⟨(some 133), .mov (.t 4), none, []⟩,
      ⟨(some 134), .call (.c (.fn F_slices_pdqsortCmpFunc_reads_Read [])) [(.t 129), (.t 130), (.t 131), (.t 132), (.t 133)], none, []⟩] false)
    (.region 27 [
      ⟨(some 135), .mov (.t 16), none, []⟩,
      ⟨(some 136), .bin .add (.t 135) (.c (.d (.int .i64 (1)))), none, []⟩,
      ⟨(some 1), .mov (.t 136), none, []⟩] false)))
    (.seq (.region 28 [
      ⟨(some 137), .mov (.t 19), none, []⟩,
      ⟨(some 138), .mov (.t 20), none, []⟩,
      ⟨(some 139), .bin .geq (.t 137) (.t 138), none, []⟩,
      ⟨(some 10), .mov (.t 139), none, []⟩] false)
    (.seq (.region 29 [
      ⟨(some 140), .mov (.t 0), none, []⟩,
      ⟨(some 141), .mov (.t 16), none, []⟩,
      ⟨(some 142), .bin .add (.t 141) (.c (.d (.int .i64 (1)))), none, []⟩,
      ⟨(some 143), .mov (.t 2), none, []⟩,
      ⟨(some 144), .mov (.t 3), none, []⟩,
      ⟨(some 145), .mov (.t 4), none, []⟩,
      ⟨(some 146), .call (.c (.fn F_slices_pdqsortCmpFunc_reads_Read [])) [(.t 140), (.t 142), (.t 143), (.t 144), (.t 145)], none, []⟩] false)
    (.region 30 [
      ⟨(some 147), .mov (.t 16), none, []⟩,
      ⟨(some 2), .mov (.t 147), none, []⟩] false)))))))))))))))))))))))
/-- slices.pdqsortCmpFunc[beadle/reads.Read] -/
def code_slices_pdqsortCmpFunc_reads_Read : AFunc := ⟨148, [],
  .seq (.region 0 [
    ⟨(some 10), .mov (.c (.d (.bool true))), none, []⟩] false)
  (.seq (.region 1 [
    ⟨(some 11), .mov (.c (.d (.bool true))), none, []⟩] false)
  (.block 0 (.loop mask_slices_pdqsortCmpFunc_reads_Read_0 body_slices_pdqsortCmpFunc_reads_Read_0)))⟩
/-- cmp.Compare[int] -/
def code_cmp_Compare_int : AFunc := ⟨20, [.tmp 4],
  .seq (.region 0 [
    ⟨(some 4), .mov (.c (.d (.int .i64 (0)))), none, []⟩] false)
  (.seq (.region 1 [
    ⟨(some 7), .mov (.t 0), none, []⟩,
    ⟨(some 8), .call (.c (.fn F_cmp_isNaN_int [])) [(.t 7)], none, []⟩,
    ⟨(some 5), .mov (.t 8), none, []⟩] false)
  (.seq (.region 2 [
    ⟨(some 9), .mov (.t 1), none, []⟩,
    ⟨(some 10), .call (.c (.fn F_cmp_isNaN_int [])) [(.t 9)], none, []⟩,
    ⟨(some 6), .mov (.t 10), none, []⟩] false)
  (.seq (.seq (.region 3 [
    ⟨(some 11), .mov (.t 5), none, []⟩] false)
  (.cond (.t 11)
    (.seq (.seq (.region 4 [
      ⟨(some 12), .mov (.t 6), none, []⟩] false)
    (.cond (.t 12)
      (.seq (.region 5 [
        ⟨(some 4), .mov (.c (.d (.int .i64 (0)))), none, []⟩] false)
      (.mask ⟨[4], []⟩ (.ret)))
      (.skip)))
    (.mask ⟨[], []⟩ (.seq (.region 6 [
      ⟨(some 4), .mov (.c (.d (.int .i64 (-1)))), none, []⟩] false)
    (.mask ⟨[4], []⟩ (.ret)))))
    (.skip)))
  (.mask ⟨[0, 1, 6], []⟩ (.seq (.seq (.region 7 [
    ⟨(some 13), .mov (.t 6), none, []⟩] false)
  (.cond (.t 13)
    (.seq (.region 8 [
      ⟨(some 4), .mov (.c (.d (.int .i64 (1)))), none, []⟩] false)
    (.mask ⟨[4], []⟩ (.ret)))
    (.skip)))
  (.mask ⟨[0, 1], []⟩ (.seq (.seq (.region 9 [
    ⟨(some 14), .mov (.t 0), none, []⟩,
    ⟨(some 15), .mov (.t 1), none, []⟩,
    ⟨(some 16), .bin .lss (.t 14) (.t 15), none, []⟩] false)
  (.cond (.t 16)
    (.seq (.region 10 [
      ⟨(some 4), .mov (.c (.d (.int .i64 (-1)))), none, []⟩] false)
    (.mask ⟨[4], []⟩ (.ret)))
    (.skip)))
  (.mask ⟨[0, 1], []⟩ (.seq (.seq (.region 11 [
    ⟨(some 17), .mov (.t 0), none, []⟩,
    ⟨(some 18), .mov (.t 1), none, []⟩,
    ⟨(some 19), .bin .gtr (.t 17) (.t 18), none, []⟩] false)
  (.cond (.t 19)
    (.seq (.region 12 [
      ⟨(some 4), .mov (.c (.d (.int .i64 (1)))), none, []⟩] false)
    (.mask ⟨[4], []⟩ (.ret)))
    (.skip)))
  (.mask ⟨[], []⟩ (.seq (.region 13 [
    ⟨(some 4), .mov (.c (.d (.int .i64 (0)))), none, []⟩] false)
  (.mask ⟨[4], []⟩ (.ret)))))))))))))⟩
/-- cmp.Compare[string] -/
def code_cmp_Compare_string : AFunc := ⟨20, [.tmp 4],
  .seq (.region 0 [
    ⟨(some 4), .mov (.c (.d (.int .i64 (0)))), none, []⟩] false)
  (.seq (.region 1 [
    ⟨(some 7), .mov (.t 0), none, []⟩,
    ⟨(some 8), .call (.c (.fn F_cmp_isNaN_string [])) [(.t 7)], none, []⟩,
    ⟨(some 5), .mov (.t 8), none, []⟩] false)
  (.seq (.region 2 [
    ⟨(some 9), .mov (.t 1), none, []⟩,
    ⟨(some 10), .call (.c (.fn F_cmp_isNaN_string [])) [(.t 9)], none, []⟩,
    ⟨(some 6), .mov (.t 10), none, []⟩] false)
  (.seq (.seq (.region 3 [
    ⟨(some 11), .mov (.t 5), none, []⟩] false)
  (.cond (.t 11)
    (.seq (.seq (.region 4 [
      ⟨(some 12), .mov (.t 6), none, []⟩] false)
    (.cond (.t 12)
      (.seq (.region 5 [
        ⟨(some 4), .mov (.c (.d (.int .i64 (0)))), none, []⟩] false)
      (.mask ⟨[4], []⟩ (.ret)))
      (.skip)))
    (.mask ⟨[], []⟩ (.seq (.region 6 [
      ⟨(some 4), .mov (.c (.d (.int .i64 (-1)))), none, []⟩] false)
    (.mask ⟨[4], []⟩ (.ret)))))
    (.skip)))
  (.mask ⟨[0, 1, 6], []⟩ (.seq (.seq (.region 7 [
    ⟨(some 13), .mov (.t 6), none, []⟩] false)
  (.cond (.t 13)
    (.seq (.region 8 [
      ⟨(some 4), .mov (.c (.d (.int .i64 (1)))), none, []⟩] false)
    (.mask ⟨[4], []⟩ (.ret)))
    (.skip)))
  (.mask ⟨[0, 1], []⟩ (.seq (.seq (.region 9 [
    ⟨(some 14), .mov (.t 0), none, []⟩,
    ⟨(some 15), .mov (.t 1), none, []⟩,
    ⟨(some 16), .bin .lss (.t 14) (.t 15), none, []⟩] false)
  (.cond (.t 16)
    (.seq (.region 10 [
      ⟨(some 4), .mov (.c (.d (.int .i64 (-1)))), none, []⟩] false)
    (.mask ⟨[4], []⟩ (.ret)))
    (.skip)))
  (.mask ⟨[0, 1], []⟩ (.seq (.seq (.region 11 [
    ⟨(some 17), .mov (.t 0), none, []⟩,
    ⟨(some 18), .mov (.t 1), none, []⟩,
    ⟨(some 19), .bin .gtr (.t 17) (.t 18), none, []⟩] false)
  (.cond (.t 19)
    (.seq (.region 12 [
      ⟨(some 4), .mov (.c (.d (.int .i64 (1)))), none, []⟩] false)
    (.mask ⟨[4], []⟩ (.ret)))
    (.skip)))
  (.mask ⟨[], []⟩ (.seq (.region 13 [
    ⟨(some 4), .mov (.c (.d (.int .i64 (0)))), none, []⟩] false)
  (.mask ⟨[4], []⟩ (.ret)))))))))))))⟩
def mask_cmp_Or_int_0 : Mask := ⟨[3, 6, 7, 8], []⟩
def body_cmp_Or_int_0 : ACode :=
  .seq (.region 3 [
    ⟨(some 9), .bin .lss (.t 8) (.t 7), none, []⟩] false)
  (.seq (.cond (.t 9)
    (.skip)
    (.mask ⟨[3], []⟩ (.exit 0)))
  (.mask ⟨[3, 6, 7, 8], []⟩ (.seq (.block 1 (.seq (.region 4 [
    ⟨(some 10), .iaddr 1 (.t 6) (.t 8), none, []⟩,
    ⟨(some 11), .load 1 false (.t 10), none, []⟩,
    ⟨(some 5), .mov (.t 11), none, []⟩] false)
  (.seq (.region 5 [
    ⟨(some 12), .mov (.t 5), none, []⟩,
    ⟨(some 13), .mov (.t 3), none, []⟩,
    ⟨(some 14), .bin .neq (.t 12) (.t 13), none, []⟩] false)
  (.cond (.t 14)
    (.seq (.region 6 [
      ⟨(some 15), .mov (.t 5), none, []⟩,
      ⟨(some 2), .mov (.t 15), none, []⟩] false)
    (.mask ⟨[2], []⟩ (.ret)))
    (.skip)))))
  (.mask ⟨[3, 6, 7, 8], []⟩ (.region 7 [
    ⟨(some 16), .bin .add (.t 8) (.c (.d (.int .i64 (1)))), none, []⟩,
    ⟨(some 8), .mov (.t 16), none, []⟩] false)))))
/-- cmp.Or[int] -/
def code_cmp_Or_int : AFunc := ⟨18, [.tmp 2],
  .seq (.region 0 [
    ⟨(some 2), .mov (.c (.d (.int .i64 (0)))), none, []⟩] false)
  (.seq (.region 1 [
    ⟨(some 3), .mov (.c (.d (.int .i64 (0)))), none, []⟩] false)
  (.seq (.seq (.region 2 [
    ⟨(some 6), .mov (.t 0), none, []⟩,
    ⟨(some 7), .len .sl (.t 6), none, []⟩,
    ⟨(some 8), .mov (.c (.d (.int .i64 (0)))), none, []⟩] false)
  (.block 0 (.loop mask_cmp_Or_int_0 body_cmp_Or_int_0)))
  (.mask ⟨[3], []⟩ (.seq (.region 8 [
    ⟨(some 17), .mov (.t 3), none, []⟩,
    ⟨(some 2), .mov (.t 17), none, []⟩] false)
  (.mask ⟨[2], []⟩ (.ret))))))⟩
/-- slices.Grow[[]beadle/api.Update,beadle/api.Update] -/
def code_slices_Grow_api_Update_api_Update : AFunc := ⟨27, [.tmp 4],
  .seq (.region 0 [
    ⟨(some 4), .mov (.c (.d (.vs true []))), none, []⟩] false)
  (.seq (.seq (.region 1 [
    ⟨(some 5), .mov (.t 1), none, []⟩,
    ⟨(some 6), .bin .lss (.t 5) (.c (.d (.int .i64 (0)))), none, []⟩] false)
  (.cond (.t 6)
    (.region 2 [
      ⟨(some 7), .bad, none, []⟩,
      ⟨none, .bad, none, []⟩] false)
    (.skip)))
  (.mask ⟨[0, 1], []⟩ (.seq (.seq (.region 3 [
    ⟨(some 8), .mov (.t 1), none, []⟩,
    ⟨(some 9), .mov (.t 0), none, []⟩,
    ⟨(some 10), .len .cp (.t 9), none, []⟩,
    ⟨(some 11), .mov (.t 0), none, []⟩,
    ⟨(some 12), .len .sl (.t 11), none, []⟩,
    ⟨(some 13), .bin .sub (.t 10) (.t 12), none, []⟩,
    ⟨(some 14), .bin .sub (.t 8) (.t 13), none, []⟩,
    ⟨(some 1), .mov (.t 14), none, []⟩] false)
  (.seq (.region 4 [
    ⟨(some 15), .mov (.t 1), none, []⟩,
    ⟨(some 16), .bin .gtr (.t 15) (.c (.d (.int .i64 (0)))), none, []⟩] false)
  (.cond (.t 16)
    (.region 5 [
      ⟨(some 17), .mov (.t 0), none, []⟩,
      ⟨(some 18), .mov (.t 0), none, []⟩,
      ⟨(some 19), .len .cp (.t 18), none, []⟩,
      ⟨(some 20), .slice 8 (.t 17) none (some (.t 19)) none, none, []⟩,
      ⟨(some 21), .mov (.t 1), none, []⟩,
      ⟨(some 22), .appz 8 [(.int .i64 (0)), (.str []), (.int .i64 (0)), (.str []), (.int .i64 (0)), (.int .i64 (0)), (.int .i64 (0)), (.vs false [])] (.t 20) (.t 21), none, []⟩,
      ⟨(some 23), .mov (.t 0), none, []⟩,
      ⟨(some 24), .len .sl (.t 23), none, []⟩,
      ⟨(some 25), .slice 8 (.t 22) none (some (.t 24)) none, none, []⟩,
      ⟨(some 0), .mov (.t 25), none, []⟩] false)
    (.skip))))
  (.mask ⟨[0], []⟩ (.seq (.region 6 [
    ⟨(some 26), .mov (.t 0), none, []⟩,
    ⟨(some 4), .mov (.t 26), none, []⟩] false)
  (.mask ⟨[4], []⟩ (.ret)))))))⟩
/-- math/bits.Len32 -/
def code_math_bits_Len32 : AFunc := ⟨19, [.tmp 2],
  .seq (.region 0 [
    ⟨(some 2), .mov (.c (.d (.int .i64 (0)))), none, []⟩] false)
  (.seq (.seq (.region 1 [
    ⟨(some 3), .mov (.t 0), none, []⟩,
    ⟨(some 4), .bin .geq (.t 3) (.c (.d (.int .u32 (65536)))), none, []⟩] false)
  (.cond (.t 4)
    (.seq (.region 2 [
      ⟨(some 5), .mov (.t 0), none, []⟩,
      ⟨(some 6), .bin .shr (.t 5) (.c (.d (.int .u64 (16)))), none, []⟩,
      ⟨(some 0), .mov (.t 6), none, []⟩] false)
    (.region 3 [
      ⟨(some 2), .mov (.c (.d (.int .i64 (16)))), none, []⟩] false))
    (.skip)))
  (.mask ⟨[0, 2], []⟩ (.seq (.seq (.region 4 [
    ⟨(some 7), .mov (.t 0), none, []⟩,
    ⟨(some 8), .bin .geq (.t 7) (.c (.d (.int .u32 (256)))), none, []⟩] false)
  (.cond (.t 8)
    (.seq (.region 5 [
      ⟨(some 9), .mov (.t 0), none, []⟩,
      ⟨(some 10), .bin .shr (.t 9) (.c (.d (.int .u64 (8)))), none, []⟩,
      ⟨(some 0), .mov (.t 10), none, []⟩] false)
    (.region 6 [
      ⟨(some 11), .mov (.t 2), none, []⟩,
      ⟨(some 12), .bin .add (.t 11) (.c (.d (.int .i64 (8)))), none, []⟩,
      ⟨(some 2), .mov (.t 12), none, []⟩] false))
    (.skip)))
  (.mask ⟨[0, 2], []⟩ (.seq (.region 7 [
    ⟨(some 13), .mov (.t 2), none, []⟩,
    ⟨(some 14), .mov (.t 0), none, []⟩,
    ⟨(some 15), .toInt .u8 (.t 14), none, []⟩,
    ⟨(some 16), .idx (.c (.d (.str [0, 1, 2, 2, 3, 3, 3, 3, 4, 4, 4, 4, 4, 4, 4, 4, 5, 5, 5, 5, 5, 5, 5, 5, 5, 5, 5, 5, 5, 5, 5, 5, 6, 6, 6, 6, 6, 6, 6, 6, 6, 6, 6, 6, 6, 6, 6, 6, 6, 6, 6, 6, 6, 6, 6, 6, 6, 6, 6, 6, 6, 6, 6, 6, 7, 7, 7, 7, 7, 7, 7, 7, 7, 7, 7, 7, 7, 7, 7, 7, 7, 7, 7, 7, 7, 7, 7, 7, 7, 7, 7, 7, 7, 7, 7, 7, 7, 7, 7, 7, 7, 7, 7, 7, 7, 7, 7, 7, 7, 7, 7, 7, 7, 7, 7, 7, 7, 7, 7, 7, 7, 7, 7, 7, 7, 7, 7, 7, 8, 8, 8, 8, 8, 8, 8, 8, 8, 8, 8, 8, 8, 8, 8, 8, 8, 8, 8, 8, 8, 8, 8, 8, 8, 8, 8, 8, 8, 8, 8, 8, 8, 8, 8, 8, 8, 8, 8, 8, 8, 8, 8, 8, 8, 8, 8, 8, 8, 8, 8, 8, 8, 8, 8, 8, 8, 8, 8, 8, 8, 8, 8, 8, 8, 8, 8, 8, 8, 8, 8, 8, 8, 8, 8, 8, 8, 8, 8, 8, 8, 8, 8, 8, 8, 8, 8, 8, 8, 8, 8, 8, 8, 8, 8, 8, 8, 8, 8, 8, 8, 8, 8, 8, 8, 8, 8, 8, 8, 8, 8, 8, 8, 8, 8, 8, 8, 8, 8, 8, 8, 8, 8, 8, 8, 8, 8, 8]))) (.t 15), none, []⟩,
    ⟨(some 17), .toInt .i64 (.t 16), none, []⟩,
    ⟨(some 18), .bin .add (.t 13) (.t 17), none, []⟩,
    ⟨(some 2), .mov (.t 18), none, []⟩] false)
  (.mask ⟨[2], []⟩ (.ret)))))))⟩
/-- math/bits.Len64 -/
def code_math_bits_Len64 : AFunc := ⟨25, [.tmp 2],
  .seq (.region 0 [
    ⟨(some 2), .mov (.c (.d (.int .i64 (0)))), none, []⟩] false)
  (.seq (.seq (.region 1 [
    ⟨(some 3), .mov (.t 0), none, []⟩,
    ⟨(some 4), .bin .geq (.t 3) (.c (.d (.int .u64 (4294967296)))), none, []⟩] false)
  (.cond (.t 4)
    (.seq (.region 2 [
      ⟨(some 5), .mov (.t 0), none, []⟩,
      ⟨(some 6), .bin .shr (.t 5) (.c (.d (.int .u64 (32)))), none, []⟩,
      ⟨(some 0), .mov (.t 6), none, []⟩] false)
    (.region 3 [
      ⟨(some 2), .mov (.c (.d (.int .i64 (32)))), none, []⟩] false))
    (.skip)))
  (.mask ⟨[0, 2], []⟩ (.seq (.seq (.region 4 [
    ⟨(some 7), .mov (.t 0), none, []⟩,
    ⟨(some 8), .bin .geq (.t 7) (.c (.d (.int .u64 (65536)))), none, []⟩] false)
  (.cond (.t 8)
    (.seq (.region 5 [
      ⟨(some 9), .mov (.t 0), none, []⟩,
      ⟨(some 10), .bin .shr (.t 9) (.c (.d (.int .u64 (16)))), none, []⟩,
      ⟨(some 0), .mov (.t 10), none, []⟩] false)
    (.region 6 [
      ⟨(some 11), .mov (.t 2), none, []⟩,
      ⟨(some 12), .bin .add (.t 11) (.c (.d (.int .i64 (16)))), none, []⟩,
      ⟨(some 2), .mov (.t 12), none, []⟩] false))
    (.skip)))
  (.mask ⟨[0, 2], []⟩ (.seq (.seq (.region 7 [
    ⟨(some 13), .mov (.t 0), none, []⟩,
    ⟨(some 14), .bin .geq (.t 13) (.c (.d (.int .u64 (256)))), none, []⟩] false)
  (.cond (.t 14)
    (.seq (.region 8 [
      ⟨(some 15), .mov (.t 0), none, []⟩,
      ⟨(some 16), .bin .shr (.t 15) (.c (.d (.int .u64 (8)))), none, []⟩,
      ⟨(some 0), .mov (.t 16), none, []⟩] false)
    (.region 9 [
      ⟨(some 17), .mov (.t 2), none, []⟩,
      ⟨(some 18), .bin .add (.t 17) (.c (.d (.int .i64 (8)))), none, []⟩,
      ⟨(some 2), .mov (.t 18), none, []⟩] false))
    (.skip)))
  (.mask ⟨[0, 2], []⟩ (.seq (.region 10 [
    ⟨(some 19), .mov (.t 2), none, []⟩,
    ⟨(some 20), .mov (.t 0), none, []⟩,
    ⟨(some 21), .toInt .u8 (.t 20), none, []⟩,
    ⟨(some 22), .idx (.c (.d (.str [0, 1, 2, 2, 3, 3, 3, 3, 4, 4, 4, 4, 4, 4, 4, 4, 5, 5, 5, 5, 5, 5, 5, 5, 5, 5, 5, 5, 5, 5, 5, 5, 6, 6, 6, 6, 6, 6, 6, 6, 6, 6, 6, 6, 6, 6, 6, 6, 6, 6, 6, 6, 6, 6, 6, 6, 6, 6, 6, 6, 6, 6, 6, 6, 7, 7, 7, 7, 7, 7, 7, 7, 7, 7, 7, 7, 7, 7, 7, 7, 7, 7, 7, 7, 7, 7, 7, 7, 7, 7, 7, 7, 7, 7, 7, 7, 7, 7, 7, 7, 7, 7, 7, 7, 7, 7, 7, 7, 7, 7, 7, 7, 7, 7, 7, 7, 7, 7, 7, 7, 7, 7, 7, 7, 7, 7, 7, 7, 8, 8, 8, 8, 8, 8, 8, 8, 8, 8, 8, 8, 8, 8, 8, 8, 8, 8, 8, 8, 8, 8, 8, 8, 8, 8, 8, 8, 8, 8, 8, 8, 8, 8, 8, 8, 8, 8, 8, 8, 8, 8, 8, 8, 8, 8, 8, 8, 8, 8, 8, 8, 8, 8, 8, 8, 8, 8, 8, 8, 8, 8, 8, 8, 8, 8, 8, 8, 8, 8, 8, 8, 8, 8, 8, 8, 8, 8, 8, 8, 8, 8, 8, 8, 8, 8, 8, 8, 8, 8, 8, 8, 8, 8, 8, 8, 8, 8, 8, 8, 8, 8, 8, 8, 8, 8, 8, 8, 8, 8, 8, 8, 8, 8, 8, 8, 8, 8, 8, 8, 8, 8, 8, 8, 8, 8, 8, 8]))) (.t 21), none, []⟩,
    ⟨(some 23), .toInt .i64 (.t 22), none, []⟩,
    ⟨(some 24), .bin .add (.t 19) (.t 23), none, []⟩,
    ⟨(some 2), .mov (.t 24), none, []⟩] false)
  (.mask ⟨[2], []⟩ (.ret)))))))))⟩
def mask_slices_insertionSortCmpFunc_reads_Read_0 : Mask := ⟨[0, 1, 2, 3, 8, 9], []⟩
def body_slices_insertionSortCmpFunc_reads_Read_0 : ACode :=
  .seq (.seq (.region 4 [
    ⟨(some 18), .mov (.t 9), none, []⟩,
    ⟨(some 19), .mov (.t 1), none, []⟩,
    ⟨(some 20), .bin .gtr (.t 18) (.t 19), none, [0, 1]⟩,
    ⟨(some 21), .mov (.t 20), none, [0, 1, 2]⟩,
    ⟨(some 22), .mov (.t 3), (some (21, true)), [0, 1, 2, 3]⟩,
    ⟨(some 23), .mov (.t 0), (some (21, true)), [0, 1, 2, 3]⟩,
    ⟨(some 24), .mov (.t 9), (some (21, true)), [0, 1, 2, 3]⟩,
    ⟨(some 25), .iaddr 2 (.t 23) (.t 24), (some (21, true)), [0, 1, 2, 3, 5, 6]⟩,
    ⟨(some 26), .load 2 true (.t 25), (some (21, true)), [0, 1, 2, 3, 5, 6, 7]⟩,
    ⟨(some 27), .mov (.t 0), (some (21, true)), [0, 1, 2, 3]⟩,
    ⟨(some 28), .mov (.t 9), (some (21, true)), [0, 1, 2, 3]⟩,
    ⟨(some 29), .bin .sub (.t 28) (.c (.d (.int .i64 (1)))), (some (21, true)), [0, 1, 2, 3, 10]⟩,
    ⟨(some 30), .iaddr 2 (.t 27) (.t 29), (some (21, true)), [0, 1, 2, 3, 9, 10, 11]⟩,
    ⟨(some 31), .load 2 true (.t 30), (some (21, true)), [0, 1, 2, 3, 9, 10, 11, 12]⟩,
    ⟨(some 32), .call (.t 22) [(.t 26), (.t 31)], (some (21, true)), [0, 1, 2, 3, 4, 5, 6, 7, 8, 9, 10, 11, 12, 13]⟩,
    ⟨(some 33), .bin .lss (.t 32) (.c (.d (.int .i64 (0)))), (some (21, true)), [0, 1, 2, 3, 4, 5, 6, 7, 8, 9, 10, 11, 12, 13, 14]⟩,
    ⟨(some 34), .pick (.t 21) (.t 33) (.c (.d (.bool false))), none, [0, 1, 2, 3, 4, 5, 6, 7, 8, 9, 10, 11, 12, 13, 14, 15]⟩] true)
  (.mask ⟨[0, 1, 2, 3, 8, 9, 34], []⟩ (.cond (.t 34)
    (.skip)
    (.mask ⟨[0, 1, 2, 3, 8], []⟩ (.exit 2)))))
  (.mask ⟨[0, 1, 2, 3, 8, 9], []⟩ (.seq (.block 3 (.region 6 [
    ⟨(some 37), .mov (.t 0), none, []⟩,
    ⟨(some 38), .mov (.t 9), none, []⟩,
    ⟨(some 39), .mov (.t 0), none, []⟩,
    ⟨(some 40), .mov (.t 9), none, []⟩,
    ⟨(some 41), .bin .sub (.t 40) (.c (.d (.int .i64 (1)))), none, [3]⟩,
    ⟨(some 42), .mov (.t 0), none, []⟩,
    ⟨(some 43), .mov (.t 9), none, []⟩,
    ⟨(some 44), .bin .sub (.t 43) (.c (.d (.int .i64 (1)))), none, [6]⟩,
    ⟨(some 45), .iaddr 2 (.t 42) (.t 44), none, [5, 6, 7]⟩,
    ⟨(some 46), .load 2 true (.t 45), none, [5, 6, 7, 8]⟩,
    ⟨(some 47), .mov (.t 0), none, []⟩,
    ⟨(some 48), .mov (.t 9), none, []⟩,
    ⟨(some 49), .iaddr 2 (.t 47) (.t 48), none, [10, 11]⟩,
    ⟨(some 50), .load 2 true (.t 49), none, [10, 11, 12]⟩,
    ⟨(some 51), .iaddr 2 (.t 37) (.t 38), none, [0, 1, 5, 6, 7, 8, 9, 10, 11, 12, 13]⟩,
    ⟨none, .store 2 (.t 51) (.t 46), none, [0, 1, 5, 6, 7, 8, 9, 10, 11, 12, 13, 14]⟩,
    ⟨(some 52), .iaddr 2 (.t 39) (.t 41), none, [0, 1, 2, 3, 4, 5, 6, 7, 8, 9, 10, 11, 12, 13, 14, 15]⟩,
    ⟨none, .store 2 (.t 52) (.t 50), none, [0, 1, 2, 3, 4, 5, 6, 7, 8, 9, 10, 11, 12, 13, 14, 15, 16]⟩] true))
  (.mask ⟨[0, 1, 2, 3, 8, 9], []⟩ (.region 5 [
    ⟨(some 35), .mov (.t 9), none, []⟩,
    ⟨(some 36), .bin .sub (.t 35) (.c (.d (.int .i64 (1)))), none, []⟩,
    ⟨(some 9), .mov (.t 36), none, []⟩] false))))
def mask_slices_insertionSortCmpFunc_reads_Read_1 : Mask := ⟨[0, 1, 2, 3, 8], []⟩
def body_slices_insertionSortCmpFunc_reads_Read_1 : ACode :=
  .seq (.seq (.region 1 [
    ⟨(some 12), .mov (.t 8), none, []⟩,
    ⟨(some 13), .mov (.t 2), none, []⟩,
    ⟨(some 14), .bin .lss (.t 12) (.t 13), none, []⟩] false)
  (.cond (.t 14)
    (.skip)
    (.mask ⟨[], []⟩ (.exit 0))))
  (.mask ⟨[0, 1, 2, 3, 8], []⟩ (.seq (.block 1 (.seq (.region 3 [
    ⟨(some 17), .mov (.t 8), none, []⟩,
    ⟨(some 9), .mov (.t 17), none, []⟩] false)
  (.block 2 (.loop mask_slices_insertionSortCmpFunc_reads_Read_0 body_slices_insertionSortCmpFunc_reads_Read_0))))
  (.mask ⟨[0, 1, 2, 3, 8], []⟩ (.region 2 [
    ⟨(some 15), .mov (.t 8), none, []⟩,
    ⟨(some 16), .bin .add (.t 15) (.c (.d (.int .i64 (1)))), none, []⟩,
    ⟨(some 8), .mov (.t 16), none, []⟩] false))))
/-- slices.insertionSortCmpFunc[beadle/reads.Read] -/
def code_slices_insertionSortCmpFunc_reads_Read : AFunc := ⟨53, [],
  .seq (.region 0 [
    ⟨(some 10), .mov (.t 1), none, []⟩,
    ⟨(some 11), .bin .add (.t 10) (.c (.d (.int .i64 (1)))), none, []⟩,
    ⟨(some 8), .mov (.t 11), none, []⟩] false)
  (.block 0 (.loop mask_slices_insertionSortCmpFunc_reads_Read_1 body_slices_insertionSortCmpFunc_reads_Read_1))⟩
def mask_slices_heapSortCmpFunc_reads_Read_0 : Mask := ⟨[0, 3, 8, 9, 10, 11], []⟩
def body_slices_heapSortCmpFunc_reads_Read_0 : ACode :=
  .seq (.seq (.region 4 [
    ⟨(some 20), .mov (.t 11), none, []⟩,
    ⟨(some 21), .bin .geq (.t 20) (.c (.d (.int .i64 (0)))), none, []⟩] false)
  (.cond (.t 21)
    (.skip)
    (.mask ⟨[0, 3, 8, 9, 10], []⟩ (.exit 0))))
  (.mask ⟨[0, 3, 8, 9, 10, 11], []⟩ (.seq (.block 1 (.region 6 [
    ⟨(some 24), .mov (.t 0), none, []⟩,
    ⟨(some 25), .mov (.t 11), none, []⟩,
    ⟨(some 26), .mov (.t 10), none, []⟩,
    ⟨(some 27), .mov (.t 8), none, []⟩,
    ⟨(some 28), .mov (.t 3), none, []⟩,
    ⟨(some 29), .call (.c (.fn F_slices_siftDownCmpFunc_reads_Read [])) [(.t 24), (.t 25), (.t 26), (.t 27), (.t 28)], none, []⟩] false))
  (.mask ⟨[0, 3, 8, 9, 10, 11], []⟩ (.region 5 [
    ⟨(some 22), .mov (.t 11), none, []⟩,
    ⟨(some 23), .bin .sub (.t 22) (.c (.d (.int .i64 (1)))), none, []⟩,
    ⟨(some 11), .mov (.t 23), none, []⟩] false))))
def mask_slices_heapSortCmpFunc_reads_Read_1 : Mask := ⟨[0, 3, 8, 9, 12], []⟩
def body_slices_heapSortCmpFunc_reads_Read_1 : ACode :=
  .seq (.seq (.region 8 [
    ⟨(some 32), .mov (.t 12), none, []⟩,
    ⟨(some 33), .bin .geq (.t 32) (.c (.d (.int .i64 (0)))), none, []⟩] false)
  (.cond (.t 33)
    (.skip)
    (.mask ⟨[], []⟩ (.exit 2))))
  (.mask ⟨[0, 3, 8, 9, 12], []⟩ (.seq (.block 3 (.seq (.region 10 [
    ⟨(some 36), .mov (.t 0), none, []⟩,
    ⟨(some 37), .mov (.t 8), none, []⟩,
    ⟨(some 38), .mov (.t 0), none, []⟩,
    ⟨(some 39), .mov (.t 8), none, []⟩,
    ⟨(some 40), .mov (.t 12), none, []⟩,
    ⟨(some 41), .bin .add (.t 39) (.t 40), none, [3, 4]⟩,
    ⟨(some 42), .mov (.t 0), none, []⟩,
    ⟨(some 43), .mov (.t 8), none, []⟩,
    ⟨(some 44), .mov (.t 12), none, []⟩,
    ⟨(some 45), .bin .add (.t 43) (.t 44), none, [7, 8]⟩,
    ⟨(some 46), .iaddr 2 (.t 42) (.t 45), none, [6, 7, 8, 9]⟩,
    ⟨(some 47), .load 2 true (.t 46), none, [6, 7, 8, 9, 10]⟩,
    ⟨(some 48), .mov (.t 0), none, []⟩,
    ⟨(some 49), .mov (.t 8), none, []⟩,
    ⟨(some 50), .iaddr 2 (.t 48) (.t 49), none, [12, 13]⟩,
    ⟨(some 51), .load 2 true (.t 50), none, [12, 13, 14]⟩,
    ⟨(some 52), .iaddr 2 (.t 36) (.t 37), none, [0, 1, 6, 7, 8, 9, 10, 11, 12, 13, 14, 15]⟩,
    ⟨none, .store 2 (.t 52) (.t 47), none, [0, 1, 6, 7, 8, 9, 10, 11, 12, 13, 14, 15, 16]⟩,
    ⟨(some 53), .iaddr 2 (.t 38) (.t 41), none, [0, 1, 2, 3, 4, 5, 6, 7, 8, 9, 10, 11, 12, 13, 14, 15, 16, 17]⟩,
    ⟨none, .store 2 (.t 53) (.t 51), none, [0, 1, 2, 3, 4, 5, 6, 7, 8, 9, 10, 11, 12, 13, 14, 15, 16, 17, 18]⟩] true)
  (.region 11 [
    ⟨(some 54), .mov (.t 0), none, []⟩,
    ⟨(some 55), .mov (.t 9), none, []⟩,
    ⟨(some 56), .mov (.t 12), none, []⟩,
    ⟨(some 57), .mov (.t 8), none, []⟩,
    ⟨(some 58), .mov (.t 3), none, []⟩,
    ⟨(some 59), .call (.c (.fn F_slices_siftDownCmpFunc_reads_Read [])) [(.t 54), (.t 55), (.t 56), (.t 57), (.t 58)], none, []⟩] false)))
  (.mask ⟨[0, 3, 8, 9, 12], []⟩ (.region 9 [
    ⟨(some 34), .mov (.t 12), none, []⟩,
    ⟨(some 35), .bin .sub (.t 34) (.c (.d (.int .i64 (1)))), none, []⟩,
    ⟨(some 12), .mov (.t 35), none, []⟩] false))))
/-- slices.heapSortCmpFunc[beadle/reads.Read] -/
def code_slices_heapSortCmpFunc_reads_Read : AFunc := ⟨60, [],
  .seq (.region 0 [
    ⟨(some 13), .mov (.t 1), none, []⟩,
    ⟨(some 8), .mov (.t 13), none, []⟩] false)
  (.seq (.region 1 [
    ⟨(some 9), .mov (.c (.d (.int .i64 (0)))), none, []⟩] false)
  (.seq (.region 2 [
    ⟨(some 14), .mov (.t 2), none, []⟩,
    ⟨(some 15), .mov (.t 1), none, []⟩,
    ⟨(some 16), .bin .sub (.t 14) (.t 15), none, []⟩,
    ⟨(some 10), .mov (.t 16), none, []⟩] false)
  (.seq (.seq (.region 3 [
    ⟨(some 17), .mov (.t 10), none, []⟩,
    ⟨(some 18), .bin .sub (.t 17) (.c (.d (.int .i64 (1)))), none, []⟩,
    ⟨(some 19), .bin .quo (.t 18) (.c (.d (.int .i64 (2)))), none, []⟩,
    ⟨(some 11), .mov (.t 19), none, []⟩] false)
  (.block 0 (.loop mask_slices_heapSortCmpFunc_reads_Read_0 body_slices_heapSortCmpFunc_reads_Read_0)))
  (.mask ⟨[0, 3, 8, 9, 10], []⟩ (.seq (.region 7 [
    ⟨(some 30), .mov (.t 10), none, []⟩,
    ⟨(some 31), .bin .sub (.t 30) (.c (.d (.int .i64 (1)))), none, []⟩,
    ⟨(some 12), .mov (.t 31), none, []⟩] false)
  (.block 2 (.loop mask_slices_heapSortCmpFunc_reads_Read_1 body_slices_heapSortCmpFunc_reads_Read_1)))))))⟩
def mask_slices_breakPatternsCmpFunc_reads_Read_0 : Mask := ⟨[0, 1, 8, 9, 10, 11], []⟩
def body_slices_breakPatternsCmpFunc_reads_Read_0 : ACode :=
  .seq (.seq (.region 5 [
    ⟨(some 28), .mov (.t 11), none, []⟩,
    ⟨(some 29), .mov (.t 1), none, []⟩,
    ⟨(some 30), .mov (.t 8), none, []⟩,
    ⟨(some 31), .bin .quo (.t 30) (.c (.d (.int .i64 (4)))), none, []⟩,
    ⟨(some 32), .bin .mul (.t 31) (.c (.d (.int .i64 (2)))), none, []⟩,
    ⟨(some 33), .bin .add (.t 29) (.t 32), none, []⟩,
    ⟨(some 34), .bin .add (.t 33) (.c (.d (.int .i64 (1)))), none, []⟩,
    ⟨(some 35), .bin .leq (.t 28) (.t 34), none, []⟩] false)
  (.cond (.t 35)
    (.skip)
    (.mask ⟨[], []⟩ (.exit 0))))
  (.mask ⟨[0, 1, 8, 9, 10, 11], []⟩ (.seq (.block 1 (.seq (.region 7 [
    ⟨(some 38), .call (.c (.fn F_slices_xorshift_Next [])) [(.t 9)], none, []⟩,
    ⟨(some 39), .mov (.t 10), none, []⟩,
    ⟨(some 40), .bin .sub (.t 39) (.c (.d (.int .u64 (1)))), none, []⟩,
    ⟨(some 41), .bin .and (.t 38) (.t 40), none, []⟩,
    ⟨(some 42), .toInt .i64 (.t 41), none, []⟩,
    ⟨(some 12), .mov (.t 42), none, []⟩] false)
  (.seq (.seq (.region 8 [
    ⟨(some 43), .mov (.t 12), none, []⟩,
    ⟨(some 44), .mov (.t 8), none, []⟩,
    ⟨(some 45), .bin .geq (.t 43) (.t 44), none, []⟩] false)
  (.cond (.t 45)
    (.region 9 [
      ⟨(some 46), .mov (.t 12), none, []⟩,
      ⟨(some 47), .mov (.t 8), none, []⟩,
      ⟨(some 48), .bin .sub (.t 46) (.t 47), none, []⟩,
      ⟨(some 12), .mov (.t 48), none, []⟩] false)
    (.skip)))
  (.mask ⟨[0, 1, 8, 9, 10, 11, 12], []⟩ (.region 10 [
    ⟨(some 49), .mov (.t 0), none, []⟩,
    ⟨(some 50), .mov (.t 11), none, []⟩,
    ⟨(some 51), .mov (.t 0), none, []⟩,
    ⟨(some 52), .mov (.t 1), none, []⟩,
    ⟨(some 53), .mov (.t 12), none, []⟩,
    ⟨(some 54), .bin .add (.t 52) (.t 53), none, [3, 4]⟩,
    ⟨(some 55), .mov (.t 0), none, []⟩,
    ⟨(some 56), .mov (.t 1), none, []⟩,
    ⟨(some 57), .mov (.t 12), none, []⟩,
    ⟨(some 58), .bin .add (.t 56) (.t 57), none, [7, 8]⟩,
    ⟨(some 59), .iaddr 2 (.t 55) (.t 58), none, [6, 7, 8, 9]⟩,
    ⟨(some 60), .load 2 true (.t 59), none, [6, 7, 8, 9, 10]⟩,
    ⟨(some 61), .mov (.t 0), none, []⟩,
    ⟨(some 62), .mov (.t 11), none, []⟩,
    ⟨(some 63), .iaddr 2 (.t 61) (.t 62), none, [12, 13]⟩,
    ⟨(some 64), .load 2 true (.t 63), none, [12, 13, 14]⟩,
    ⟨(some 65), .iaddr 2 (.t 49) (.t 50), none, [0, 1, 6, 7, 8, 9, 10, 11, 12, 13, 14, 15]⟩,
    ⟨none, .store 2 (.t 65) (.t 60), none, [0, 1, 6, 7, 8, 9, 10, 11, 12, 13, 14, 15, 16]⟩,
    ⟨(some 66), .iaddr 2 (.t 51) (.t 54), none, [0, 1, 2, 3, 4, 5, 6, 7, 8, 9, 10, 11, 12, 13, 14, 15, 16, 17]⟩,
    ⟨none, .store 2 (.t 66) (.t 64), none, [0, 1, 2, 3, 4, 5, 6, 7, 8, 9, 10, 11, 12, 13, 14, 15, 16, 17, 18]⟩] true)))))
  (.mask ⟨[0, 1, 8, 9, 10, 11], []⟩ (.region 6 [
    ⟨(some 36), .mov (.t 11), none, []⟩,
    ⟨(some 37), .bin .add (.t 36) (.c (.d (.int .i64 (1)))), none, []⟩,
    ⟨(some 11), .mov (.t 37), none, []⟩] false))))
/-- slices.breakPatternsCmpFunc[beadle/reads.Read] -/
def code_slices_breakPatternsCmpFunc_reads_Read : AFunc := ⟨67, [],
  .seq (.region 0 [
    ⟨(some 13), .mov (.t 2), none, []⟩,
    ⟨(some 14), .mov (.t 1), none, []⟩,
    ⟨(some 15), .bin .sub (.t 13) (.t 14), none, []⟩,
    ⟨(some 8), .mov (.t 15), none, []⟩] false)
  (.seq (.region 1 [
    ⟨(some 16), .mov (.t 8), none, []⟩,
    ⟨(some 17), .bin .geq (.t 16) (.c (.d (.int .i64 (8)))), none, []⟩] false)
  (.cond (.t 17)
    (.seq (.region 2 [
      ⟨(some 18), .mov (.t 8), none, []⟩,
      ⟨(some 19), .toInt .u64 (.t 18), none, []⟩,
      ⟨(some 9), .box 1 (.c (.d (.int .u64 (0)))), none, []⟩,
      ⟨none, .store 1 (.t 9) (.t 19), none, []⟩] false)
    (.seq (.region 3 [
      ⟨(some 20), .mov (.t 8), none, []⟩,
      ⟨(some 21), .call (.c (.fn F_slices_nextPowerOfTwo [])) [(.t 20)], none, []⟩,
      ⟨(some 10), .mov (.t 21), none, []⟩] false)
    (.seq (.region 4 [
      ⟨(some 22), .mov (.t 1), none, []⟩,
      ⟨(some 23), .mov (.t 8), none, []⟩,
      ⟨(some 24), .bin .quo (.t 23) (.c (.d (.int .i64 (4)))), none, []⟩,
      ⟨(some 25), .bin .mul (.t 24) (.c (.d (.int .i64 (2)))), none, []⟩,
      ⟨(some 26), .bin .add (.t 22) (.t 25), none, []⟩,
      ⟨(some 27), .bin .sub (.t 26) (.c (.d (.int .i64 (1)))), none, []⟩,
      ⟨(some 11), .mov (.t 27), none, []⟩] false)
    (.block 0 (.loop mask_slices_breakPatternsCmpFunc_reads_Read_0 body_slices_breakPatternsCmpFunc_reads_Read_0)))))
    (.skip)))⟩
/-- slices.choosePivotCmpFunc[beadle/reads.Read] -/
def code_slices_choosePivotCmpFunc_reads_Read : AFunc := ⟨63, [.tmp 8, .tmp 9],
  .seq (.region 0 [
    ⟨(some 8), .mov (.c (.d (.int .i64 (0)))), none, []⟩,
    ⟨(some 9), .mov (.c (.d (.int .i64 (0)))), none, []⟩] false)
  (.seq (.region 1 [
    ⟨(some 15), .mov (.t 2), none, []⟩,
    ⟨(some 16), .mov (.t 1), none, []⟩,
    ⟨(some 17), .bin .sub (.t 15) (.t 16), none, []⟩,
    ⟨(some 10), .mov (.t 17), none, []⟩] false)
  (.seq (.region 2 [
    ⟨(some 11), .box 1 (.c (.d (.int .i64 (0)))), none, []⟩] false)
  (.seq (.region 3 [
    ⟨(some 18), .mov (.t 1), none, []⟩,
    ⟨(some 19), .mov (.t 10), none, []⟩,
    ⟨(some 20), .bin .quo (.t 19) (.c (.d (.int .i64 (4)))), none, []⟩,
    ⟨(some 21), .bin .mul (.t 20) (.c (.d (.int .i64 (1)))), none, []⟩,
    ⟨(some 22), .bin .add (.t 18) (.t 21), none, []⟩,
    ⟨(some 12), .mov (.t 22), none, []⟩] false)
  (.seq (.region 4 [
    ⟨(some 23), .mov (.t 1), none, []⟩,
    ⟨(some 24), .mov (.t 10), none, []⟩,
    ⟨(some 25), .bin .quo (.t 24) (.c (.d (.int .i64 (4)))), none, []⟩,
    ⟨(some 26), .bin .mul (.t 25) (.c (.d (.int .i64 (2)))), none, []⟩,
    ⟨(some 27), .bin .add (.t 23) (.t 26), none, []⟩,
    ⟨(some 13), .mov (.t 27), none, []⟩] false)
  (.seq (.region 5 [
    ⟨(some 28), .mov (.t 1), none, []⟩,
    ⟨(some 29), .mov (.t 10), none, []⟩,
    ⟨(some 30), .bin .quo (.t 29) (.c (.d (.int .i64 (4)))), none, []⟩,
    ⟨(some 31), .bin .mul (.t 30) (.c (.d (.int .i64 (3)))), none, []⟩,
    ⟨(some 32), .bin .add (.t 28) (.t 31), none, []⟩,
    ⟨(some 14), .mov (.t 32), none, []⟩] false)
  (.seq (.seq (.region 6 [
    ⟨(some 33), .mov (.t 10), none, []⟩,
    ⟨(some 34), .bin .geq (.t 33) (.c (.d (.int .i64 (8)))), none, []⟩] false)
  (.cond (.t 34)
    (.seq (.seq (.region 7 [
      ⟨(some 35), .mov (.t 10), none, []⟩,
      ⟨(some 36), .bin .geq (.t 35) (.c (.d (.int .i64 (50)))), none, []⟩] false)
    (.cond (.t 36)
      (.seq (.region 8 [
        ⟨(some 37), .mov (.t 0), none, []⟩,
        ⟨(some 38), .mov (.t 12), none, []⟩,
        ⟨(some 39), .mov (.t 3), none, []⟩,
        ⟨(some 40), .call (.c (.fn F_slices_medianAdjacentCmpFunc_reads_Read [])) [(.t 37), (.t 38), (.t 11), (.t 39)], none, []⟩,
        ⟨(some 12), .mov (.t 40), none, []⟩] false)
      (.seq (.region 9 [
        ⟨(some 41), .mov (.t 0), none, []⟩,
        ⟨(some 42), .mov (.t 13), none, []⟩,
        ⟨(some 43), .mov (.t 3), none, []⟩,
        ⟨(some 44), .call (.c (.fn F_slices_medianAdjacentCmpFunc_reads_Read [])) [(.t 41), (.t 42), (.t 11), (.t 43)], none, []⟩,
        ⟨(some 13), .mov (.t 44), none, []⟩] false)
      (.region 10 [
        ⟨(some 45), .mov (.t 0), none, []⟩,
        ⟨(some 46), .mov (.t 14), none, []⟩,
        ⟨(some 47), .mov (.t 3), none, []⟩,
        ⟨(some 48), .call (.c (.fn F_slices_medianAdjacentCmpFunc_reads_Read [])) [(.t 45), (.t 46), (.t 11), (.t 47)], none, []⟩,
        ⟨(some 14), .mov (.t 48), none, []⟩] false)))
      (.skip)))
    (.mask ⟨[0, 3, 11, 12, 13, 14], []⟩ (.region 11 [
      ⟨(some 49), .mov (.t 0), none, []⟩,
      ⟨(some 50), .mov (.t 12), none, []⟩,
      ⟨(some 51), .mov (.t 13), none, []⟩,
      ⟨(some 52), .mov (.t 14), none, []⟩,
      ⟨(some 53), .mov (.t 3), none, []⟩,
      ⟨(some 54), .call (.c (.fn F_slices_medianCmpFunc_reads_Read [])) [(.t 49), (.t 50), (.t 51), (.t 52), (.t 11), (.t 53)], none, []⟩,
      ⟨(some 13), .mov (.t 54), none, []⟩] false)))
    (.skip)))
  (.mask ⟨[11, 13], []⟩ (.seq (.region 12 [
    ⟨(some 55), .load 1 false (.t 11), none, []⟩] false)
  (.block 0 (.seq (.region 14 [
    ⟨(some 58), .bin .eql (.t 55) (.c (.d (.int .i64 (0)))), none, []⟩,
    ⟨(some 57), .mov (.t 58), none, []⟩] false)
  (.cond (.t 57)
    (.seq (.region 15 [
      ⟨(some 59), .mov (.t 13), none, []⟩,
      ⟨(some 8), .mov (.t 59), none, []⟩,
      ⟨(some 9), .mov (.c (.d (.int .i64 (1)))), none, []⟩] false)
    (.mask ⟨[8, 9], []⟩ (.ret)))
    (.seq (.region 16 [
      ⟨(some 61), .bin .eql (.t 55) (.c (.d (.int .i64 (12)))), none, []⟩,
      ⟨(some 60), .mov (.t 61), none, []⟩] false)
    (.cond (.t 60)
      (.seq (.region 17 [
        ⟨(some 62), .mov (.t 13), none, []⟩,
        ⟨(some 8), .mov (.t 62), none, []⟩,
        ⟨(some 9), .mov (.c (.d (.int .i64 (2)))), none, []⟩] false)
      (.mask ⟨[8, 9], []⟩ (.ret)))
      (.seq (.region 13 [
        ⟨(some 56), .mov (.t 13), none, []⟩,
        ⟨(some 8), .mov (.t 56), none, []⟩,
        ⟨(some 9), .mov (.c (.d (.int .i64 (0)))), none, []⟩] false)
      (.mask ⟨[8, 9], []⟩ (.ret))))))))))))))))⟩
def mask_slices_reverseRangeCmpFunc_reads_Read_0 : Mask := ⟨[0, 8, 9], []⟩
def body_slices_reverseRangeCmpFunc_reads_Read_0 : ACode :=
  .seq (.seq (.region 2 [
    ⟨(some 13), .mov (.t 8), none, []⟩,
    ⟨(some 14), .mov (.t 9), none, []⟩,
    ⟨(some 15), .bin .lss (.t 13) (.t 14), none, []⟩] false)
  (.cond (.t 15)
    (.skip)
    (.mask ⟨[], []⟩ (.exit 0))))
  (.mask ⟨[0, 8, 9], []⟩ (.block 1 (.seq (.region 3 [
    ⟨(some 16), .mov (.t 0), none, []⟩,
    ⟨(some 17), .mov (.t 8), none, []⟩,
    ⟨(some 18), .mov (.t 0), none, []⟩,
    ⟨(some 19), .mov (.t 9), none, []⟩,
    ⟨(some 20), .mov (.t 0), none, []⟩,
    ⟨(some 21), .mov (.t 9), none, []⟩,
    ⟨(some 22), .iaddr 2 (.t 20) (.t 21), none, [4, 5]⟩,
    ⟨(some 23), .load 2 true (.t 22), none, [4, 5, 6]⟩,
    ⟨(some 24), .mov (.t 0), none, []⟩,
    ⟨(some 25), .mov (.t 8), none, []⟩,
    ⟨(some 26), .iaddr 2 (.t 24) (.t 25), none, [8, 9]⟩,
    ⟨(some 27), .load 2 true (.t 26), none, [8, 9, 10]⟩,
    ⟨(some 28), .iaddr 2 (.t 16) (.t 17), none, [0, 1, 4, 5, 6, 7, 8, 9, 10, 11]⟩,
    ⟨none, .store 2 (.t 28) (.t 23), none, [0, 1, 4, 5, 6, 7, 8, 9, 10, 11, 12]⟩,
    ⟨(some 29), .iaddr 2 (.t 18) (.t 19), none, [0, 1, 2, 3, 4, 5, 6, 7, 8, 9, 10, 11, 12, 13]⟩,
    ⟨none, .store 2 (.t 29) (.t 27), none, [0, 1, 2, 3, 4, 5, 6, 7, 8, 9, 10, 11, 12, 13, 14]⟩] true)
  (.seq (.region 4 [
    ⟨(some 30), .mov (.t 8), none, []⟩,
    ⟨(some 31), .bin .add (.t 30) (.c (.d (.int .i64 (1)))), none, []⟩,
    ⟨(some 8), .mov (.t 31), none, []⟩] false)
  (.region 5 [
    ⟨(some 32), .mov (.t 9), none, []⟩,
    ⟨(some 33), .bin .sub (.t 32) (.c (.d (.int .i64 (1)))), none, []⟩,
    ⟨(some 9), .mov (.t 33), none, []⟩] false)))))
/-- slices.reverseRangeCmpFunc[beadle/reads.Read] -/
def code_slices_reverseRangeCmpFunc_reads_Read : AFunc := ⟨34, [],
  .seq (.region 0 [
    ⟨(some 10), .mov (.t 1), none, []⟩,
    ⟨(some 8), .mov (.t 10), none, []⟩] false)
  (.seq (.region 1 [
    ⟨(some 11), .mov (.t 2), none, []⟩,
    ⟨(some 12), .bin .sub (.t 11) (.c (.d (.int .i64 (1)))), none, []⟩,
    ⟨(some 9), .mov (.t 12), none, []⟩] false)
  (.block 0 (.loop mask_slices_reverseRangeCmpFunc_reads_Read_0 body_slices_reverseRangeCmpFunc_reads_Read_0)))⟩
def mask_slices_partialInsertionSortCmpFunc_reads_Read_0 : Mask := ⟨[0, 1, 2, 3, 9, 10], []⟩
def body_slices_partialInsertionSortCmpFunc_reads_Read_0 : ACode :=
  .seq (.seq (.region 5 [
    ⟨(some 19), .mov (.t 9), none, []⟩,
    ⟨(some 20), .mov (.t 2), none, []⟩,
    ⟨(some 21), .bin .lss (.t 19) (.t 20), none, [0, 1]⟩,
    ⟨(some 22), .mov (.t 21), none, [0, 1, 2]⟩,
    ⟨(some 23), .mov (.t 3), (some (22, true)), [0, 1, 2, 3]⟩,
    ⟨(some 24), .mov (.t 0), (some (22, true)), [0, 1, 2, 3]⟩,
    ⟨(some 25), .mov (.t 9), (some (22, true)), [0, 1, 2, 3]⟩,
    ⟨(some 26), .iaddr 2 (.t 24) (.t 25), (some (22, true)), [0, 1, 2, 3, 5, 6]⟩,
    ⟨(some 27), .load 2 true (.t 26), (some (22, true)), [0, 1, 2, 3, 5, 6, 7]⟩,
    ⟨(some 28), .mov (.t 0), (some (22, true)), [0, 1, 2, 3]⟩,
    ⟨(some 29), .mov (.t 9), (some (22, true)), [0, 1, 2, 3]⟩,
    ⟨(some 30), .bin .sub (.t 29) (.c (.d (.int .i64 (1)))), (some (22, true)), [0, 1, 2, 3, 10]⟩,
    ⟨(some 31), .iaddr 2 (.t 28) (.t 30), (some (22, true)), [0, 1, 2, 3, 9, 10, 11]⟩,
    ⟨(some 32), .load 2 true (.t 31), (some (22, true)), [0, 1, 2, 3, 9, 10, 11, 12]⟩,
    ⟨(some 33), .call (.t 23) [(.t 27), (.t 32)], (some (22, true)), [0, 1, 2, 3, 4, 5, 6, 7, 8, 9, 10, 11, 12, 13]⟩,
    ⟨(some 34), .bin .lss (.t 33) (.c (.d (.int .i64 (0)))), (some (22, true)), [0, 1, 2, 3, 4, 5, 6, 7, 8, 9, 10, 11, 12, 13, 14]⟩,
    ⟨(some 35), .un .not (.t 34), (some (22, true)), [0, 1, 2, 3, 4, 5, 6, 7, 8, 9, 10, 11, 12, 13, 14, 15]⟩,
    ⟨(some 36), .pick (.t 22) (.t 35) (.c (.d (.bool false))), none, [0, 1, 2, 3, 4, 5, 6, 7, 8, 9, 10, 11, 12, 13, 14, 15, 16]⟩] true)
  (.mask ⟨[0, 1, 2, 3, 9, 10, 36], []⟩ (.cond (.t 36)
    (.skip)
    (.mask ⟨[0, 1, 2, 3, 9, 10], []⟩ (.exit 2)))))
  (.mask ⟨[0, 1, 2, 3, 9, 10], []⟩ (.block 3 (.region 6 [
    ⟨(some 37), .mov (.t 9), none, []⟩,
    ⟨(some 38), .bin .add (.t 37) (.c (.d (.int .i64 (1)))), none, []⟩,
    ⟨(some 9), .mov (.t 38), none, []⟩] false)))
def mask_slices_partialInsertionSortCmpFunc_reads_Read_1 : Mask := ⟨[0, 1, 2, 3, 9, 10, 11], []⟩
def body_slices_partialInsertionSortCmpFunc_reads_Read_1 : ACode :=
  .seq (.seq (.region 14 [
    ⟨(some 68), .mov (.t 11), none, []⟩,
    ⟨(some 69), .bin .geq (.t 68) (.c (.d (.int .i64 (1)))), none, []⟩] false)
  (.cond (.t 69)
    (.skip)
    (.mask ⟨[0, 1, 2, 3, 9, 10], []⟩ (.exit 4))))
  (.mask ⟨[0, 1, 2, 3, 9, 10, 11], []⟩ (.seq (.block 5 (.seq (.seq (.region 16 [
    ⟨(some 72), .mov (.t 3), none, []⟩,
    ⟨(some 73), .mov (.t 0), none, []⟩,
    ⟨(some 74), .mov (.t 11), none, []⟩,
    ⟨(some 75), .iaddr 2 (.t 73) (.t 74), none, [1, 2]⟩,
    ⟨(some 76), .load 2 true (.t 75), none, [1, 2, 3]⟩,
    ⟨(some 77), .mov (.t 0), none, []⟩,
    ⟨(some 78), .mov (.t 11), none, []⟩,
    ⟨(some 79), .bin .sub (.t 78) (.c (.d (.int .i64 (1)))), none, [6]⟩,
    ⟨(some 80), .iaddr 2 (.t 77) (.t 79), none, [5, 6, 7]⟩,
    ⟨(some 81), .load 2 true (.t 80), none, [5, 6, 7, 8]⟩,
    ⟨(some 82), .call (.t 72) [(.t 76), (.t 81)], none, [0, 1, 2, 3, 4, 5, 6, 7, 8, 9]⟩,
    ⟨(some 83), .bin .lss (.t 82) (.c (.d (.int .i64 (0)))), none, [0, 1, 2, 3, 4, 5, 6, 7, 8, 9, 10]⟩,
    ⟨(some 84), .un .not (.t 83), none, [0, 1, 2, 3, 4, 5, 6, 7, 8, 9, 10, 11]⟩] true)
  (.cond (.t 84)
    (.mask ⟨[0, 1, 2, 3, 9, 10], []⟩ (.exit 4))
    (.skip)))
  (.mask ⟨[0, 1, 2, 3, 9, 10, 11], []⟩ (.region 17 [
    ⟨(some 85), .mov (.t 0), none, []⟩,
    ⟨(some 86), .mov (.t 11), none, []⟩,
    ⟨(some 87), .mov (.t 0), none, []⟩,
    ⟨(some 88), .mov (.t 11), none, []⟩,
    ⟨(some 89), .bin .sub (.t 88) (.c (.d (.int .i64 (1)))), none, [3]⟩,
    ⟨(some 90), .mov (.t 0), none, []⟩,
    ⟨(some 91), .mov (.t 11), none, []⟩,
    ⟨(some 92), .bin .sub (.t 91) (.c (.d (.int .i64 (1)))), none, [6]⟩,
    ⟨(some 93), .iaddr 2 (.t 90) (.t 92), none, [5, 6, 7]⟩,
    ⟨(some 94), .load 2 true (.t 93), none, [5, 6, 7, 8]⟩,
    ⟨(some 95), .mov (.t 0), none, []⟩,
    ⟨(some 96), .mov (.t 11), none, []⟩,
    ⟨(some 97), .iaddr 2 (.t 95) (.t 96), none, [10, 11]⟩,
    ⟨(some 98), .load 2 true (.t 97), none, [10, 11, 12]⟩,
    ⟨(some 99), .iaddr 2 (.t 85) (.t 86), none, [0, 1, 5, 6, 7, 8, 9, 10, 11, 12, 13]⟩,
    ⟨none, .store 2 (.t 99) (.t 94), none, [0, 1, 5, 6, 7, 8, 9, 10, 11, 12, 13, 14]⟩,
    ⟨(some 100), .iaddr 2 (.t 87) (.t 89), none, [0, 1, 2, 3, 4, 5, 6, 7, 8, 9, 10, 11, 12, 13, 14, 15]⟩,
    ⟨none, .store 2 (.t 100) (.t 98), none, [0, 1, 2, 3, 4, 5, 6, 7, 8, 9, 10, 11, 12, 13, 14, 15, 16]⟩] true))))
  (.mask ⟨[0, 1, 2, 3, 9, 10, 11], []⟩ (.region 15 [
    ⟨(some 70), .mov (.t 11), none, []⟩,
    ⟨(some 71), .bin .sub (.t 70) (.c (.d (.int .i64 (1)))), none, []⟩,
    ⟨(some 11), .mov (.t 71), none, []⟩] false))))
def mask_slices_partialInsertionSortCmpFunc_reads_Read_2 : Mask := ⟨[0, 1, 2, 3, 9, 10, 12], []⟩
def body_slices_partialInsertionSortCmpFunc_reads_Read_2 : ACode :=
  .seq (.seq (.region 20 [
    ⟨(some 107), .mov (.t 12), none, []⟩,
    ⟨(some 108), .mov (.t 2), none, []⟩,
    ⟨(some 109), .bin .lss (.t 107) (.t 108), none, []⟩] false)
  (.cond (.t 109)
    (.skip)
    (.mask ⟨[0, 1, 2, 3, 9, 10], []⟩ (.exit 6))))
  (.mask ⟨[0, 1, 2, 3, 9, 10, 12], []⟩ (.seq (.block 7 (.seq (.seq (.region 22 [
    ⟨(some 112), .mov (.t 3), none, []⟩,
    ⟨(some 113), .mov (.t 0), none, []⟩,
    ⟨(some 114), .mov (.t 12), none, []⟩,
    ⟨(some 115), .iaddr 2 (.t 113) (.t 114), none, [1, 2]⟩,
    ⟨(some 116), .load 2 true (.t 115), none, [1, 2, 3]⟩,
    ⟨(some 117), .mov (.t 0), none, []⟩,
    ⟨(some 118), .mov (.t 12), none, []⟩,
    ⟨(some 119), .bin .sub (.t 118) (.c (.d (.int .i64 (1)))), none, [6]⟩,
    ⟨(some 120), .iaddr 2 (.t 117) (.t 119), none, [5, 6, 7]⟩,
    ⟨(some 121), .load 2 true (.t 120), none, [5, 6, 7, 8]⟩,
    ⟨(some 122), .call (.t 112) [(.t 116), (.t 121)], none, [0, 1, 2, 3, 4, 5, 6, 7, 8, 9]⟩,
    ⟨(some 123), .bin .lss (.t 122) (.c (.d (.int .i64 (0)))), none, [0, 1, 2, 3, 4, 5, 6, 7, 8, 9, 10]⟩,
    ⟨(some 124), .un .not (.t 123), none, [0, 1, 2, 3, 4, 5, 6, 7, 8, 9, 10, 11]⟩] true)
  (.cond (.t 124)
    (.mask ⟨[0, 1, 2, 3, 9, 10], []⟩ (.exit 6))
    (.skip)))
  (.mask ⟨[0, 1, 2, 3, 9, 10, 12], []⟩ (.region 23 [
    ⟨(some 125), .mov (.t 0), none, []⟩,
    ⟨(some 126), .mov (.t 12), none, []⟩,
    ⟨(some 127), .mov (.t 0), none, []⟩,
    ⟨(some 128), .mov (.t 12), none, []⟩,
    ⟨(some 129), .bin .sub (.t 128) (.c (.d (.int .i64 (1)))), none, [3]⟩,
    ⟨(some 130), .mov (.t 0), none, []⟩,
    ⟨(some 131), .mov (.t 12), none, []⟩,
    ⟨(some 132), .bin .sub (.t 131) (.c (.d (.int .i64 (1)))), none, [6]⟩,
    ⟨(some 133), .iaddr 2 (.t 130) (.t 132), none, [5, 6, 7]⟩,
    ⟨(some 134), .load 2 true (.t 133), none, [5, 6, 7, 8]⟩,
    ⟨(some 135), .mov (.t 0), none, []⟩,
    ⟨(some 136), .mov (.t 12), none, []⟩,
    ⟨(some 137), .iaddr 2 (.t 135) (.t 136), none, [10, 11]⟩,
    ⟨(some 138), .load 2 true (.t 137), none, [10, 11, 12]⟩,
    ⟨(some 139), .iaddr 2 (.t 125) (.t 126), none, [0, 1, 5, 6, 7, 8, 9, 10, 11, 12, 13]⟩,
    ⟨none, .store 2 (.t 139) (.t 134), none, [0, 1, 5, 6, 7, 8, 9, 10, 11, 12, 13, 14]⟩,
    ⟨(some 140), .iaddr 2 (.t 127) (.t 129), none, [0, 1, 2, 3, 4, 5, 6, 7, 8, 9, 10, 11, 12, 13, 14, 15]⟩,
    ⟨none, .store 2 (.t 140) (.t 138), none, [0, 1, 2, 3, 4, 5, 6, 7, 8, 9, 10, 11, 12, 13, 14, 15, 16]⟩] true))))
  (.mask ⟨[0, 1, 2, 3, 9, 10, 12], []⟩ (.region 21 [
    ⟨(some 110), .mov (.t 12), none, []⟩,
    ⟨(some 111), .bin .add (.t 110) (.c (.d (.int .i64 (1)))), none, []⟩,
    ⟨(some 12), .mov (.t 111), none, []⟩] false))))
def mask_slices_partialInsertionSortCmpFunc_reads_Read_3 : Mask := ⟨[0, 1, 2, 3, 9, 10], []⟩
def body_slices_partialInsertionSortCmpFunc_reads_Read_3 : ACode :=
  .seq (.seq (.region 3 [
    ⟨(some 15), .mov (.t 10), none, []⟩,
    ⟨(some 16), .bin .lss (.t 15) (.c (.d (.int .i64 (5)))), none, []⟩] false)
  (.cond (.t 16)
    (.skip)
    (.mask ⟨[], []⟩ (.exit 0))))
  (.mask ⟨[0, 1, 2, 3, 9, 10], []⟩ (.seq (.block 1 (.seq (.block 2 (.loop mask_slices_partialInsertionSortCmpFunc_reads_Read_0 body_slices_partialInsertionSortCmpFunc_reads_Read_0))
  (.mask ⟨[0, 1, 2, 3, 9, 10], []⟩ (.seq (.seq (.region 7 [
    ⟨(some 39), .mov (.t 9), none, []⟩,
    ⟨(some 40), .mov (.t 2), none, []⟩,
    ⟨(some 41), .bin .eql (.t 39) (.t 40), none, []⟩] false)
  (.cond (.t 41)
    (.seq (.region 8 [
      ⟨(some 8), .mov (.c (.d (.bool true))), none, []⟩] false)
    (.mask ⟨[8], []⟩ (.ret)))
    (.skip)))
  (.mask ⟨[0, 1, 2, 3, 9, 10], []⟩ (.seq (.seq (.region 9 [
    ⟨(some 42), .mov (.t 2), none, []⟩,
    ⟨(some 43), .mov (.t 1), none, []⟩,
    ⟨(some 44), .bin .sub (.t 42) (.t 43), none, []⟩,
    ⟨(some 45), .bin .lss (.t 44) (.c (.d (.int .i64 (50)))), none, []⟩] false)
  (.cond (.t 45)
    (.seq (.region 10 [
      ⟨(some 8), .mov (.c (.d (.bool false))), none, []⟩] false)
    (.mask ⟨[8], []⟩ (.ret)))
    (.skip)))
  (.mask ⟨[0, 1, 2, 3, 9, 10], []⟩ (.seq (.region 11 [
    ⟨(some 46), .mov (.t 0), none, []⟩,
    ⟨(some 47), .mov (.t 9), none, []⟩,
    ⟨(some 48), .mov (.t 0), none, []⟩,
    ⟨(some 49), .mov (.t 9), none, []⟩,
    ⟨(some 50), .bin .sub (.t 49) (.c (.d (.int .i64 (1)))), none, [3]⟩,
    ⟨(some 51), .mov (.t 0), none, []⟩,
    ⟨(some 52), .mov (.t 9), none, []⟩,
    ⟨(some 53), .bin .sub (.t 52) (.c (.d (.int .i64 (1)))), none, [6]⟩,
    ⟨(some 54), .iaddr 2 (.t 51) (.t 53), none, [5, 6, 7]⟩,
    ⟨(some 55), .load 2 true (.t 54), none, [5, 6, 7, 8]⟩,
    ⟨(some 56), .mov (.t 0), none, []⟩,
    ⟨(some 57), .mov (.t 9), none, []⟩,
    ⟨(some 58), .iaddr 2 (.t 56) (.t 57), none, [10, 11]⟩,
    ⟨(some 59), .load 2 true (.t 58), none, [10, 11, 12]⟩,
    ⟨(some 60), .iaddr 2 (.t 46) (.t 47), none, [0, 1, 5, 6, 7, 8, 9, 10, 11, 12, 13]⟩,
    ⟨none, .store 2 (.t 60) (.t 55), none, [0, 1, 5, 6, 7, 8, 9, 10, 11, 12, 13, 14]⟩,
    ⟨(some 61), .iaddr 2 (.t 48) (.t 50), none, [0, 1, 2, 3, 4, 5, 6, 7, 8, 9, 10, 11, 12, 13, 14, 15]⟩,
    ⟨none, .store 2 (.t 61) (.t 59), none, [0, 1, 2, 3, 4, 5, 6, 7, 8, 9, 10, 11, 12, 13, 14, 15, 16]⟩] true)
  (.seq (.seq (.region 12 [
    ⟨(some 62), .mov (.t 9), none, []⟩,
    ⟨(some 63), .mov (.t 1), none, []⟩,
    ⟨(some 64), .bin .sub (.t 62) (.t 63), none, []⟩,
    ⟨(some 65), .bin .geq (.t 64) (.c (.d (.int .i64 (2)))), none, []⟩] false)
  (.cond (.t 65)
    (.seq (.region 13 [
      ⟨(some 66), .mov (.t 9), none, []⟩,
      ⟨(some 67), .bin .sub (.t 66) (.c (.d (.int .i64 (1)))), none, []⟩,
      ⟨(some 11), .mov (.t 67), none, []⟩] false)
    (.block 4 (.loop mask_slices_partialInsertionSortCmpFunc_reads_Read_1 body_slices_partialInsertionSortCmpFunc_reads_Read_1)))
    (.skip)))
  (.mask ⟨[0, 1, 2, 3, 9, 10], []⟩ (.seq (.region 18 [
    ⟨(some 101), .mov (.t 2), none, []⟩,
    ⟨(some 102), .mov (.t 9), none, []⟩,
    ⟨(some 103), .bin .sub (.t 101) (.t 102), none, []⟩,
    ⟨(some 104), .bin .geq (.t 103) (.c (.d (.int .i64 (2)))), none, []⟩] false)
  (.cond (.t 104)
    (.seq (.region 19 [
      ⟨(some 105), .mov (.t 9), none, []⟩,
      ⟨(some 106), .bin .add (.t 105) (.c (.d (.int .i64 (1)))), none, []⟩,
      ⟨(some 12), .mov (.t 106), none, []⟩] false)
    (.block 6 (.loop mask_slices_partialInsertionSortCmpFunc_reads_Read_2 body_slices_partialInsertionSortCmpFunc_reads_Read_2)))
    (.skip)))))))))))))
  (.mask ⟨[0, 1, 2, 3, 9, 10], []⟩ (.region 4 [
    ⟨(some 17), .mov (.t 10), none, []⟩,
    ⟨(some 18), .bin .add (.t 17) (.c (.d (.int .i64 (1)))), none, []⟩,
    ⟨(some 10), .mov (.t 18), none, []⟩] false))))
/-- slices.partialInsertionSortCmpFunc[beadle/reads.Read] -/
def code_slices_partialInsertionSortCmpFunc_reads_Read : AFunc := ⟨141, [.tmp 8],
  .seq (.region 0 [
    ⟨(some 8), .mov (.c (.d (.bool false))), none, []⟩] false)
  (.seq (.region 1 [
    ⟨(some 13), .mov (.t 1), none, []⟩,
    ⟨(some 14), .bin .add (.t 13) (.c (.d (.int .i64 (1)))), none, []⟩,
    ⟨(some 9), .mov (.t 14), none, []⟩] false)
  (.seq (.seq (.region 2 [
    ⟨(some 10), .mov (.c (.d (.int .i64 (0)))), none, []⟩] false)
  (.block 0 (.loop mask_slices_partialInsertionSortCmpFunc_reads_Read_3 body_slices_partialInsertionSortCmpFunc_reads_Read_3)))
  (.mask ⟨[], []⟩ (.seq (.region 24 [
    ⟨(some 8), .mov (.c (.d (.bool false))), none, []⟩] false)
  (.mask ⟨[8], []⟩ (.ret))))))⟩
def mask_slices_partitionEqualCmpFunc_reads_Read_0 : Mask := ⟨[0, 1, 4, 11, 12], []⟩
def body_slices_partitionEqualCmpFunc_reads_Read_0 : ACode :=
  .seq (.seq (.region 3 [
    ⟨(some 31), .mov (.t 11), none, []⟩,
    ⟨(some 32), .mov (.t 12), none, []⟩,
    ⟨(some 33), .bin .leq (.t 31) (.t 32), none, [0, 1]⟩,
    ⟨(some 34), .mov (.t 33), none, [0, 1, 2]⟩,
    ⟨(some 35), .mov (.t 4), (some (34, true)), [0, 1, 2, 3]⟩,
    ⟨(some 36), .mov (.t 0), (some (34, true)), [0, 1, 2, 3]⟩,
    ⟨(some 37), .mov (.t 1), (some (34, true)), [0, 1, 2, 3]⟩,
    ⟨(some 38), .iaddr 2 (.t 36) (.t 37), (some (34, true)), [0, 1, 2, 3, 5, 6]⟩,
    ⟨(some 39), .load 2 true (.t 38), (some (34, true)), [0, 1, 2, 3, 5, 6, 7]⟩,
    ⟨(some 40), .mov (.t 0), (some (34, true)), [0, 1, 2, 3]⟩,
    ⟨(some 41), .mov (.t 11), (some (34, true)), [0, 1, 2, 3]⟩,
    ⟨(some 42), .iaddr 2 (.t 40) (.t 41), (some (34, true)), [0, 1, 2, 3, 9, 10]⟩,
    ⟨(some 43), .load 2 true (.t 42), (some (34, true)), [0, 1, 2, 3, 9, 10, 11]⟩,
    ⟨(some 44), .call (.t 35) [(.t 39), (.t 43)], (some (34, true)), [0, 1, 2, 3, 4, 5, 6, 7, 8, 9, 10, 11, 12]⟩,
    ⟨(some 45), .bin .lss (.t 44) (.c (.d (.int .i64 (0)))), (some (34, true)), [0, 1, 2, 3, 4, 5, 6, 7, 8, 9, 10, 11, 12, 13]⟩,
    ⟨(some 46), .un .not (.t 45), (some (34, true)), [0, 1, 2, 3, 4, 5, 6, 7, 8, 9, 10, 11, 12, 13, 14]⟩,
    ⟨(some 47), .pick (.t 34) (.t 46) (.c (.d (.bool false))), none, [0, 1, 2, 3, 4, 5, 6, 7, 8, 9, 10, 11, 12, 13, 14, 15]⟩] true)
  (.mask ⟨[0, 1, 4, 11, 12, 47], []⟩ (.cond (.t 47)
    (.skip)
    (.mask ⟨[0, 1, 4, 11, 12], []⟩ (.exit 2)))))
  (.mask ⟨[0, 1, 4, 11, 12], []⟩ (.block 3 (.region 4 [
    ⟨(some 48), .mov (.t 11), none, []⟩,
    ⟨(some 49), .bin .add (.t 48) (.c (.d (.int .i64 (1)))), none, []⟩,
    ⟨(some 11), .mov (.t 49), none, []⟩] false)))
def mask_slices_partitionEqualCmpFunc_reads_Read_1 : Mask := ⟨[0, 1, 4, 11, 12], []⟩
def body_slices_partitionEqualCmpFunc_reads_Read_1 : ACode :=
  .seq (.seq (.region 5 [
    ⟨(some 50), .mov (.t 11), none, []⟩,
    ⟨(some 51), .mov (.t 12), none, []⟩,
    ⟨(some 52), .bin .leq (.t 50) (.t 51), none, [0, 1]⟩,
    ⟨(some 53), .mov (.t 52), none, [0, 1, 2]⟩,
    ⟨(some 54), .mov (.t 4), (some (53, true)), [0, 1, 2, 3]⟩,
    ⟨(some 55), .mov (.t 0), (some (53, true)), [0, 1, 2, 3]⟩,
    ⟨(some 56), .mov (.t 1), (some (53, true)), [0, 1, 2, 3]⟩,
    ⟨(some 57), .iaddr 2 (.t 55) (.t 56), (some (53, true)), [0, 1, 2, 3, 5, 6]⟩,
    ⟨(some 58), .load 2 true (.t 57), (some (53, true)), [0, 1, 2, 3, 5, 6, 7]⟩,
    ⟨(some 59), .mov (.t 0), (some (53, true)), [0, 1, 2, 3]⟩,
    ⟨(some 60), .mov (.t 12), (some (53, true)), [0, 1, 2, 3]⟩,
    ⟨(some 61), .iaddr 2 (.t 59) (.t 60), (some (53, true)), [0, 1, 2, 3, 9, 10]⟩,
    ⟨(some 62), .load 2 true (.t 61), (some (53, true)), [0, 1, 2, 3, 9, 10, 11]⟩,
    ⟨(some 63), .call (.t 54) [(.t 58), (.t 62)], (some (53, true)), [0, 1, 2, 3, 4, 5, 6, 7, 8, 9, 10, 11, 12]⟩,
    ⟨(some 64), .bin .lss (.t 63) (.c (.d (.int .i64 (0)))), (some (53, true)), [0, 1, 2, 3, 4, 5, 6, 7, 8, 9, 10, 11, 12, 13]⟩,
    ⟨(some 65), .pick (.t 53) (.t 64) (.c (.d (.bool false))), none, [0, 1, 2, 3, 4, 5, 6, 7, 8, 9, 10, 11, 12, 13, 14]⟩] true)
  (.mask ⟨[0, 1, 4, 11, 12, 65], []⟩ (.cond (.t 65)
    (.skip)
    (.mask ⟨[0, 1, 4, 11, 12], []⟩ (.exit 4)))))
  (.mask ⟨[0, 1, 4, 11, 12], []⟩ (.block 5 (.region 6 [
    ⟨(some 66), .mov (.t 12), none, []⟩,
    ⟨(some 67), .bin .sub (.t 66) (.c (.d (.int .i64 (1)))), none, []⟩,
    ⟨(some 12), .mov (.t 67), none, []⟩] false)))
def mask_slices_partitionEqualCmpFunc_reads_Read_2 : Mask := ⟨[0, 1, 4, 11, 12], []⟩
def body_slices_partitionEqualCmpFunc_reads_Read_2 : ACode :=
  .block 1 (.seq (.block 2 (.loop mask_slices_partitionEqualCmpFunc_reads_Read_0 body_slices_partitionEqualCmpFunc_reads_Read_0))
  (.mask ⟨[0, 1, 4, 11, 12], []⟩ (.seq (.block 4 (.loop mask_slices_partitionEqualCmpFunc_reads_Read_1 body_slices_partitionEqualCmpFunc_reads_Read_1))
  (.mask ⟨[0, 1, 4, 11, 12], []⟩ (.seq (.seq (.region 7 [
    ⟨(some 68), .mov (.t 11), none, []⟩,
    ⟨(some 69), .mov (.t 12), none, []⟩,
    ⟨(some 70), .bin .gtr (.t 68) (.t 69), none, []⟩] false)
  (.cond (.t 70)
    (.mask ⟨[11], []⟩ (.exit 0))
    (.skip)))
  (.mask ⟨[0, 1, 4, 11, 12], []⟩ (.seq (.region 8 [
    ⟨(some 71), .mov (.t 0), none, []⟩,
    ⟨(some 72), .mov (.t 11), none, []⟩,
    ⟨(some 73), .mov (.t 0), none, []⟩,
    ⟨(some 74), .mov (.t 12), none, []⟩,
    ⟨(some 75), .mov (.t 0), none, []⟩,
    ⟨(some 76), .mov (.t 12), none, []⟩,
    ⟨(some 77), .iaddr 2 (.t 75) (.t 76), none, [4, 5]⟩,
    ⟨(some 78), .load 2 true (.t 77), none, [4, 5, 6]⟩,
    ⟨(some 79), .mov (.t 0), none, []⟩,
    ⟨(some 80), .mov (.t 11), none, []⟩,
    ⟨(some 81), .iaddr 2 (.t 79) (.t 80), none, [8, 9]⟩,
    ⟨(some 82), .load 2 true (.t 81), none, [8, 9, 10]⟩,
    ⟨(some 83), .iaddr 2 (.t 71) (.t 72), none, [0, 1, 4, 5, 6, 7, 8, 9, 10, 11]⟩,
    ⟨none, .store 2 (.t 83) (.t 78), none, [0, 1, 4, 5, 6, 7, 8, 9, 10, 11, 12]⟩,
    ⟨(some 84), .iaddr 2 (.t 73) (.t 74), none, [0, 1, 2, 3, 4, 5, 6, 7, 8, 9, 10, 11, 12, 13]⟩,
    ⟨none, .store 2 (.t 84) (.t 82), none, [0, 1, 2, 3, 4, 5, 6, 7, 8, 9, 10, 11, 12, 13, 14]⟩] true)
  (.seq (.region 9 [
    ⟨(some 85), .mov (.t 11), none, []⟩,
    ⟨(some 86), .bin .add (.t 85) (.c (.d (.int .i64 (1)))), none, []⟩,
    ⟨(some 11), .mov (.t 86), none, []⟩] false)
  (.region 10 [
    ⟨(some 87), .mov (.t 12), none, []⟩,
    ⟨(some 88), .bin .sub (.t 87) (.c (.d (.int .i64 (1)))), none, []⟩,
    ⟨(some 12), .mov (.t 88), none, []⟩] false)))))))))
/-- slices.partitionEqualCmpFunc[beadle/reads.Read] -/
def code_slices_partitionEqualCmpFunc_reads_Read : AFunc := ⟨90, [.tmp 10],
  .seq (.region 0 [
    ⟨(some 10), .mov (.c (.d (.int .i64 (0)))), none, []⟩] false)
  (.seq (.region 1 [
    ⟨(some 13), .mov (.t 0), none, []⟩,
    ⟨(some 14), .mov (.t 1), none, []⟩,
    ⟨(some 15), .mov (.t 0), none, []⟩,
    ⟨(some 16), .mov (.t 3), none, []⟩,
    ⟨(some 17), .mov (.t 0), none, []⟩,
    ⟨(some 18), .mov (.t 3), none, []⟩,
    ⟨(some 19), .iaddr 2 (.t 17) (.t 18), none, [4, 5]⟩,
    ⟨(some 20), .load 2 true (.t 19), none, [4, 5, 6]⟩,
    ⟨(some 21), .mov (.t 0), none, []⟩,
    ⟨(some 22), .mov (.t 1), none, []⟩,
    ⟨(some 23), .iaddr 2 (.t 21) (.t 22), none, [8, 9]⟩,
    ⟨(some 24), .load 2 true (.t 23), none, [8, 9, 10]⟩,
    ⟨(some 25), .iaddr 2 (.t 13) (.t 14), none, [0, 1, 4, 5, 6, 7, 8, 9, 10, 11]⟩,
    ⟨none, .store 2 (.t 25) (.t 20), none, [0, 1, 4, 5, 6, 7, 8, 9, 10, 11, 12]⟩,
    ⟨(some 26), .iaddr 2 (.t 15) (.t 16), none, [0, 1, 2, 3, 4, 5, 6, 7, 8, 9, 10, 11, 12, 13]⟩,
    ⟨none, .store 2 (.t 26) (.t 24), none, [0, 1, 2, 3, 4, 5, 6, 7, 8, 9, 10, 11, 12, 13, 14]⟩] true)
  (.seq (.region 2 [
    ⟨(some 27), .mov (.t 1), none, []⟩,
    ⟨(some 28), .bin .add (.t 27) (.c (.d (.int .i64 (1)))), none, []⟩,
    ⟨(some 29), .mov (.t 2), none, []⟩,
    ⟨(some 30), .bin .sub (.t 29) (.c (.d (.int .i64 (1)))), none, []⟩,
    ⟨(some 11), .mov (.t 28), none, []⟩,
    ⟨(some 12), .mov (.t 30), none, []⟩] false)
  (.seq (.block 0 (.loop mask_slices_partitionEqualCmpFunc_reads_Read_2 body_slices_partitionEqualCmpFunc_reads_Read_2))
  (.mask ⟨[11], []⟩ (.seq (.region 11 [
    ⟨(some 89), .mov (.t 11), none, []⟩,
    ⟨(some 10), .mov (.t 89), none, []⟩] false)
  (.mask ⟨[10], []⟩ (.ret)))))))⟩
def mask_slices_partitionCmpFunc_reads_Read_0 : Mask := ⟨[0, 1, 4, 12, 13], []⟩
def body_slices_partitionCmpFunc_reads_Read_0 : ACode :=
  .seq (.seq (.region 3 [
    ⟨(some 32), .mov (.t 12), none, []⟩,
    ⟨(some 33), .mov (.t 13), none, []⟩,
    ⟨(some 34), .bin .leq (.t 32) (.t 33), none, [0, 1]⟩,
    ⟨(some 35), .mov (.t 34), none, [0, 1, 2]⟩,
    ⟨(some 36), .mov (.t 4), (some (35, true)), [0, 1, 2, 3]⟩,
    ⟨(some 37), .mov (.t 0), (some (35, true)), [0, 1, 2, 3]⟩,
    ⟨(some 38), .mov (.t 12), (some (35, true)), [0, 1, 2, 3]⟩,
    ⟨(some 39), .iaddr 2 (.t 37) (.t 38), (some (35, true)), [0, 1, 2, 3, 5, 6]⟩,
    ⟨(some 40), .load 2 true (.t 39), (some (35, true)), [0, 1, 2, 3, 5, 6, 7]⟩,
    ⟨(some 41), .mov (.t 0), (some (35, true)), [0, 1, 2, 3]⟩,
    ⟨(some 42), .mov (.t 1), (some (35, true)), [0, 1, 2, 3]⟩,
    ⟨(some 43), .iaddr 2 (.t 41) (.t 42), (some (35, true)), [0, 1, 2, 3, 9, 10]⟩,
    ⟨(some 44), .load 2 true (.t 43), (some (35, true)), [0, 1, 2, 3, 9, 10, 11]⟩,
    ⟨(some 45), .call (.t 36) [(.t 40), (.t 44)], (some (35, true)), [0, 1, 2, 3, 4, 5, 6, 7, 8, 9, 10, 11, 12]⟩,
    ⟨(some 46), .bin .lss (.t 45) (.c (.d (.int .i64 (0)))), (some (35, true)), [0, 1, 2, 3, 4, 5, 6, 7, 8, 9, 10, 11, 12, 13]⟩,
    ⟨(some 47), .pick (.t 35) (.t 46) (.c (.d (.bool false))), none, [0, 1, 2, 3, 4, 5, 6, 7, 8, 9, 10, 11, 12, 13, 14]⟩] true)
  (.mask ⟨[0, 1, 4, 12, 13, 47], []⟩ (.cond (.t 47)
    (.skip)
    (.mask ⟨[0, 1, 4, 12, 13], []⟩ (.exit 0)))))
  (.mask ⟨[0, 1, 4, 12, 13], []⟩ (.block 1 (.region 4 [
    ⟨(some 48), .mov (.t 12), none, []⟩,
    ⟨(some 49), .bin .add (.t 48) (.c (.d (.int .i64 (1)))), none, []⟩,
    ⟨(some 12), .mov (.t 49), none, []⟩] false)))
def mask_slices_partitionCmpFunc_reads_Read_1 : Mask := ⟨[0, 1, 4, 12, 13], []⟩
def body_slices_partitionCmpFunc_reads_Read_1 : ACode :=
  .seq (.seq (.region 5 [
    ⟨(some 50), .mov (.t 12), none, []⟩,
    ⟨(some 51), .mov (.t 13), none, []⟩,
    ⟨(some 52), .bin .leq (.t 50) (.t 51), none, [0, 1]⟩,
    ⟨(some 53), .mov (.t 52), none, [0, 1, 2]⟩,
    ⟨(some 54), .mov (.t 4), (some (53, true)), [0, 1, 2, 3]⟩,
    ⟨(some 55), .mov (.t 0), (some (53, true)), [0, 1, 2, 3]⟩,
    ⟨(some 56), .mov (.t 13), (some (53, true)), [0, 1, 2, 3]⟩,
    ⟨(some 57), .iaddr 2 (.t 55) (.t 56), (some (53, true)), [0, 1, 2, 3, 5, 6]⟩,
    ⟨(some 58), .load 2 true (.t 57), (some (53, true)), [0, 1, 2, 3, 5, 6, 7]⟩,
    ⟨(some 59), .mov (.t 0), (some (53, true)), [0, 1, 2, 3]⟩,
    ⟨(some 60), .mov (.t 1), (some (53, true)), [0, 1, 2, 3]⟩,
    ⟨(some 61), .iaddr 2 (.t 59) (.t 60), (some (53, true)), [0, 1, 2, 3, 9, 10]⟩,
    ⟨(some 62), .load 2 true (.t 61), (some (53, true)), [0, 1, 2, 3, 9, 10, 11]⟩,
    ⟨(some 63), .call (.t 54) [(.t 58), (.t 62)], (some (53, true)), [0, 1, 2, 3, 4, 5, 6, 7, 8, 9, 10, 11, 12]⟩,
    ⟨(some 64), .bin .lss (.t 63) (.c (.d (.int .i64 (0)))), (some (53, true)), [0, 1, 2, 3, 4, 5, 6, 7, 8, 9, 10, 11, 12, 13]⟩,
    ⟨(some 65), .un .not (.t 64), (some (53, true)), [0, 1, 2, 3, 4, 5, 6, 7, 8, 9, 10, 11, 12, 13, 14]⟩,
    ⟨(some 66), .pick (.t 53) (.t 65) (.c (.d (.bool false))), none, [0, 1, 2, 3, 4, 5, 6, 7, 8, 9, 10, 11, 12, 13, 14, 15]⟩] true)
  (.mask ⟨[0, 1, 4, 12, 13, 66], []⟩ (.cond (.t 66)
    (.skip)
    (.mask ⟨[0, 1, 4, 12, 13], []⟩ (.exit 2)))))
  (.mask ⟨[0, 1, 4, 12, 13], []⟩ (.block 3 (.region 6 [
    ⟨(some 67), .mov (.t 13), none, []⟩,
    ⟨(some 68), .bin .sub (.t 67) (.c (.d (.int .i64 (1)))), none, []⟩,
    ⟨(some 13), .mov (.t 68), none, []⟩] false)))
def mask_slices_partitionCmpFunc_reads_Read_2 : Mask := ⟨[0, 1, 4, 12, 13], []⟩
def body_slices_partitionCmpFunc_reads_Read_2 : ACode :=
  .seq (.seq (.region 13 [
    ⟨(some 105), .mov (.t 12), none, []⟩,
    ⟨(some 106), .mov (.t 13), none, []⟩,
    ⟨(some 107), .bin .leq (.t 105) (.t 106), none, [0, 1]⟩,
    ⟨(some 108), .mov (.t 107), none, [0, 1, 2]⟩,
    ⟨(some 109), .mov (.t 4), (some (108, true)), [0, 1, 2, 3]⟩,
    ⟨(some 110), .mov (.t 0), (some (108, true)), [0, 1, 2, 3]⟩,
    ⟨(some 111), .mov (.t 12), (some (108, true)), [0, 1, 2, 3]⟩,
    ⟨(some 112), .iaddr 2 (.t 110) (.t 111), (some (108, true)), [0, 1, 2, 3, 5, 6]⟩,
    ⟨(some 113), .load 2 true (.t 112), (some (108, true)), [0, 1, 2, 3, 5, 6, 7]⟩,
    ⟨(some 114), .mov (.t 0), (some (108, true)), [0, 1, 2, 3]⟩,
    ⟨(some 115), .mov (.t 1), (some (108, true)), [0, 1, 2, 3]⟩,
    ⟨(some 116), .iaddr 2 (.t 114) (.t 115), (some (108, true)), [0, 1, 2, 3, 9, 10]⟩,
    ⟨(some 117), .load 2 true (.t 116), (some (108, true)), [0, 1, 2, 3, 9, 10, 11]⟩,
    ⟨(some 118), .call (.t 109) [(.t 113), (.t 117)], (some (108, true)), [0, 1, 2, 3, 4, 5, 6, 7, 8, 9, 10, 11, 12]⟩,
    ⟨(some 119), .bin .lss (.t 118) (.c (.d (.int .i64 (0)))), (some (108, true)), [0, 1, 2, 3, 4, 5, 6, 7, 8, 9, 10, 11, 12, 13]⟩,
    ⟨(some 120), .pick (.t 108) (.t 119) (.c (.d (.bool false))), none, [0, 1, 2, 3, 4, 5, 6, 7, 8, 9, 10, 11, 12, 13, 14]⟩] true)
  (.mask ⟨[0, 1, 4, 12, 13, 120], []⟩ (.cond (.t 120)
    (.skip)
    (.mask ⟨[0, 1, 4, 12, 13], []⟩ (.exit 6)))))
  (.mask ⟨[0, 1, 4, 12, 13], []⟩ (.block 7 (.region 14 [
    ⟨(some 121), .mov (.t 12), none, []⟩,
    ⟨(some 122), .bin .add (.t 121) (.c (.d (.int .i64 (1)))), none, []⟩,
    ⟨(some 12), .mov (.t 122), none, []⟩] false)))
def mask_slices_partitionCmpFunc_reads_Read_3 : Mask := ⟨[0, 1, 4, 12, 13], []⟩
def body_slices_partitionCmpFunc_reads_Read_3 : ACode :=
  .seq (.seq (.region 15 [
    ⟨(some 123), .mov (.t 12), none, []⟩,
    ⟨(some 124), .mov (.t 13), none, []⟩,
    ⟨(some 125), .bin .leq (.t 123) (.t 124), none, [0, 1]⟩,
    ⟨(some 126), .mov (.t 125), none, [0, 1, 2]⟩,
    ⟨(some 127), .mov (.t 4), (some (126, true)), [0, 1, 2, 3]⟩,
    ⟨(some 128), .mov (.t 0), (some (126, true)), [0, 1, 2, 3]⟩,
    ⟨(some 129), .mov (.t 13), (some (126, true)), [0, 1, 2, 3]⟩,
    ⟨(some 130), .iaddr 2 (.t 128) (.t 129), (some (126, true)), [0, 1, 2, 3, 5, 6]⟩,
    ⟨(some 131), .load 2 true (.t 130), (some (126, true)), [0, 1, 2, 3, 5, 6, 7]⟩,
    ⟨(some 132), .mov (.t 0), (some (126, true)), [0, 1, 2, 3]⟩,
    ⟨(some 133), .mov (.t 1), (some (126, true)), [0, 1, 2, 3]⟩,
    ⟨(some 134), .iaddr 2 (.t 132) (.t 133), (some (126, true)), [0, 1, 2, 3, 9, 10]⟩,
    ⟨(some 135), .load 2 true (.t 134), (some (126, true)), [0, 1, 2, 3, 9, 10, 11]⟩,
    ⟨(some 136), .call (.t 127) [(.t 131), (.t 135)], (some (126, true)), [0, 1, 2, 3, 4, 5, 6, 7, 8, 9, 10, 11, 12]⟩,
    ⟨(some 137), .bin .lss (.t 136) (.c (.d (.int .i64 (0)))), (some (126, true)), [0, 1, 2, 3, 4, 5, 6, 7, 8, 9, 10, 11, 12, 13]⟩,
    ⟨(some 138), .un .not (.t 137), (some (126, true)), [0, 1, 2, 3, 4, 5, 6, 7, 8, 9, 10, 11, 12, 13, 14]⟩,
    ⟨(some 139), .pick (.t 126) (.t 138) (.c (.d (.bool false))), none, [0, 1, 2, 3, 4, 5, 6, 7, 8, 9, 10, 11, 12, 13, 14, 15]⟩] true)
  (.mask ⟨[0, 1, 4, 12, 13, 139], []⟩ (.cond (.t 139)
    (.skip)
    (.mask ⟨[0, 1, 4, 12, 13], []⟩ (.exit 8)))))
  (.mask ⟨[0, 1, 4, 12, 13], []⟩ (.block 9 (.region 16 [
    ⟨(some 140), .mov (.t 13), none, []⟩,
    ⟨(some 141), .bin .sub (.t 140) (.c (.d (.int .i64 (1)))), none, []⟩,
    ⟨(some 13), .mov (.t 141), none, []⟩] false)))
def mask_slices_partitionCmpFunc_reads_Read_4 : Mask := ⟨[0, 1, 4, 12, 13], []⟩
def body_slices_partitionCmpFunc_reads_Read_4 : ACode :=
  .block 5 (.seq (.block 6 (.loop mask_slices_partitionCmpFunc_reads_Read_2 body_slices_partitionCmpFunc_reads_Read_2))
  (.mask ⟨[0, 1, 4, 12, 13], []⟩ (.seq (.block 8 (.loop mask_slices_partitionCmpFunc_reads_Read_3 body_slices_partitionCmpFunc_reads_Read_3))
  (.mask ⟨[0, 1, 4, 12, 13], []⟩ (.seq (.seq (.region 17 [
    ⟨(some 142), .mov (.t 12), none, []⟩,
    ⟨(some 143), .mov (.t 13), none, []⟩,
    ⟨(some 144), .bin .gtr (.t 142) (.t 143), none, []⟩] false)
  (.cond (.t 144)
    (.mask ⟨[0, 1, 13], []⟩ (.exit 4))
    (.skip)))
  (.mask ⟨[0, 1, 4, 12, 13], []⟩ (.seq (.region 18 [
    ⟨(some 145), .mov (.t 0), none, []⟩,
    ⟨(some 146), .mov (.t 12), none, []⟩,
    ⟨(some 147), .mov (.t 0), none, []⟩,
    ⟨(some 148), .mov (.t 13), none, []⟩,
    ⟨(some 149), .mov (.t 0), none, []⟩,
    ⟨(some 150), .mov (.t 13), none, []⟩,
    ⟨(some 151), .iaddr 2 (.t 149) (.t 150), none, [4, 5]⟩,
    ⟨(some 152), .load 2 true (.t 151), none, [4, 5, 6]⟩,
    ⟨(some 153), .mov (.t 0), none, []⟩,
    ⟨(some 154), .mov (.t 12), none, []⟩,
    ⟨(some 155), .iaddr 2 (.t 153) (.t 154), none, [8, 9]⟩,
    ⟨(some 156), .load 2 true (.t 155), none, [8, 9, 10]⟩,
    ⟨(some 157), .iaddr 2 (.t 145) (.t 146), none, [0, 1, 4, 5, 6, 7, 8, 9, 10, 11]⟩,
    ⟨none, .store 2 (.t 157) (.t 152), none, [0, 1, 4, 5, 6, 7, 8, 9, 10, 11, 12]⟩,
    ⟨(some 158), .iaddr 2 (.t 147) (.t 148), none, [0, 1, 2, 3, 4, 5, 6, 7, 8, 9, 10, 11, 12, 13]⟩,
    ⟨none, .store 2 (.t 158) (.t 156), none, [0, 1, 2, 3, 4, 5, 6, 7, 8, 9, 10, 11, 12, 13, 14]⟩] true)
  (.seq (.region 19 [
    ⟨(some 159), .mov (.t 12), none, []⟩,
    ⟨(some 160), .bin .add (.t 159) (.c (.d (.int .i64 (1)))), none, []⟩,
    ⟨(some 12), .mov (.t 160), none, []⟩] false)
  (.region 20 [
    ⟨(some 161), .mov (.t 13), none, []⟩,
    ⟨(some 162), .bin .sub (.t 161) (.c (.d (.int .i64 (1)))), none, []⟩,
    ⟨(some 13), .mov (.t 162), none, []⟩] false)))))))))
/-- slices.partitionCmpFunc[beadle/reads.Read] -/
def code_slices_partitionCmpFunc_reads_Read : AFunc := ⟨178, [.tmp 10, .tmp 11],
  .seq (.region 0 [
    ⟨(some 10), .mov (.c (.d (.int .i64 (0)))), none, []⟩,
    ⟨(some 11), .mov (.c (.d (.bool false))), none, []⟩] false)
  (.seq (.region 1 [
    ⟨(some 14), .mov (.t 0), none, []⟩,
    ⟨(some 15), .mov (.t 1), none, []⟩,
    ⟨(some 16), .mov (.t 0), none, []⟩,
    ⟨(some 17), .mov (.t 3), none, []⟩,
    ⟨(some 18), .mov (.t 0), none, []⟩,
    ⟨(some 19), .mov (.t 3), none, []⟩,
    ⟨(some 20), .iaddr 2 (.t 18) (.t 19), none, [4, 5]⟩,
    ⟨(some 21), .load 2 true (.t 20), none, [4, 5, 6]⟩,
    ⟨(some 22), .mov (.t 0), none, []⟩,
    ⟨(some 23), .mov (.t 1), none, []⟩,
    ⟨(some 24), .iaddr 2 (.t 22) (.t 23), none, [8, 9]⟩,
    ⟨(some 25), .load 2 true (.t 24), none, [8, 9, 10]⟩,
    ⟨(some 26), .iaddr 2 (.t 14) (.t 15), none, [0, 1, 4, 5, 6, 7, 8, 9, 10, 11]⟩,
    ⟨none, .store 2 (.t 26) (.t 21), none, [0, 1, 4, 5, 6, 7, 8, 9, 10, 11, 12]⟩,
    ⟨(some 27), .iaddr 2 (.t 16) (.t 17), none, [0, 1, 2, 3, 4, 5, 6, 7, 8, 9, 10, 11, 12, 13]⟩,
    ⟨none, .store 2 (.t 27) (.t 25), none, [0, 1, 2, 3, 4, 5, 6, 7, 8, 9, 10, 11, 12, 13, 14]⟩] true)
  (.seq (.region 2 [
    ⟨(some 28), .mov (.t 1), none, []⟩,
    ⟨(some 29), .bin .add (.t 28) (.c (.d (.int .i64 (1)))), none, []⟩,
    ⟨(some 30), .mov (.t 2), none, []⟩,
    ⟨(some 31), .bin .sub (.t 30) (.c (.d (.int .i64 (1)))), none, []⟩,
    ⟨(some 12), .mov (.t 29), none, []⟩,
    ⟨(some 13), .mov (.t 31), none, []⟩] false)
  (.seq (.block 0 (.loop mask_slices_partitionCmpFunc_reads_Read_0 body_slices_partitionCmpFunc_reads_Read_0))
  (.mask ⟨[0, 1, 4, 12, 13], []⟩ (.seq (.block 2 (.loop mask_slices_partitionCmpFunc_reads_Read_1 body_slices_partitionCmpFunc_reads_Read_1))
  (.mask ⟨[0, 1, 4, 12, 13], []⟩ (.seq (.seq (.region 7 [
    ⟨(some 69), .mov (.t 12), none, []⟩,
    ⟨(some 70), .mov (.t 13), none, []⟩,
    ⟨(some 71), .bin .gtr (.t 69) (.t 70), none, []⟩] false)
  (.cond (.t 71)
    (.seq (.region 8 [
      ⟨(some 72), .mov (.t 0), none, []⟩,
      ⟨(some 73), .mov (.t 13), none, []⟩,
      ⟨(some 74), .mov (.t 0), none, []⟩,
      ⟨(some 75), .mov (.t 1), none, []⟩,
      ⟨(some 76), .mov (.t 0), none, []⟩,
      ⟨(some 77), .mov (.t 1), none, []⟩,
      ⟨(some 78), .iaddr 2 (.t 76) (.t 77), none, [4, 5]⟩,
      ⟨(some 79), .load 2 true (.t 78), none, [4, 5, 6]⟩,
      ⟨(some 80), .mov (.t 0), none, []⟩,
      ⟨(some 81), .mov (.t 13), none, []⟩,
      ⟨(some 82), .iaddr 2 (.t 80) (.t 81), none, [8, 9]⟩,
      ⟨(some 83), .load 2 true (.t 82), none, [8, 9, 10]⟩,
      ⟨(some 84), .iaddr 2 (.t 72) (.t 73), none, [0, 1, 4, 5, 6, 7, 8, 9, 10, 11]⟩,
      ⟨none, .store 2 (.t 84) (.t 79), none, [0, 1, 4, 5, 6, 7, 8, 9, 10, 11, 12]⟩,
      ⟨(some 85), .iaddr 2 (.t 74) (.t 75), none, [0, 1, 2, 3, 4, 5, 6, 7, 8, 9, 10, 11, 12, 13]⟩,
      ⟨none, .store 2 (.t 85) (.t 83), none, [0, 1, 2, 3, 4, 5, 6, 7, 8, 9, 10, 11, 12, 13, 14]⟩] true)
    (.seq (.region 9 [
      ⟨(some 86), .mov (.t 13), none, []⟩,
      ⟨(some 10), .mov (.t 86), none, []⟩,
      ⟨(some 11), .mov (.c (.d (.bool true))), none, []⟩] false)
    (.mask ⟨[10, 11], []⟩ (.ret))))
    (.skip)))
  (.mask ⟨[0, 1, 4, 12, 13], []⟩ (.seq (.region 10 [
    ⟨(some 87), .mov (.t 0), none, []⟩,
    ⟨(some 88), .mov (.t 12), none, []⟩,
    ⟨(some 89), .mov (.t 0), none, []⟩,
    ⟨(some 90), .mov (.t 13), none, []⟩,
    ⟨(some 91), .mov (.t 0), none, []⟩,
    ⟨(some 92), .mov (.t 13), none, []⟩,
    ⟨(some 93), .iaddr 2 (.t 91) (.t 92), none, [4, 5]⟩,
    ⟨(some 94), .load 2 true (.t 93), none, [4, 5, 6]⟩,
    ⟨(some 95), .mov (.t 0), none, []⟩,
    ⟨(some 96), .mov (.t 12), none, []⟩,
    ⟨(some 97), .iaddr 2 (.t 95) (.t 96), none, [8, 9]⟩,
    ⟨(some 98), .load 2 true (.t 97), none, [8, 9, 10]⟩,
    ⟨(some 99), .iaddr 2 (.t 87) (.t 88), none, [0, 1, 4, 5, 6, 7, 8, 9, 10, 11]⟩,
    ⟨none, .store 2 (.t 99) (.t 94), none, [0, 1, 4, 5, 6, 7, 8, 9, 10, 11, 12]⟩,
    ⟨(some 100), .iaddr 2 (.t 89) (.t 90), none, [0, 1, 2, 3, 4, 5, 6, 7, 8, 9, 10, 11, 12, 13]⟩,
    ⟨none, .store 2 (.t 100) (.t 98), none, [0, 1, 2, 3, 4, 5, 6, 7, 8, 9, 10, 11, 12, 13, 14]⟩] true)
  (.seq (.region 11 [
    ⟨(some 101), .mov (.t 12), none, []⟩,
    ⟨(some 102), .bin .add (.t 101) (.c (.d (.int .i64 (1)))), none, []⟩,
    ⟨(some 12), .mov (.t 102), none, []⟩] false)
  (.seq (.region 12 [
    ⟨(some 103), .mov (.t 13), none, []⟩,
    ⟨(some 104), .bin .sub (.t 103) (.c (.d (.int .i64 (1)))), none, []⟩,
    ⟨(some 13), .mov (.t 104), none, []⟩] false)
  (.seq (.block 4 (.loop mask_slices_partitionCmpFunc_reads_Read_4 body_slices_partitionCmpFunc_reads_Read_4))
  (.mask ⟨[0, 1, 13], []⟩ (.seq (.region 21 [
    ⟨(some 163), .mov (.t 0), none, []⟩,
    ⟨(some 164), .mov (.t 13), none, []⟩,
    ⟨(some 165), .mov (.t 0), none, []⟩,
    ⟨(some 166), .mov (.t 1), none, []⟩,
    ⟨(some 167), .mov (.t 0), none, []⟩,
    ⟨(some 168), .mov (.t 1), none, []⟩,
    ⟨(some 169), .iaddr 2 (.t 167) (.t 168), none, [4, 5]⟩,
    ⟨(some 170), .load 2 true (.t 169), none, [4, 5, 6]⟩,
    ⟨(some 171), .mov (.t 0), none, []⟩,
    ⟨(some 172), .mov (.t 13), none, []⟩,
    ⟨(some 173), .iaddr 2 (.t 171) (.t 172), none, [8, 9]⟩,
    ⟨(some 174), .load 2 true (.t 173), none, [8, 9, 10]⟩,
    ⟨(some 175), .iaddr 2 (.t 163) (.t 164), none, [0, 1, 4, 5, 6, 7, 8, 9, 10, 11]⟩,
    ⟨none, .store 2 (.t 175) (.t 170), none, [0, 1, 4, 5, 6, 7, 8, 9, 10, 11, 12]⟩,
    ⟨(some 176), .iaddr 2 (.t 165) (.t 166), none, [0, 1, 2, 3, 4, 5, 6, 7, 8, 9, 10, 11, 12, 13]⟩,
    ⟨none, .store 2 (.t 176) (.t 174), none, [0, 1, 2, 3, 4, 5, 6, 7, 8, 9, 10, 11, 12, 13, 14]⟩] true)
  (.seq (.region 22 [
    ⟨(some 177), .mov (.t 13), none, []⟩,
    ⟨(some 10), .mov (.t 177), none, []⟩,
    ⟨(some 11), .mov (.c (.d (.bool false))), none, []⟩] false)
  (.mask ⟨[10, 11], []⟩ (.ret)))))))))))))))))⟩
/-- cmp.isNaN[int] -/
def code_cmp_isNaN_int : AFunc := ⟨6, [.tmp 2],
  .seq (.region 0 [
    ⟨(some 2), .mov (.c (.d (.bool false))), none, []⟩] false)
  (.seq (.region 1 [
    ⟨(some 3), .mov (.t 0), none, []⟩,
    ⟨(some 4), .mov (.t 0), none, []⟩,
    ⟨(some 5), .bin .neq (.t 3) (.t 4), none, []⟩,
    ⟨(some 2), .mov (.t 5), none, []⟩] false)
  (.mask ⟨[2], []⟩ (.ret)))⟩
/-- cmp.isNaN[string] -/
def code_cmp_isNaN_string : AFunc := ⟨6, [.tmp 2],
  .seq (.region 0 [
    ⟨(some 2), .mov (.c (.d (.bool false))), none, []⟩] false)
  (.seq (.region 1 [
    ⟨(some 3), .mov (.t 0), none, []⟩,
    ⟨(some 4), .mov (.t 0), none, []⟩,
    ⟨(some 5), .bin .neq (.t 3) (.t 4), none, []⟩,
    ⟨(some 2), .mov (.t 5), none, []⟩] false)
  (.mask ⟨[2], []⟩ (.ret)))⟩
def mask_slices_siftDownCmpFunc_reads_Read_0 : Mask := ⟨[0, 2, 3, 4, 10], []⟩
def body_slices_siftDownCmpFunc_reads_Read_0 : ACode :=
  .block 1 (.seq (.region 1 [
    ⟨(some 13), .mov (.t 10), none, []⟩,
    ⟨(some 14), .bin .mul (.c (.d (.int .i64 (2)))) (.t 13), none, []⟩,
    ⟨(some 15), .bin .add (.t 14) (.c (.d (.int .i64 (1)))), none, []⟩,
    ⟨(some 11), .mov (.t 15), none, []⟩] false)
  (.seq (.seq (.region 2 [
    ⟨(some 16), .mov (.t 11), none, []⟩,
    ⟨(some 17), .mov (.t 2), none, []⟩,
    ⟨(some 18), .bin .geq (.t 16) (.t 17), none, []⟩] false)
  (.cond (.t 18)
    (.mask ⟨[], []⟩ (.exit 0))
    (.skip)))
  (.mask ⟨[0, 2, 3, 4, 10, 11], []⟩ (.seq (.seq (.region 3 [
    ⟨(some 19), .mov (.t 11), none, []⟩,
    ⟨(some 20), .bin .add (.t 19) (.c (.d (.int .i64 (1)))), none, [0]⟩,
    ⟨(some 21), .mov (.t 2), none, []⟩,
    ⟨(some 22), .bin .lss (.t 20) (.t 21), none, [0, 1, 2]⟩,
    ⟨(some 23), .mov (.t 22), none, [0, 1, 2, 3]⟩,
    ⟨(some 24), .mov (.t 4), (some (23, true)), [0, 1, 2, 3, 4]⟩,
    ⟨(some 25), .mov (.t 0), (some (23, true)), [0, 1, 2, 3, 4]⟩,
    ⟨(some 26), .mov (.t 3), (some (23, true)), [0, 1, 2, 3, 4]⟩,
    ⟨(some 27), .mov (.t 11), (some (23, true)), [0, 1, 2, 3, 4]⟩,
    ⟨(some 28), .bin .add (.t 26) (.t 27), (some (23, true)), [0, 1, 2, 3, 4, 7, 8]⟩,
    ⟨(some 29), .iaddr 2 (.t 25) (.t 28), (some (23, true)), [0, 1, 2, 3, 4, 6, 7, 8, 9]⟩,
    ⟨(some 30), .load 2 true (.t 29), (some (23, true)), [0, 1, 2, 3, 4, 6, 7, 8, 9, 10]⟩,
    ⟨(some 31), .mov (.t 0), (some (23, true)), [0, 1, 2, 3, 4]⟩,
    ⟨(some 32), .mov (.t 3), (some (23, true)), [0, 1, 2, 3, 4]⟩,
    ⟨(some 33), .mov (.t 11), (some (23, true)), [0, 1, 2, 3, 4]⟩,
    ⟨(some 34), .bin .add (.t 32) (.t 33), (some (23, true)), [0, 1, 2, 3, 4, 13, 14]⟩,
    ⟨(some 35), .bin .add (.t 34) (.c (.d (.int .i64 (1)))), (some (23, true)), [0, 1, 2, 3, 4, 13, 14, 15]⟩,
    ⟨(some 36), .iaddr 2 (.t 31) (.t 35), (some (23, true)), [0, 1, 2, 3, 4, 12, 13, 14, 15, 16]⟩,
    ⟨(some 37), .load 2 true (.t 36), (some (23, true)), [0, 1, 2, 3, 4, 12, 13, 14, 15, 16, 17]⟩,
    ⟨(some 38), .call (.t 24) [(.t 30), (.t 37)], (some (23, true)), [0, 1, 2, 3, 4, 5, 6, 7, 8, 9, 10, 11, 12, 13, 14, 15, 16, 17, 18]⟩,
    ⟨(some 39), .bin .lss (.t 38) (.c (.d (.int .i64 (0)))), (some (23, true)), [0, 1, 2, 3, 4, 5, 6, 7, 8, 9, 10, 11, 12, 13, 14, 15, 16, 17, 18, 19]⟩,
    ⟨(some 40), .pick (.t 23) (.t 39) (.c (.d (.bool false))), none, [0, 1, 2, 3, 4, 5, 6, 7, 8, 9, 10, 11, 12, 13, 14, 15, 16, 17, 18, 19, 20]⟩] true)
  (.mask ⟨[0, 2, 3, 4, 10, 11, 40], []⟩ (.cond (.t 40)
    (.region 4 [
      ⟨(some 41), .mov (.t 11), none, []⟩,
      ⟨(some 42), .bin .add (.t 41) (.c (.d (.int .i64 (1)))), none, []⟩,
      ⟨(some 11), .mov (.t 42), none, []⟩] false)
    (.skip))))
  (.mask ⟨[0, 2, 3, 4, 10, 11], []⟩ (.seq (.seq (.region 5 [
    ⟨(some 43), .mov (.t 4), none, []⟩,
    ⟨(some 44), .mov (.t 0), none, []⟩,
    ⟨(some 45), .mov (.t 3), none, []⟩,
    ⟨(some 46), .mov (.t 10), none, []⟩,
    ⟨(some 47), .bin .add (.t 45) (.t 46), none, [2, 3]⟩,
    ⟨(some 48), .iaddr 2 (.t 44) (.t 47), none, [1, 2, 3, 4]⟩,
    ⟨(some 49), .load 2 true (.t 48), none, [1, 2, 3, 4, 5]⟩,
    ⟨(some 50), .mov (.t 0), none, []⟩,
    ⟨(some 51), .mov (.t 3), none, []⟩,
    ⟨(some 52), .mov (.t 11), none, []⟩,
    ⟨(some 53), .bin .add (.t 51) (.t 52), none, [8, 9]⟩,
    ⟨(some 54), .iaddr 2 (.t 50) (.t 53), none, [7, 8, 9, 10]⟩,
    ⟨(some 55), .load 2 true (.t 54), none, [7, 8, 9, 10, 11]⟩,
    ⟨(some 56), .call (.t 43) [(.t 49), (.t 55)], none, [0, 1, 2, 3, 4, 5, 6, 7, 8, 9, 10, 11, 12]⟩,
    ⟨(some 57), .bin .lss (.t 56) (.c (.d (.int .i64 (0)))), none, [0, 1, 2, 3, 4, 5, 6, 7, 8, 9, 10, 11, 12, 13]⟩,
    ⟨(some 58), .un .not (.t 57), none, [0, 1, 2, 3, 4, 5, 6, 7, 8, 9, 10, 11, 12, 13, 14]⟩] true)
  (.cond (.t 58)
    (.mask ⟨[], []⟩ (.ret))
    (.skip)))
  (.mask ⟨[0, 2, 3, 4, 10, 11], []⟩ (.seq (.region 6 [
    ⟨(some 59), .mov (.t 0), none, []⟩,
    ⟨(some 60), .mov (.t 3), none, []⟩,
    ⟨(some 61), .mov (.t 10), none, []⟩,
    ⟨(some 62), .bin .add (.t 60) (.t 61), none, [1, 2]⟩,
    ⟨(some 63), .mov (.t 0), none, []⟩,
    ⟨(some 64), .mov (.t 3), none, []⟩,
    ⟨(some 65), .mov (.t 11), none, []⟩,
    ⟨(some 66), .bin .add (.t 64) (.t 65), none, [5, 6]⟩,
    ⟨(some 67), .mov (.t 0), none, []⟩,
    ⟨(some 68), .mov (.t 3), none, []⟩,
    ⟨(some 69), .mov (.t 11), none, []⟩,
    ⟨(some 70), .bin .add (.t 68) (.t 69), none, [9, 10]⟩,
    ⟨(some 71), .iaddr 2 (.t 67) (.t 70), none, [8, 9, 10, 11]⟩,
    ⟨(some 72), .load 2 true (.t 71), none, [8, 9, 10, 11, 12]⟩,
    ⟨(some 73), .mov (.t 0), none, []⟩,
    ⟨(some 74), .mov (.t 3), none, []⟩,
    ⟨(some 75), .mov (.t 10), none, []⟩,
    ⟨(some 76), .bin .add (.t 74) (.t 75), none, [15, 16]⟩,
    ⟨(some 77), .iaddr 2 (.t 73) (.t 76), none, [14, 15, 16, 17]⟩,
    ⟨(some 78), .load 2 true (.t 77), none, [14, 15, 16, 17, 18]⟩,
    ⟨(some 79), .iaddr 2 (.t 59) (.t 62), none, [0, 1, 2, 3, 8, 9, 10, 11, 12, 13, 14, 15, 16, 17, 18, 19]⟩,
    ⟨none, .store 2 (.t 79) (.t 72), none, [0, 1, 2, 3, 8, 9, 10, 11, 12, 13, 14, 15, 16, 17, 18, 19, 20]⟩,
    ⟨(some 80), .iaddr 2 (.t 63) (.t 66), none, [0, 1, 2, 3, 4, 5, 6, 7, 8, 9, 10, 11, 12, 13, 14, 15, 16, 17, 18, 19, 20, 21]⟩,
    ⟨none, .store 2 (.t 80) (.t 78), none, [0, 1, 2, 3, 4, 5, 6, 7, 8, 9, 10, 11, 12, 13, 14, 15, 16, 17, 18, 19, 20, 21, 22]⟩] true)
  (.region 7 [
    ⟨(some 81), .mov (.t 11), none, []⟩,
    ⟨(some 10), .mov (.t 81), none, []⟩] false)))))))))
/-- slices.siftDownCmpFunc[beadle/reads.Read] -/
def code_slices_siftDownCmpFunc_reads_Read : AFunc := ⟨82, [],
  .seq (.region 0 [
    ⟨(some 12), .mov (.t 1), none, []⟩,
    ⟨(some 10), .mov (.t 12), none, []⟩] false)
  (.block 0 (.loop mask_slices_siftDownCmpFunc_reads_Read_0 body_slices_siftDownCmpFunc_reads_Read_0))⟩
/-- slices.nextPowerOfTwo -/
def code_slices_nextPowerOfTwo : AFunc := ⟨7, [.tmp 2],
  .seq (.region 0 [
    ⟨(some 2), .mov (.c (.d (.int .u64 (0)))), none, []⟩] false)
  (.seq (.region 1 [
    ⟨(some 3), .mov (.t 0), none, []⟩,
    ⟨(some 4), .toInt .u64 (.t 3), none, []⟩,
    ⟨(some 5), .call (.c (.fn F_math_bits_Len [])) [(.t 4)], none, []⟩,
    ⟨(some 6), .bin .shl (.c (.d (.int .u64 (1)))) (.t 5), none, []⟩,
    ⟨(some 2), .mov (.t 6), none, []⟩] false)
  (.mask ⟨[2], []⟩ (.ret)))⟩
/-- (*slices.xorshift).Next -/
def code_slices_xorshift_Next : AFunc := ⟨33, [.tmp 2],
  .seq (.region 0 [
    ⟨(some 2), .mov (.c (.d (.int .u64 (0)))), none, []⟩] false)
  (.seq (.region 1 [
    ⟨(some 3), .mov (.t 0), none, []⟩,
    ⟨(some 4), .nilchk (.t 3), none, [0]⟩,
    ⟨(some 5), .load 1 false (.t 4), none, [0, 1]⟩,
    ⟨(some 6), .mov (.t 0), none, []⟩,
    ⟨(some 7), .nilchk (.t 6), none, [3]⟩,
    ⟨(some 8), .load 1 false (.t 7), none, [3, 4]⟩,
    ⟨(some 9), .bin .shl (.t 8) (.c (.d (.int .u64 (13)))), none, [3, 4, 5]⟩,
    ⟨(some 10), .bin .xor (.t 5) (.t 9), none, [0, 1, 2, 3, 4, 5, 6]⟩,
    ⟨(some 11), .nilchk (.t 3), none, [0, 1, 2, 3, 4, 5, 6, 7]⟩,
    ⟨none, .store 1 (.t 11) (.t 10), none, [0, 1, 2, 3, 4, 5, 6, 7, 8]⟩] true)
  (.seq (.region 2 [
    ⟨(some 12), .mov (.t 0), none, []⟩,
    ⟨(some 13), .nilchk (.t 12), none, [0]⟩,
    ⟨(some 14), .load 1 false (.t 13), none, [0, 1]⟩,
    ⟨(some 15), .mov (.t 0), none, []⟩,
    ⟨(some 16), .nilchk (.t 15), none, [3]⟩,
    ⟨(some 17), .load 1 false (.t 16), none, [3, 4]⟩,
    ⟨(some 18), .bin .shr (.t 17) (.c (.d (.int .u64 (7)))), none, [3, 4, 5]⟩,
    ⟨(some 19), .bin .xor (.t 14) (.t 18), none, [0, 1, 2, 3, 4, 5, 6]⟩,
    ⟨(some 20), .nilchk (.t 12), none, [0, 1, 2, 3, 4, 5, 6, 7]⟩,
    ⟨none, .store 1 (.t 20) (.t 19), none, [0, 1, 2, 3, 4, 5, 6, 7, 8]⟩] true)
  (.seq (.region 3 [
    ⟨(some 21), .mov (.t 0), none, []⟩,
    ⟨(some 22), .nilchk (.t 21), none, [0]⟩,
    ⟨(some 23), .load 1 false (.t 22), none, [0, 1]⟩,
    ⟨(some 24), .mov (.t 0), none, []⟩,
    ⟨(some 25), .nilchk (.t 24), none, [3]⟩,
    ⟨(some 26), .load 1 false (.t 25), none, [3, 4]⟩,
    ⟨(some 27), .bin .shl (.t 26) (.c (.d (.int .u64 (17)))), none, [3, 4, 5]⟩,
    ⟨(some 28), .bin .xor (.t 23) (.t 27), none, [0, 1, 2, 3, 4, 5, 6]⟩,
    ⟨(some 29), .nilchk (.t 21), none, [0, 1, 2, 3, 4, 5, 6, 7]⟩,
    ⟨none, .store 1 (.t 29) (.t 28), none, [0, 1, 2, 3, 4, 5, 6, 7, 8]⟩] true)
  (.seq (.region 4 [
    ⟨(some 30), .mov (.t 0), none, []⟩,
    ⟨(some 31), .nilchk (.t 30), none, []⟩,
    ⟨(some 32), .load 1 false (.t 31), none, []⟩,
    ⟨(some 2), .mov (.t 32), none, []⟩] false)
  (.mask ⟨[2], []⟩ (.ret))))))⟩
/-- slices.medianAdjacentCmpFunc[beadle/reads.Read] -/
def code_slices_medianAdjacentCmpFunc_reads_Read : AFunc := ⟨18, [.tmp 8],
  .seq (.region 0 [
    ⟨(some 8), .mov (.c (.d (.int .i64 (0)))), none, []⟩] false)
  (.seq (.region 1 [
    ⟨(some 9), .mov (.t 0), none, []⟩,
    ⟨(some 10), .mov (.t 1), none, []⟩,
    ⟨(some 11), .bin .sub (.t 10) (.c (.d (.int .i64 (1)))), none, []⟩,
    ⟨(some 12), .mov (.t 1), none, []⟩,
    ⟨(some 13), .mov (.t 1), none, []⟩,
    ⟨(some 14), .bin .add (.t 13) (.c (.d (.int .i64 (1)))), none, []⟩,
    ⟨(some 15), .mov (.t 2), none, []⟩,
    ⟨(some 16), .mov (.t 3), none, []⟩,
    ⟨(some 17), .call (.c (.fn F_slices_medianCmpFunc_reads_Read [])) [(.t 9), (.t 11), (.t 12), (.t 14), (.t 15), (.t 16)], none, []⟩,
    ⟨(some 8), .mov (.t 17), none, []⟩] false)
  (.mask ⟨[8], []⟩ (.ret)))⟩
/-- slices.medianCmpFunc[beadle/reads.Read] -/
def code_slices_medianCmpFunc_reads_Read : AFunc := ⟨41, [.tmp 12],
  .seq (.region 0 [
    ⟨(some 12), .mov (.c (.d (.int .i64 (0)))), none, []⟩] false)
  (.seq (.region 1 [
    ⟨(some 14), .mov (.t 0), none, []⟩,
    ⟨(some 15), .mov (.t 1), none, []⟩,
    ⟨(some 16), .mov (.t 2), none, []⟩,
    ⟨(some 17), .mov (.t 4), none, []⟩,
    ⟨(some 18), .mov (.t 5), none, []⟩,
    ⟨(some 19), .call (.c (.fn F_slices_order2CmpFunc_reads_Read [])) [(.t 14), (.t 15), (.t 16), (.t 17), (.t 18)], none, []⟩,
    ⟨(some 13), .mov (.t 19), none, []⟩,
    ⟨(some 20), .extract (.t 13) 0, none, []⟩,
    ⟨(some 21), .extract (.t 13) 1, none, []⟩,
    ⟨(some 1), .mov (.t 20), none, []⟩,
    ⟨(some 2), .mov (.t 21), none, []⟩] false)
  (.seq (.region 2 [
    ⟨(some 23), .mov (.t 0), none, []⟩,
    ⟨(some 24), .mov (.t 2), none, []⟩,
    ⟨(some 25), .mov (.t 3), none, []⟩,
    ⟨(some 26), .mov (.t 4), none, []⟩,
    ⟨(some 27), .mov (.t 5), none, []⟩,
    ⟨(some 28), .call (.c (.fn F_slices_order2CmpFunc_reads_Read [])) [(.t 23), (.t 24), (.t 25), (.t 26), (.t 27)], none, []⟩,
    ⟨(some 22), .mov (.t 28), none, []⟩,
    ⟨(some 29), .extract (.t 22) 0, none, []⟩,
    ⟨(some 30), .extract (.t 22) 1, none, []⟩,
    ⟨(some 2), .mov (.t 29), none, []⟩,
    ⟨(some 3), .mov (.t 30), none, []⟩] false)
  (.seq (.region 3 [
    ⟨(some 32), .mov (.t 0), none, []⟩,
    ⟨(some 33), .mov (.t 1), none, []⟩,
    ⟨(some 34), .mov (.t 2), none, []⟩,
    ⟨(some 35), .mov (.t 4), none, []⟩,
    ⟨(some 36), .mov (.t 5), none, []⟩,
    ⟨(some 37), .call (.c (.fn F_slices_order2CmpFunc_reads_Read [])) [(.t 32), (.t 33), (.t 34), (.t 35), (.t 36)], none, []⟩,
    ⟨(some 31), .mov (.t 37), none, []⟩,
    ⟨(some 38), .extract (.t 31) 0, none, []⟩,
    ⟨(some 39), .extract (.t 31) 1, none, []⟩,
    ⟨(some 1), .mov (.t 38), none, []⟩,
    ⟨(some 2), .mov (.t 39), none, []⟩] false)
  (.seq (.region 4 [
    ⟨(some 40), .mov (.t 2), none, []⟩,
    ⟨(some 12), .mov (.t 40), none, []⟩] false)
  (.mask ⟨[12], []⟩ (.ret))))))⟩
/-- slices.order2CmpFunc[beadle/reads.Read] -/
def code_slices_order2CmpFunc_reads_Read : AFunc := ⟨32, [.tmp 10, .tmp 11],
  .seq (.region 0 [
    ⟨(some 10), .mov (.c (.d (.int .i64 (0)))), none, []⟩,
    ⟨(some 11), .mov (.c (.d (.int .i64 (0)))), none, []⟩] false)
  (.seq (.seq (.region 1 [
    ⟨(some 12), .mov (.t 4), none, []⟩,
    ⟨(some 13), .mov (.t 0), none, []⟩,
    ⟨(some 14), .mov (.t 2), none, []⟩,
    ⟨(some 15), .iaddr 2 (.t 13) (.t 14), none, [1, 2]⟩,
    ⟨(some 16), .load 2 true (.t 15), none, [1, 2, 3]⟩,
    ⟨(some 17), .mov (.t 0), none, []⟩,
    ⟨(some 18), .mov (.t 1), none, []⟩,
    ⟨(some 19), .iaddr 2 (.t 17) (.t 18), none, [5, 6]⟩,
    ⟨(some 20), .load 2 true (.t 19), none, [5, 6, 7]⟩,
    ⟨(some 21), .call (.t 12) [(.t 16), (.t 20)], none, [0, 1, 2, 3, 4, 5, 6, 7, 8]⟩,
    ⟨(some 22), .bin .lss (.t 21) (.c (.d (.int .i64 (0)))), none, [0, 1, 2, 3, 4, 5, 6, 7, 8, 9]⟩] true)
  (.cond (.t 22)
    (.seq (.region 2 [
      ⟨(some 23), .mov (.t 3), none, []⟩,
      ⟨(some 24), .nilchk (.t 23), none, []⟩,
      ⟨(some 25), .load 1 false (.t 24), none, []⟩,
      ⟨(some 26), .bin .add (.t 25) (.c (.d (.int .i64 (1)))), none, []⟩,
      ⟨(some 27), .nilchk (.t 23), none, []⟩,
      ⟨none, .store 1 (.t 27) (.t 26), none, []⟩] false)
    (.seq (.region 3 [
      ⟨(some 28), .mov (.t 2), none, []⟩,
      ⟨(some 29), .mov (.t 1), none, []⟩,
      ⟨(some 10), .mov (.t 28), none, []⟩,
      ⟨(some 11), .mov (.t 29), none, []⟩] false)
    (.mask ⟨[10, 11], []⟩ (.ret))))
    (.skip)))
  (.mask ⟨[1, 2], []⟩ (.seq (.region 4 [
    ⟨(some 30), .mov (.t 1), none, []⟩,
    ⟨(some 31), .mov (.t 2), none, []⟩,
    ⟨(some 10), .mov (.t 30), none, []⟩,
    ⟨(some 11), .mov (.t 31), none, []⟩] false)
  (.mask ⟨[10, 11], []⟩ (.ret)))))⟩
def codeL : List (Nat × AFunc) := [(F_law12_ReadsJoins, code_law12_ReadsJoins),
  (F_law12_ReadsTells, code_law12_ReadsTells),
  (F_law12_ReadsRight, code_law12_ReadsRight),
  (F_law12_alive, code_law12_alive),
  (F_reads_Union, code_reads_Union),
  (F_law12_like, code_law12_like),
  (F_reads_Of, code_reads_Of),
  (F_law12_all, code_law12_all),
  (F_reads_Writes, code_reads_Writes),
  (F_reads_Right, code_reads_Right),
  (F_slices_Concat_reads_Read_reads_Read, code_slices_Concat_reads_Read_reads_Read),
  (F_slices_SortFunc_reads_Read_reads_Read, code_slices_SortFunc_reads_Read_reads_Read),
  (F_reads_compare, code_reads_compare),
  (F_slices_Compact_reads_Read_reads_Read, code_slices_Compact_reads_Read_reads_Read),
  (F_law12_has, code_law12_has),
  (F_reads_all, code_reads_all),
  (F_ref07_All, code_ref07_All),
  (F_slices_Concat_api_Update_api_Update, code_slices_Concat_api_Update_api_Update),
  (F_slices_Grow_reads_Read_reads_Read, code_slices_Grow_reads_Read_reads_Read),
  (F_math_bits_Len, code_math_bits_Len),
  (F_slices_pdqsortCmpFunc_reads_Read, code_slices_pdqsortCmpFunc_reads_Read),
  (F_cmp_Compare_int, code_cmp_Compare_int),
  (F_cmp_Compare_string, code_cmp_Compare_string),
  (F_cmp_Or_int, code_cmp_Or_int),
  (F_slices_Grow_api_Update_api_Update, code_slices_Grow_api_Update_api_Update),
  (F_math_bits_Len32, code_math_bits_Len32),
  (F_math_bits_Len64, code_math_bits_Len64),
  (F_slices_insertionSortCmpFunc_reads_Read, code_slices_insertionSortCmpFunc_reads_Read),
  (F_slices_heapSortCmpFunc_reads_Read, code_slices_heapSortCmpFunc_reads_Read),
  (F_slices_breakPatternsCmpFunc_reads_Read, code_slices_breakPatternsCmpFunc_reads_Read),
  (F_slices_choosePivotCmpFunc_reads_Read, code_slices_choosePivotCmpFunc_reads_Read),
  (F_slices_reverseRangeCmpFunc_reads_Read, code_slices_reverseRangeCmpFunc_reads_Read),
  (F_slices_partialInsertionSortCmpFunc_reads_Read, code_slices_partialInsertionSortCmpFunc_reads_Read),
  (F_slices_partitionEqualCmpFunc_reads_Read, code_slices_partitionEqualCmpFunc_reads_Read),
  (F_slices_partitionCmpFunc_reads_Read, code_slices_partitionCmpFunc_reads_Read),
  (F_cmp_isNaN_int, code_cmp_isNaN_int),
  (F_cmp_isNaN_string, code_cmp_isNaN_string),
  (F_slices_siftDownCmpFunc_reads_Read, code_slices_siftDownCmpFunc_reads_Read),
  (F_slices_nextPowerOfTwo, code_slices_nextPowerOfTwo),
  (F_slices_xorshift_Next, code_slices_xorshift_Next),
  (F_slices_medianAdjacentCmpFunc_reads_Read, code_slices_medianAdjacentCmpFunc_reads_Read),
  (F_slices_medianCmpFunc_reads_Read, code_slices_medianCmpFunc_reads_Read),
  (F_slices_order2CmpFunc_reads_Read, code_slices_order2CmpFunc_reads_Read)]
def code : Nat → Option AFunc := tableAt codeL
theorem at_law12_ReadsJoins : code F_law12_ReadsJoins = some code_law12_ReadsJoins := by kernel_rfl
theorem at_law12_ReadsTells : code F_law12_ReadsTells = some code_law12_ReadsTells := by kernel_rfl
theorem at_law12_ReadsRight : code F_law12_ReadsRight = some code_law12_ReadsRight := by kernel_rfl
theorem at_law12_alive : code F_law12_alive = some code_law12_alive := by kernel_rfl
theorem at_reads_Union : code F_reads_Union = some code_reads_Union := by kernel_rfl
theorem at_law12_like : code F_law12_like = some code_law12_like := by kernel_rfl
theorem at_reads_Of : code F_reads_Of = some code_reads_Of := by kernel_rfl
theorem at_law12_all : code F_law12_all = some code_law12_all := by kernel_rfl
theorem at_reads_Writes : code F_reads_Writes = some code_reads_Writes := by kernel_rfl
theorem at_reads_Right : code F_reads_Right = some code_reads_Right := by kernel_rfl
theorem at_slices_Concat_reads_Read_reads_Read : code F_slices_Concat_reads_Read_reads_Read = some code_slices_Concat_reads_Read_reads_Read := by kernel_rfl
theorem at_slices_SortFunc_reads_Read_reads_Read : code F_slices_SortFunc_reads_Read_reads_Read = some code_slices_SortFunc_reads_Read_reads_Read := by kernel_rfl
theorem at_reads_compare : code F_reads_compare = some code_reads_compare := by kernel_rfl
theorem at_slices_Compact_reads_Read_reads_Read : code F_slices_Compact_reads_Read_reads_Read = some code_slices_Compact_reads_Read_reads_Read := by kernel_rfl
theorem at_law12_has : code F_law12_has = some code_law12_has := by kernel_rfl
theorem at_reads_all : code F_reads_all = some code_reads_all := by kernel_rfl
theorem at_ref07_All : code F_ref07_All = some code_ref07_All := by kernel_rfl
theorem at_slices_Concat_api_Update_api_Update : code F_slices_Concat_api_Update_api_Update = some code_slices_Concat_api_Update_api_Update := by kernel_rfl
theorem at_slices_Grow_reads_Read_reads_Read : code F_slices_Grow_reads_Read_reads_Read = some code_slices_Grow_reads_Read_reads_Read := by kernel_rfl
theorem at_math_bits_Len : code F_math_bits_Len = some code_math_bits_Len := by kernel_rfl
theorem at_slices_pdqsortCmpFunc_reads_Read : code F_slices_pdqsortCmpFunc_reads_Read = some code_slices_pdqsortCmpFunc_reads_Read := by kernel_rfl
theorem at_cmp_Compare_int : code F_cmp_Compare_int = some code_cmp_Compare_int := by kernel_rfl
theorem at_cmp_Compare_string : code F_cmp_Compare_string = some code_cmp_Compare_string := by kernel_rfl
theorem at_cmp_Or_int : code F_cmp_Or_int = some code_cmp_Or_int := by kernel_rfl
theorem at_slices_Grow_api_Update_api_Update : code F_slices_Grow_api_Update_api_Update = some code_slices_Grow_api_Update_api_Update := by kernel_rfl
theorem at_math_bits_Len32 : code F_math_bits_Len32 = some code_math_bits_Len32 := by kernel_rfl
theorem at_math_bits_Len64 : code F_math_bits_Len64 = some code_math_bits_Len64 := by kernel_rfl
theorem at_slices_insertionSortCmpFunc_reads_Read : code F_slices_insertionSortCmpFunc_reads_Read = some code_slices_insertionSortCmpFunc_reads_Read := by kernel_rfl
theorem at_slices_heapSortCmpFunc_reads_Read : code F_slices_heapSortCmpFunc_reads_Read = some code_slices_heapSortCmpFunc_reads_Read := by kernel_rfl
theorem at_slices_breakPatternsCmpFunc_reads_Read : code F_slices_breakPatternsCmpFunc_reads_Read = some code_slices_breakPatternsCmpFunc_reads_Read := by kernel_rfl
theorem at_slices_choosePivotCmpFunc_reads_Read : code F_slices_choosePivotCmpFunc_reads_Read = some code_slices_choosePivotCmpFunc_reads_Read := by kernel_rfl
theorem at_slices_reverseRangeCmpFunc_reads_Read : code F_slices_reverseRangeCmpFunc_reads_Read = some code_slices_reverseRangeCmpFunc_reads_Read := by kernel_rfl
theorem at_slices_partialInsertionSortCmpFunc_reads_Read : code F_slices_partialInsertionSortCmpFunc_reads_Read = some code_slices_partialInsertionSortCmpFunc_reads_Read := by kernel_rfl
theorem at_slices_partitionEqualCmpFunc_reads_Read : code F_slices_partitionEqualCmpFunc_reads_Read = some code_slices_partitionEqualCmpFunc_reads_Read := by kernel_rfl
theorem at_slices_partitionCmpFunc_reads_Read : code F_slices_partitionCmpFunc_reads_Read = some code_slices_partitionCmpFunc_reads_Read := by kernel_rfl
theorem at_cmp_isNaN_int : code F_cmp_isNaN_int = some code_cmp_isNaN_int := by kernel_rfl
theorem at_cmp_isNaN_string : code F_cmp_isNaN_string = some code_cmp_isNaN_string := by kernel_rfl
theorem at_slices_siftDownCmpFunc_reads_Read : code F_slices_siftDownCmpFunc_reads_Read = some code_slices_siftDownCmpFunc_reads_Read := by kernel_rfl
theorem at_slices_nextPowerOfTwo : code F_slices_nextPowerOfTwo = some code_slices_nextPowerOfTwo := by kernel_rfl
theorem at_slices_xorshift_Next : code F_slices_xorshift_Next = some code_slices_xorshift_Next := by kernel_rfl
theorem at_slices_medianAdjacentCmpFunc_reads_Read : code F_slices_medianAdjacentCmpFunc_reads_Read = some code_slices_medianAdjacentCmpFunc_reads_Read := by kernel_rfl
theorem at_slices_medianCmpFunc_reads_Read : code F_slices_medianCmpFunc_reads_Read = some code_slices_medianCmpFunc_reads_Read := by kernel_rfl
theorem at_slices_order2CmpFunc_reads_Read : code F_slices_order2CmpFunc_reads_Read = some code_slices_order2CmpFunc_reads_Read := by kernel_rfl
end Bz.S
