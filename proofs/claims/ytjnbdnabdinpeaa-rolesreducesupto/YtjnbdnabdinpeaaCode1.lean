/- The code of functions, further. -/
import Derived.Test.YtjnbdnabdinpeaaCode0
set_option linter.unusedSimpArgs false
set_option linter.unusedVariables false
set_option maxRecDepth 100000
namespace Bz.S
open Go Bz
def mask_slices_partitionCmpFunc_roles_Pair_0 : Mask := ⟨[0, 1, 4, 12, 13], []⟩
def body_slices_partitionCmpFunc_roles_Pair_0 : ACode :=
  .seq (.seq (.region 3 [
    ⟨(some 32), .mov (.t 12), none, []⟩,
    ⟨(some 33), .mov (.t 13), none, []⟩,
    ⟨(some 34), .bin .leq (.t 32) (.t 33), none, [0, 1]⟩,
    ⟨(some 35), .mov (.t 34), none, [0, 1, 2]⟩,
    ⟨(some 36), .mov (.t 4), (some (35, true)), [0, 1, 2, 3]⟩,
    ⟨(some 37), .mov (.t 0), (some (35, true)), [0, 1, 2, 3]⟩,
    ⟨(some 38), .mov (.t 12), (some (35, true)), [0, 1, 2, 3]⟩,
    ⟨(some 39), .iaddr 2 (.t 37) (.t 38), (some (35, true)), [0, 1, 2, 3, 5, 6]⟩,
    ⟨(some 40), .load 2 true (.t 39), (some (35, true)), [0, 1, 2, 3, 5, 6, 7]⟩,
    ⟨(some 41), .mov (.t 0), (some (35, true)), [0, 1, 2, 3]⟩,
    ⟨(some 42), .mov (.t 1), (some (35, true)), [0, 1, 2, 3]⟩,
    ⟨(some 43), .iaddr 2 (.t 41) (.t 42), (some (35, true)), [0, 1, 2, 3, 9, 10]⟩,
    ⟨(some 44), .load 2 true (.t 43), (some (35, true)), [0, 1, 2, 3, 9, 10, 11]⟩,
    ⟨(some 45), .call (.t 36) [(.t 40), (.t 44)], (some (35, true)), [0, 1, 2, 3, 4, 5, 6, 7, 8, 9, 10, 11, 12]⟩,
    ⟨(some 46), .bin .lss (.t 45) (.c (.d (.int .i64 (0)))), (some (35, true)), [0, 1, 2, 3, 4, 5, 6, 7, 8, 9, 10, 11, 12, 13]⟩,
    ⟨(some 47), .pick (.t 35) (.t 46) (.c (.d (.bool false))), none, [0, 1, 2, 3, 4, 5, 6, 7, 8, 9, 10, 11, 12, 13, 14]⟩] true)
  (.mask ⟨[0, 1, 4, 12, 13, 47], []⟩ (.cond (.t 47)
    (.skip)
    (.mask ⟨[0, 1, 4, 12, 13], []⟩ (.exit 0)))))
  (.mask ⟨[0, 1, 4, 12, 13], []⟩ (.block 1 (.region 4 [
    ⟨(some 48), .mov (.t 12), none, []⟩,
    ⟨(some 49), .bin .add (.t 48) (.c (.d (.int .i64 (1)))), none, []⟩,
    ⟨(some 12), .mov (.t 49), none, []⟩] false)))
def mask_slices_partitionCmpFunc_roles_Pair_1 : Mask := ⟨[0, 1, 4, 12, 13], []⟩
def body_slices_partitionCmpFunc_roles_Pair_1 : ACode :=
  .seq (.seq (.region 5 [
    ⟨(some 50), .mov (.t 12), none, []⟩,
    ⟨(some 51), .mov (.t 13), none, []⟩,
    ⟨(some 52), .bin .leq (.t 50) (.t 51), none, [0, 1]⟩,
    ⟨(some 53), .mov (.t 52), none, [0, 1, 2]⟩,
    ⟨(some 54), .mov (.t 4), (some (53, true)), [0, 1, 2, 3]⟩,
    ⟨(some 55), .mov (.t 0), (some (53, true)), [0, 1, 2, 3]⟩,
    ⟨(some 56), .mov (.t 13), (some (53, true)), [0, 1, 2, 3]⟩,
    ⟨(some 57), .iaddr 2 (.t 55) (.t 56), (some (53, true)), [0, 1, 2, 3, 5, 6]⟩,
    ⟨(some 58), .load 2 true (.t 57), (some (53, true)), [0, 1, 2, 3, 5, 6, 7]⟩,
    ⟨(some 59), .mov (.t 0), (some (53, true)), [0, 1, 2, 3]⟩,
    ⟨(some 60), .mov (.t 1), (some (53, true)), [0, 1, 2, 3]⟩,
    ⟨(some 61), .iaddr 2 (.t 59) (.t 60), (some (53, true)), [0, 1, 2, 3, 9, 10]⟩,
    ⟨(some 62), .load 2 true (.t 61), (some (53, true)), [0, 1, 2, 3, 9, 10, 11]⟩,
    ⟨(some 63), .call (.t 54) [(.t 58), (.t 62)], (some (53, true)), [0, 1, 2, 3, 4, 5, 6, 7, 8, 9, 10, 11, 12]⟩,
    ⟨(some 64), .bin .lss (.t 63) (.c (.d (.int .i64 (0)))), (some (53, true)), [0, 1, 2, 3, 4, 5, 6, 7, 8, 9, 10, 11, 12, 13]⟩,
    ⟨(some 65), .un .not (.t 64), (some (53, true)), [0, 1, 2, 3, 4, 5, 6, 7, 8, 9, 10, 11, 12, 13, 14]⟩,
    ⟨(some 66), .pick (.t 53) (.t 65) (.c (.d (.bool false))), none, [0, 1, 2, 3, 4, 5, 6, 7, 8, 9, 10, 11, 12, 13, 14, 15]⟩] true)
  (.mask ⟨[0, 1, 4, 12, 13, 66], []⟩ (.cond (.t 66)
    (.skip)
    (.mask ⟨[0, 1, 4, 12, 13], []⟩ (.exit 2)))))
  (.mask ⟨[0, 1, 4, 12, 13], []⟩ (.block 3 (.region 6 [
    ⟨(some 67), .mov (.t 13), none, []⟩,
    ⟨(some 68), .bin .sub (.t 67) (.c (.d (.int .i64 (1)))), none, []⟩,
    ⟨(some 13), .mov (.t 68), none, []⟩] false)))
def mask_slices_partitionCmpFunc_roles_Pair_2 : Mask := ⟨[0, 1, 4, 12, 13], []⟩
def body_slices_partitionCmpFunc_roles_Pair_2 : ACode :=
  .seq (.seq (.region 13 [
    ⟨(some 105), .mov (.t 12), none, []⟩,
    ⟨(some 106), .mov (.t 13), none, []⟩,
    ⟨(some 107), .bin .leq (.t 105) (.t 106), none, [0, 1]⟩,
    ⟨(some 108), .mov (.t 107), none, [0, 1, 2]⟩,
    ⟨(some 109), .mov (.t 4), (some (108, true)), [0, 1, 2, 3]⟩,
    ⟨(some 110), .mov (.t 0), (some (108, true)), [0, 1, 2, 3]⟩,
    ⟨(some 111), .mov (.t 12), (some (108, true)), [0, 1, 2, 3]⟩,
    ⟨(some 112), .iaddr 2 (.t 110) (.t 111), (some (108, true)), [0, 1, 2, 3, 5, 6]⟩,
    ⟨(some 113), .load 2 true (.t 112), (some (108, true)), [0, 1, 2, 3, 5, 6, 7]⟩,
    ⟨(some 114), .mov (.t 0), (some (108, true)), [0, 1, 2, 3]⟩,
    ⟨(some 115), .mov (.t 1), (some (108, true)), [0, 1, 2, 3]⟩,
    ⟨(some 116), .iaddr 2 (.t 114) (.t 115), (some (108, true)), [0, 1, 2, 3, 9, 10]⟩,
    ⟨(some 117), .load 2 true (.t 116), (some (108, true)), [0, 1, 2, 3, 9, 10, 11]⟩,
    ⟨(some 118), .call (.t 109) [(.t 113), (.t 117)], (some (108, true)), [0, 1, 2, 3, 4, 5, 6, 7, 8, 9, 10, 11, 12]⟩,
    ⟨(some 119), .bin .lss (.t 118) (.c (.d (.int .i64 (0)))), (some (108, true)), [0, 1, 2, 3, 4, 5, 6, 7, 8, 9, 10, 11, 12, 13]⟩,
    ⟨(some 120), .pick (.t 108) (.t 119) (.c (.d (.bool false))), none, [0, 1, 2, 3, 4, 5, 6, 7, 8, 9, 10, 11, 12, 13, 14]⟩] true)
  (.mask ⟨[0, 1, 4, 12, 13, 120], []⟩ (.cond (.t 120)
    (.skip)
    (.mask ⟨[0, 1, 4, 12, 13], []⟩ (.exit 6)))))
  (.mask ⟨[0, 1, 4, 12, 13], []⟩ (.block 7 (.region 14 [
    ⟨(some 121), .mov (.t 12), none, []⟩,
    ⟨(some 122), .bin .add (.t 121) (.c (.d (.int .i64 (1)))), none, []⟩,
    ⟨(some 12), .mov (.t 122), none, []⟩] false)))
def mask_slices_partitionCmpFunc_roles_Pair_3 : Mask := ⟨[0, 1, 4, 12, 13], []⟩
def body_slices_partitionCmpFunc_roles_Pair_3 : ACode :=
  .seq (.seq (.region 15 [
    ⟨(some 123), .mov (.t 12), none, []⟩,
    ⟨(some 124), .mov (.t 13), none, []⟩,
    ⟨(some 125), .bin .leq (.t 123) (.t 124), none, [0, 1]⟩,
    ⟨(some 126), .mov (.t 125), none, [0, 1, 2]⟩,
    ⟨(some 127), .mov (.t 4), (some (126, true)), [0, 1, 2, 3]⟩,
    ⟨(some 128), .mov (.t 0), (some (126, true)), [0, 1, 2, 3]⟩,
    ⟨(some 129), .mov (.t 13), (some (126, true)), [0, 1, 2, 3]⟩,
    ⟨(some 130), .iaddr 2 (.t 128) (.t 129), (some (126, true)), [0, 1, 2, 3, 5, 6]⟩,
    ⟨(some 131), .load 2 true (.t 130), (some (126, true)), [0, 1, 2, 3, 5, 6, 7]⟩,
    ⟨(some 132), .mov (.t 0), (some (126, true)), [0, 1, 2, 3]⟩,
    ⟨(some 133), .mov (.t 1), (some (126, true)), [0, 1, 2, 3]⟩,
    ⟨(some 134), .iaddr 2 (.t 132) (.t 133), (some (126, true)), [0, 1, 2, 3, 9, 10]⟩,
    ⟨(some 135), .load 2 true (.t 134), (some (126, true)), [0, 1, 2, 3, 9, 10, 11]⟩,
    ⟨(some 136), .call (.t 127) [(.t 131), (.t 135)], (some (126, true)), [0, 1, 2, 3, 4, 5, 6, 7, 8, 9, 10, 11, 12]⟩,
    ⟨(some 137), .bin .lss (.t 136) (.c (.d (.int .i64 (0)))), (some (126, true)), [0, 1, 2, 3, 4, 5, 6, 7, 8, 9, 10, 11, 12, 13]⟩,
    ⟨(some 138), .un .not (.t 137), (some (126, true)), [0, 1, 2, 3, 4, 5, 6, 7, 8, 9, 10, 11, 12, 13, 14]⟩,
    ⟨(some 139), .pick (.t 126) (.t 138) (.c (.d (.bool false))), none, [0, 1, 2, 3, 4, 5, 6, 7, 8, 9, 10, 11, 12, 13, 14, 15]⟩] true)
  (.mask ⟨[0, 1, 4, 12, 13, 139], []⟩ (.cond (.t 139)
    (.skip)
    (.mask ⟨[0, 1, 4, 12, 13], []⟩ (.exit 8)))))
  (.mask ⟨[0, 1, 4, 12, 13], []⟩ (.block 9 (.region 16 [
    ⟨(some 140), .mov (.t 13), none, []⟩,
    ⟨(some 141), .bin .sub (.t 140) (.c (.d (.int .i64 (1)))), none, []⟩,
    ⟨(some 13), .mov (.t 141), none, []⟩] false)))
def mask_slices_partitionCmpFunc_roles_Pair_4 : Mask := ⟨[0, 1, 4, 12, 13], []⟩
def body_slices_partitionCmpFunc_roles_Pair_4 : ACode :=
  .block 5 (.seq (.block 6 (.loop mask_slices_partitionCmpFunc_roles_Pair_2 body_slices_partitionCmpFunc_roles_Pair_2))
  (.mask ⟨[0, 1, 4, 12, 13], []⟩ (.seq (.block 8 (.loop mask_slices_partitionCmpFunc_roles_Pair_3 body_slices_partitionCmpFunc_roles_Pair_3))
  (.mask ⟨[0, 1, 4, 12, 13], []⟩ (.seq (.seq (.region 17 [
    ⟨(some 142), .mov (.t 12), none, []⟩,
    ⟨(some 143), .mov (.t 13), none, []⟩,
    ⟨(some 144), .bin .gtr (.t 142) (.t 143), none, []⟩] false)
  (.cond (.t 144)
    (.mask ⟨[0, 1, 13], []⟩ (.exit 4))
    (.skip)))
  (.mask ⟨[0, 1, 4, 12, 13], []⟩ (.seq (.region 18 [
    ⟨(some 145), .mov (.t 0), none, []⟩,
    ⟨(some 146), .mov (.t 12), none, []⟩,
    ⟨(some 147), .mov (.t 0), none, []⟩,
    ⟨(some 148), .mov (.t 13), none, []⟩,
    ⟨(some 149), .mov (.t 0), none, []⟩,
    ⟨(some 150), .mov (.t 13), none, []⟩,
    ⟨(some 151), .iaddr 2 (.t 149) (.t 150), none, [4, 5]⟩,
    ⟨(some 152), .load 2 true (.t 151), none, [4, 5, 6]⟩,
    ⟨(some 153), .mov (.t 0), none, []⟩,
    ⟨(some 154), .mov (.t 12), none, []⟩,
    ⟨(some 155), .iaddr 2 (.t 153) (.t 154), none, [8, 9]⟩,
    ⟨(some 156), .load 2 true (.t 155), none, [8, 9, 10]⟩,
    ⟨(some 157), .iaddr 2 (.t 145) (.t 146), none, [0, 1, 4, 5, 6, 7, 8, 9, 10, 11]⟩,
    ⟨none, .store 2 (.t 157) (.t 152), none, [0, 1, 4, 5, 6, 7, 8, 9, 10, 11, 12]⟩,
    ⟨(some 158), .iaddr 2 (.t 147) (.t 148), none, [0, 1, 2, 3, 4, 5, 6, 7, 8, 9, 10, 11, 12, 13]⟩,
    ⟨none, .store 2 (.t 158) (.t 156), none, [0, 1, 2, 3, 4, 5, 6, 7, 8, 9, 10, 11, 12, 13, 14]⟩] true)
  (.seq (.region 19 [
    ⟨(some 159), .mov (.t 12), none, []⟩,
    ⟨(some 160), .bin .add (.t 159) (.c (.d (.int .i64 (1)))), none, []⟩,
    ⟨(some 12), .mov (.t 160), none, []⟩] false)
  (.region 20 [
    ⟨(some 161), .mov (.t 13), none, []⟩,
    ⟨(some 162), .bin .sub (.t 161) (.c (.d (.int .i64 (1)))), none, []⟩,
    ⟨(some 13), .mov (.t 162), none, []⟩] false)))))))))
/-- slices.partitionCmpFunc[beadle/roles.Pair] -/
def code_slices_partitionCmpFunc_roles_Pair : AFunc := ⟨178, [.tmp 10, .tmp 11],
  .seq (.region 0 [
    ⟨(some 10), .mov (.c (.d (.int .i64 (0)))), none, []⟩,
    ⟨(some 11), .mov (.c (.d (.bool false))), none, []⟩] false)
  (.seq (.region 1 [
    ⟨(some 14), .mov (.t 0), none, []⟩,
    ⟨(some 15), .mov (.t 1), none, []⟩,
    ⟨(some 16), .mov (.t 0), none, []⟩,
    ⟨(some 17), .mov (.t 3), none, []⟩,
    ⟨(some 18), .mov (.t 0), none, []⟩,
    ⟨(some 19), .mov (.t 3), none, []⟩,
    ⟨(some 20), .iaddr 2 (.t 18) (.t 19), none, [4, 5]⟩,
    ⟨(some 21), .load 2 true (.t 20), none, [4, 5, 6]⟩,
    ⟨(some 22), .mov (.t 0), none, []⟩,
    ⟨(some 23), .mov (.t 1), none, []⟩,
    ⟨(some 24), .iaddr 2 (.t 22) (.t 23), none, [8, 9]⟩,
    ⟨(some 25), .load 2 true (.t 24), none, [8, 9, 10]⟩,
    ⟨(some 26), .iaddr 2 (.t 14) (.t 15), none, [0, 1, 4, 5, 6, 7, 8, 9, 10, 11]⟩,
    ⟨none, .store 2 (.t 26) (.t 21), none, [0, 1, 4, 5, 6, 7, 8, 9, 10, 11, 12]⟩,
    ⟨(some 27), .iaddr 2 (.t 16) (.t 17), none, [0, 1, 2, 3, 4, 5, 6, 7, 8, 9, 10, 11, 12, 13]⟩,
    ⟨none, .store 2 (.t 27) (.t 25), none, [0, 1, 2, 3, 4, 5, 6, 7, 8, 9, 10, 11, 12, 13, 14]⟩] true)
  (.seq (.region 2 [
    ⟨(some 28), .mov (.t 1), none, []⟩,
    ⟨(some 29), .bin .add (.t 28) (.c (.d (.int .i64 (1)))), none, []⟩,
    ⟨(some 30), .mov (.t 2), none, []⟩,
    ⟨(some 31), .bin .sub (.t 30) (.c (.d (.int .i64 (1)))), none, []⟩,
    ⟨(some 12), .mov (.t 29), none, []⟩,
    ⟨(some 13), .mov (.t 31), none, []⟩] false)
  (.seq (.block 0 (.loop mask_slices_partitionCmpFunc_roles_Pair_0 body_slices_partitionCmpFunc_roles_Pair_0))
  (.mask ⟨[0, 1, 4, 12, 13], []⟩ (.seq (.block 2 (.loop mask_slices_partitionCmpFunc_roles_Pair_1 body_slices_partitionCmpFunc_roles_Pair_1))
  (.mask ⟨[0, 1, 4, 12, 13], []⟩ (.seq (.seq (.region 7 [
    ⟨(some 69), .mov (.t 12), none, []⟩,
    ⟨(some 70), .mov (.t 13), none, []⟩,
    ⟨(some 71), .bin .gtr (.t 69) (.t 70), none, []⟩] false)
  (.cond (.t 71)
    (.seq (.region 8 [
      ⟨(some 72), .mov (.t 0), none, []⟩,
      ⟨(some 73), .mov (.t 13), none, []⟩,
      ⟨(some 74), .mov (.t 0), none, []⟩,
      ⟨(some 75), .mov (.t 1), none, []⟩,
      ⟨(some 76), .mov (.t 0), none, []⟩,
      ⟨(some 77), .mov (.t 1), none, []⟩,
      ⟨(some 78), .iaddr 2 (.t 76) (.t 77), none, [4, 5]⟩,
      ⟨(some 79), .load 2 true (.t 78), none, [4, 5, 6]⟩,
      ⟨(some 80), .mov (.t 0), none, []⟩,
      ⟨(some 81), .mov (.t 13), none, []⟩,
      ⟨(some 82), .iaddr 2 (.t 80) (.t 81), none, [8, 9]⟩,
      ⟨(some 83), .load 2 true (.t 82), none, [8, 9, 10]⟩,
      ⟨(some 84), .iaddr 2 (.t 72) (.t 73), none, [0, 1, 4, 5, 6, 7, 8, 9, 10, 11]⟩,
      ⟨none, .store 2 (.t 84) (.t 79), none, [0, 1, 4, 5, 6, 7, 8, 9, 10, 11, 12]⟩,
      ⟨(some 85), .iaddr 2 (.t 74) (.t 75), none, [0, 1, 2, 3, 4, 5, 6, 7, 8, 9, 10, 11, 12, 13]⟩,
      ⟨none, .store 2 (.t 85) (.t 83), none, [0, 1, 2, 3, 4, 5, 6, 7, 8, 9, 10, 11, 12, 13, 14]⟩] true)
    (.seq (.region 9 [
      ⟨(some 86), .mov (.t 13), none, []⟩,
      ⟨(some 10), .mov (.t 86), none, []⟩,
      ⟨(some 11), .mov (.c (.d (.bool true))), none, []⟩] false)
    (.mask ⟨[10, 11], []⟩ (.ret))))
    (.skip)))
  (.mask ⟨[0, 1, 4, 12, 13], []⟩ (.seq (.region 10 [
    ⟨(some 87), .mov (.t 0), none, []⟩,
    ⟨(some 88), .mov (.t 12), none, []⟩,
    ⟨(some 89), .mov (.t 0), none, []⟩,
    ⟨(some 90), .mov (.t 13), none, []⟩,
    ⟨(some 91), .mov (.t 0), none, []⟩,
    ⟨(some 92), .mov (.t 13), none, []⟩,
    ⟨(some 93), .iaddr 2 (.t 91) (.t 92), none, [4, 5]⟩,
    ⟨(some 94), .load 2 true (.t 93), none, [4, 5, 6]⟩,
    ⟨(some 95), .mov (.t 0), none, []⟩,
    ⟨(some 96), .mov (.t 12), none, []⟩,
    ⟨(some 97), .iaddr 2 (.t 95) (.t 96), none, [8, 9]⟩,
    ⟨(some 98), .load 2 true (.t 97), none, [8, 9, 10]⟩,
    ⟨(some 99), .iaddr 2 (.t 87) (.t 88), none, [0, 1, 4, 5, 6, 7, 8, 9, 10, 11]⟩,
    ⟨none, .store 2 (.t 99) (.t 94), none, [0, 1, 4, 5, 6, 7, 8, 9, 10, 11, 12]⟩,
    ⟨(some 100), .iaddr 2 (.t 89) (.t 90), none, [0, 1, 2, 3, 4, 5, 6, 7, 8, 9, 10, 11, 12, 13]⟩,
    ⟨none, .store 2 (.t 100) (.t 98), none, [0, 1, 2, 3, 4, 5, 6, 7, 8, 9, 10, 11, 12, 13, 14]⟩] true)
  (.seq (.region 11 [
    ⟨(some 101), .mov (.t 12), none, []⟩,
    ⟨(some 102), .bin .add (.t 101) (.c (.d (.int .i64 (1)))), none, []⟩,
    ⟨(some 12), .mov (.t 102), none, []⟩] false)
  (.seq (.region 12 [
    ⟨(some 103), .mov (.t 13), none, []⟩,
    ⟨(some 104), .bin .sub (.t 103) (.c (.d (.int .i64 (1)))), none, []⟩,
    ⟨(some 13), .mov (.t 104), none, []⟩] false)
  (.seq (.block 4 (.loop mask_slices_partitionCmpFunc_roles_Pair_4 body_slices_partitionCmpFunc_roles_Pair_4))
  (.mask ⟨[0, 1, 13], []⟩ (.seq (.region 21 [
    ⟨(some 163), .mov (.t 0), none, []⟩,
    ⟨(some 164), .mov (.t 13), none, []⟩,
    ⟨(some 165), .mov (.t 0), none, []⟩,
    ⟨(some 166), .mov (.t 1), none, []⟩,
    ⟨(some 167), .mov (.t 0), none, []⟩,
    ⟨(some 168), .mov (.t 1), none, []⟩,
    ⟨(some 169), .iaddr 2 (.t 167) (.t 168), none, [4, 5]⟩,
    ⟨(some 170), .load 2 true (.t 169), none, [4, 5, 6]⟩,
    ⟨(some 171), .mov (.t 0), none, []⟩,
    ⟨(some 172), .mov (.t 13), none, []⟩,
    ⟨(some 173), .iaddr 2 (.t 171) (.t 172), none, [8, 9]⟩,
    ⟨(some 174), .load 2 true (.t 173), none, [8, 9, 10]⟩,
    ⟨(some 175), .iaddr 2 (.t 163) (.t 164), none, [0, 1, 4, 5, 6, 7, 8, 9, 10, 11]⟩,
    ⟨none, .store 2 (.t 175) (.t 170), none, [0, 1, 4, 5, 6, 7, 8, 9, 10, 11, 12]⟩,
    ⟨(some 176), .iaddr 2 (.t 165) (.t 166), none, [0, 1, 2, 3, 4, 5, 6, 7, 8, 9, 10, 11, 12, 13]⟩,
    ⟨none, .store 2 (.t 176) (.t 174), none, [0, 1, 2, 3, 4, 5, 6, 7, 8, 9, 10, 11, 12, 13, 14]⟩] true)
  (.seq (.region 22 [
    ⟨(some 177), .mov (.t 13), none, []⟩,
    ⟨(some 10), .mov (.t 177), none, []⟩,
    ⟨(some 11), .mov (.c (.d (.bool false))), none, []⟩] false)
  (.mask ⟨[10, 11], []⟩ (.ret)))))))))))))))))⟩
/-- cmp.isNaN[string] -/
def code_cmp_isNaN_string : AFunc := ⟨6, [.tmp 2],
  .seq (.region 0 [
    ⟨(some 2), .mov (.c (.d (.bool false))), none, []⟩] false)
  (.seq (.region 1 [
    ⟨(some 3), .mov (.t 0), none, []⟩,
    ⟨(some 4), .mov (.t 0), none, []⟩,
    ⟨(some 5), .bin .neq (.t 3) (.t 4), none, []⟩,
    ⟨(some 2), .mov (.t 5), none, []⟩] false)
  (.mask ⟨[2], []⟩ (.ret)))⟩
def mask_slices_siftDownOrdered_string_0 : Mask := ⟨[0, 2, 3, 8], []⟩
def body_slices_siftDownOrdered_string_0 : ACode :=
  .block 1 (.seq (.region 1 [
    ⟨(some 11), .mov (.t 8), none, []⟩,
    ⟨(some 12), .bin .mul (.c (.d (.int .i64 (2)))) (.t 11), none, []⟩,
    ⟨(some 13), .bin .add (.t 12) (.c (.d (.int .i64 (1)))), none, []⟩,
    ⟨(some 9), .mov (.t 13), none, []⟩] false)
  (.seq (.seq (.region 2 [
    ⟨(some 14), .mov (.t 9), none, []⟩,
    ⟨(some 15), .mov (.t 2), none, []⟩,
    ⟨(some 16), .bin .geq (.t 14) (.t 15), none, []⟩] false)
  (.cond (.t 16)
    (.mask ⟨[], []⟩ (.exit 0))
    (.skip)))
  (.mask ⟨[0, 2, 3, 8, 9], []⟩ (.seq (.seq (.region 3 [
    ⟨(some 17), .mov (.t 9), none, []⟩,
    ⟨(some 18), .bin .add (.t 17) (.c (.d (.int .i64 (1)))), none, [0]⟩,
    ⟨(some 19), .mov (.t 2), none, []⟩,
    ⟨(some 20), .bin .lss (.t 18) (.t 19), none, [0, 1, 2]⟩,
    ⟨(some 21), .mov (.t 20), none, [0, 1, 2, 3]⟩,
    ⟨(some 22), .mov (.t 0), (some (21, true)), [0, 1, 2, 3, 4]⟩,
    ⟨(some 23), .mov (.t 3), (some (21, true)), [0, 1, 2, 3, 4]⟩,
    ⟨(some 24), .mov (.t 9), (some (21, true)), [0, 1, 2, 3, 4]⟩,
    ⟨(some 25), .bin .add (.t 23) (.t 24), (some (21, true)), [0, 1, 2, 3, 4, 6, 7]⟩,
    ⟨(some 26), .iaddr 1 (.t 22) (.t 25), (some (21, true)), [0, 1, 2, 3, 4, 5, 6, 7, 8]⟩,
    ⟨(some 27), .load 1 false (.t 26), (some (21, true)), [0, 1, 2, 3, 4, 5, 6, 7, 8, 9]⟩,
    ⟨(some 28), .mov (.t 0), (some (21, true)), [0, 1, 2, 3, 4]⟩,
    ⟨(some 29), .mov (.t 3), (some (21, true)), [0, 1, 2, 3, 4]⟩,
    ⟨(some 30), .mov (.t 9), (some (21, true)), [0, 1, 2, 3, 4]⟩,
    ⟨(some 31), .bin .add (.t 29) (.t 30), (some (21, true)), [0, 1, 2, 3, 4, 12, 13]⟩,
    ⟨(some 32), .bin .add (.t 31) (.c (.d (.int .i64 (1)))), (some (21, true)), [0, 1, 2, 3, 4, 12, 13, 14]⟩,
    ⟨(some 33), .iaddr 1 (.t 28) (.t 32), (some (21, true)), [0, 1, 2, 3, 4, 11, 12, 13, 14, 15]⟩,
    ⟨(some 34), .load 1 false (.t 33), (some (21, true)), [0, 1, 2, 3, 4, 11, 12, 13, 14, 15, 16]⟩,
    ⟨(some 35), .call (.c (.fn F_cmp_Less_string [])) [(.t 27), (.t 34)], (some (21, true)), [0, 1, 2, 3, 4, 5, 6, 7, 8, 9, 10, 11, 12, 13, 14, 15, 16, 17]⟩,
    ⟨(some 36), .pick (.t 21) (.t 35) (.c (.d (.bool false))), none, [0, 1, 2, 3, 4, 5, 6, 7, 8, 9, 10, 11, 12, 13, 14, 15, 16, 17, 18]⟩] true)
  (.mask ⟨[0, 2, 3, 8, 9, 36], []⟩ (.cond (.t 36)
    (.region 4 [
      ⟨(some 37), .mov (.t 9), none, []⟩,
      ⟨(some 38), .bin .add (.t 37) (.c (.d (.int .i64 (1)))), none, []⟩,
      ⟨(some 9), .mov (.t 38), none, []⟩] false)
    (.skip))))
  (.mask ⟨[0, 2, 3, 8, 9], []⟩ (.seq (.seq (.region 5 [
    ⟨(some 39), .mov (.t 0), none, []⟩,
    ⟨(some 40), .mov (.t 3), none, []⟩,
    ⟨(some 41), .mov (.t 8), none, []⟩,
    ⟨(some 42), .bin .add (.t 40) (.t 41), none, [1, 2]⟩,
    ⟨(some 43), .iaddr 1 (.t 39) (.t 42), none, [0, 1, 2, 3]⟩,
    ⟨(some 44), .load 1 false (.t 43), none, [0, 1, 2, 3, 4]⟩,
    ⟨(some 45), .mov (.t 0), none, []⟩,
    ⟨(some 46), .mov (.t 3), none, []⟩,
    ⟨(some 47), .mov (.t 9), none, []⟩,
    ⟨(some 48), .bin .add (.t 46) (.t 47), none, [7, 8]⟩,
    ⟨(some 49), .iaddr 1 (.t 45) (.t 48), none, [6, 7, 8, 9]⟩,
    ⟨(some 50), .load 1 false (.t 49), none, [6, 7, 8, 9, 10]⟩,
    ⟨(some 51), .call (.c (.fn F_cmp_Less_string [])) [(.t 44), (.t 50)], none, [0, 1, 2, 3, 4, 5, 6, 7, 8, 9, 10, 11]⟩,
    ⟨(some 52), .un .not (.t 51), none, [0, 1, 2, 3, 4, 5, 6, 7, 8, 9, 10, 11, 12]⟩] true)
  (.cond (.t 52)
    (.mask ⟨[], []⟩ (.ret))
    (.skip)))
  (.mask ⟨[0, 2, 3, 8, 9], []⟩ (.seq (.region 6 [
    ⟨(some 53), .mov (.t 0), none, []⟩,
    ⟨(some 54), .mov (.t 3), none, []⟩,
    ⟨(some 55), .mov (.t 8), none, []⟩,
    ⟨(some 56), .bin .add (.t 54) (.t 55), none, [1, 2]⟩,
    ⟨(some 57), .mov (.t 0), none, []⟩,
    ⟨(some 58), .mov (.t 3), none, []⟩,
    ⟨(some 59), .mov (.t 9), none, []⟩,
    ⟨(some 60), .bin .add (.t 58) (.t 59), none, [5, 6]⟩,
    ⟨(some 61), .mov (.t 0), none, []⟩,
    ⟨(some 62), .mov (.t 3), none, []⟩,
    ⟨(some 63), .mov (.t 9), none, []⟩,
    ⟨(some 64), .bin .add (.t 62) (.t 63), none, [9, 10]⟩,
    ⟨(some 65), .iaddr 1 (.t 61) (.t 64), none, [8, 9, 10, 11]⟩,
    ⟨(some 66), .load 1 false (.t 65), none, [8, 9, 10, 11, 12]⟩,
    ⟨(some 67), .mov (.t 0), none, []⟩,
    ⟨(some 68), .mov (.t 3), none, []⟩,
    ⟨(some 69), .mov (.t 8), none, []⟩,
    ⟨(some 70), .bin .add (.t 68) (.t 69), none, [15, 16]⟩,
    ⟨(some 71), .iaddr 1 (.t 67) (.t 70), none, [14, 15, 16, 17]⟩,
    ⟨(some 72), .load 1 false (.t 71), none, [14, 15, 16, 17, 18]⟩,
    ⟨(some 73), .iaddr 1 (.t 53) (.t 56), none, [0, 1, 2, 3, 8, 9, 10, 11, 12, 13, 14, 15, 16, 17, 18, 19]⟩,
    ⟨none, .store 1 (.t 73) (.t 66), none, [0, 1, 2, 3, 8, 9, 10, 11, 12, 13, 14, 15, 16, 17, 18, 19, 20]⟩,
    ⟨(some 74), .iaddr 1 (.t 57) (.t 60), none, [0, 1, 2, 3, 4, 5, 6, 7, 8, 9, 10, 11, 12, 13, 14, 15, 16, 17, 18, 19, 20, 21]⟩,
    ⟨none, .store 1 (.t 74) (.t 72), none, [0, 1, 2, 3, 4, 5, 6, 7, 8, 9, 10, 11, 12, 13, 14, 15, 16, 17, 18, 19, 20, 21, 22]⟩] true)
  (.region 7 [
    ⟨(some 75), .mov (.t 9), none, []⟩,
    ⟨(some 8), .mov (.t 75), none, []⟩] false)))))))))
/-- slices.siftDownOrdered[string] -/
def code_slices_siftDownOrdered_string : AFunc := ⟨76, [],
  .seq (.region 0 [
    ⟨(some 10), .mov (.t 1), none, []⟩,
    ⟨(some 8), .mov (.t 10), none, []⟩] false)
  (.block 0 (.loop mask_slices_siftDownOrdered_string_0 body_slices_siftDownOrdered_string_0))⟩
/-- slices.nextPowerOfTwo -/
def code_slices_nextPowerOfTwo : AFunc := ⟨7, [.tmp 2],
  .seq (.region 0 [
    ⟨(some 2), .mov (.c (.d (.int .u64 (0)))), none, []⟩] false)
  (.seq (.region 1 [
    ⟨(some 3), .mov (.t 0), none, []⟩,
    ⟨(some 4), .toInt .u64 (.t 3), none, []⟩,
    ⟨(some 5), .call (.c (.fn F_math_bits_Len [])) [(.t 4)], none, []⟩,
    ⟨(some 6), .bin .shl (.c (.d (.int .u64 (1)))) (.t 5), none, []⟩,
    ⟨(some 2), .mov (.t 6), none, []⟩] false)
  (.mask ⟨[2], []⟩ (.ret)))⟩
/-- (*slices.xorshift).Next -/
def code_slices_xorshift_Next : AFunc := ⟨33, [.tmp 2],
  .seq (.region 0 [
    ⟨(some 2), .mov (.c (.d (.int .u64 (0)))), none, []⟩] false)
  (.seq (.region 1 [
    ⟨(some 3), .mov (.t 0), none, []⟩,
    ⟨(some 4), .nilchk (.t 3), none, [0]⟩,
    ⟨(some 5), .load 1 false (.t 4), none, [0, 1]⟩,
    ⟨(some 6), .mov (.t 0), none, []⟩,
    ⟨(some 7), .nilchk (.t 6), none, [3]⟩,
    ⟨(some 8), .load 1 false (.t 7), none, [3, 4]⟩,
    ⟨(some 9), .bin .shl (.t 8) (.c (.d (.int .u64 (13)))), none, [3, 4, 5]⟩,
    ⟨(some 10), .bin .xor (.t 5) (.t 9), none, [0, 1, 2, 3, 4, 5, 6]⟩,
    ⟨(some 11), .nilchk (.t 3), none, [0, 1, 2, 3, 4, 5, 6, 7]⟩,
    ⟨none, .store 1 (.t 11) (.t 10), none, [0, 1, 2, 3, 4, 5, 6, 7, 8]⟩] true)
  (.seq (.region 2 [
    ⟨(some 12), .mov (.t 0), none, []⟩,
    ⟨(some 13), .nilchk (.t 12), none, [0]⟩,
    ⟨(some 14), .load 1 false (.t 13), none, [0, 1]⟩,
    ⟨(some 15), .mov (.t 0), none, []⟩,
    ⟨(some 16), .nilchk (.t 15), none, [3]⟩,
    ⟨(some 17), .load 1 false (.t 16), none, [3, 4]⟩,
    ⟨(some 18), .bin .shr (.t 17) (.c (.d (.int .u64 (7)))), none, [3, 4, 5]⟩,
    ⟨(some 19), .bin .xor (.t 14) (.t 18), none, [0, 1, 2, 3, 4, 5, 6]⟩,
    ⟨(some 20), .nilchk (.t 12), none, [0, 1, 2, 3, 4, 5, 6, 7]⟩,
    ⟨none, .store 1 (.t 20) (.t 19), none, [0, 1, 2, 3, 4, 5, 6, 7, 8]⟩] true)
  (.seq (.region 3 [
    ⟨(some 21), .mov (.t 0), none, []⟩,
    ⟨(some 22), .nilchk (.t 21), none, [0]⟩,
    ⟨(some 23), .load 1 false (.t 22), none, [0, 1]⟩,
    ⟨(some 24), .mov (.t 0), none, []⟩,
    ⟨(some 25), .nilchk (.t 24), none, [3]⟩,
    ⟨(some 26), .load 1 false (.t 25), none, [3, 4]⟩,
    ⟨(some 27), .bin .shl (.t 26) (.c (.d (.int .u64 (17)))), none, [3, 4, 5]⟩,
    ⟨(some 28), .bin .xor (.t 23) (.t 27), none, [0, 1, 2, 3, 4, 5, 6]⟩,
    ⟨(some 29), .nilchk (.t 21), none, [0, 1, 2, 3, 4, 5, 6, 7]⟩,
    ⟨none, .store 1 (.t 29) (.t 28), none, [0, 1, 2, 3, 4, 5, 6, 7, 8]⟩] true)
  (.seq (.region 4 [
    ⟨(some 30), .mov (.t 0), none, []⟩,
    ⟨(some 31), .nilchk (.t 30), none, []⟩,
    ⟨(some 32), .load 1 false (.t 31), none, []⟩,
    ⟨(some 2), .mov (.t 32), none, []⟩] false)
  (.mask ⟨[2], []⟩ (.ret))))))⟩
/-- slices.medianAdjacentOrdered[string] -/
def code_slices_medianAdjacentOrdered_string : AFunc := ⟨15, [.tmp 6],
  .seq (.region 0 [
    ⟨(some 6), .mov (.c (.d (.int .i64 (0)))), none, []⟩] false)
  (.seq (.region 1 [
    ⟨(some 7), .mov (.t 0), none, []⟩,
    ⟨(some 8), .mov (.t 1), none, []⟩,
    ⟨(some 9), .bin .sub (.t 8) (.c (.d (.int .i64 (1)))), none, []⟩,
    ⟨(some 10), .mov (.t 1), none, []⟩,
    ⟨(some 11), .mov (.t 1), none, []⟩,
    ⟨(some 12), .bin .add (.t 11) (.c (.d (.int .i64 (1)))), none, []⟩,
    ⟨(some 13), .mov (.t 2), none, []⟩,
    ⟨(some 14), .call (.c (.fn F_slices_medianOrdered_string [])) [(.t 7), (.t 9), (.t 10), (.t 12), (.t 13)], none, []⟩,
    ⟨(some 6), .mov (.t 14), none, []⟩] false)
  (.mask ⟨[6], []⟩ (.ret)))⟩
/-- slices.medianOrdered[string] -/
def code_slices_medianOrdered_string : AFunc := ⟨36, [.tmp 10],
  .seq (.region 0 [
    ⟨(some 10), .mov (.c (.d (.int .i64 (0)))), none, []⟩] false)
  (.seq (.region 1 [
    ⟨(some 12), .mov (.t 0), none, []⟩,
    ⟨(some 13), .mov (.t 1), none, []⟩,
    ⟨(some 14), .mov (.t 2), none, []⟩,
    ⟨(some 15), .mov (.t 4), none, []⟩,
    ⟨(some 16), .call (.c (.fn F_slices_order2Ordered_string [])) [(.t 12), (.t 13), (.t 14), (.t 15)], none, []⟩,
    ⟨(some 11), .mov (.t 16), none, []⟩,
    ⟨(some 17), .extract (.t 11) 0, none, []⟩,
    ⟨(some 18), .extract (.t 11) 1, none, []⟩,
    ⟨(some 1), .mov (.t 17), none, []⟩,
    ⟨(some 2), .mov (.t 18), none, []⟩] false)
  (.seq (.region 2 [
    ⟨(some 20), .mov (.t 0), none, []⟩,
    ⟨(some 21), .mov (.t 2), none, []⟩,
    ⟨(some 22), .mov (.t 3), none, []⟩,
    ⟨(some 23), .mov (.t 4), none, []⟩,
    ⟨(some 24), .call (.c (.fn F_slices_order2Ordered_string [])) [(.t 20), (.t 21), (.t 22), (.t 23)], none, []⟩,
    ⟨(some 19), .mov (.t 24), none, []⟩,
    ⟨(some 25), .extract (.t 19) 0, none, []⟩,
    ⟨(some 26), .extract (.t 19) 1, none, []⟩,
    ⟨(some 2), .mov (.t 25), none, []⟩,
    ⟨(some 3), .mov (.t 26), none, []⟩] false)
  (.seq (.region 3 [
    ⟨(some 28), .mov (.t 0), none, []⟩,
    ⟨(some 29), .mov (.t 1), none, []⟩,
    ⟨(some 30), .mov (.t 2), none, []⟩,
    ⟨(some 31), .mov (.t 4), none, []⟩,
    ⟨(some 32), .call (.c (.fn F_slices_order2Ordered_string [])) [(.t 28), (.t 29), (.t 30), (.t 31)], none, []⟩,
    ⟨(some 27), .mov (.t 32), none, []⟩,
    ⟨(some 33), .extract (.t 27) 0, none, []⟩,
    ⟨(some 34), .extract (.t 27) 1, none, []⟩,
    ⟨(some 1), .mov (.t 33), none, []⟩,
    ⟨(some 2), .mov (.t 34), none, []⟩] false)
  (.seq (.region 4 [
    ⟨(some 35), .mov (.t 2), none, []⟩,
    ⟨(some 10), .mov (.t 35), none, []⟩] false)
  (.mask ⟨[10], []⟩ (.ret))))))⟩
def mask_slices_siftDownCmpFunc_roles_Pair_0 : Mask := ⟨[0, 2, 3, 4, 10], []⟩
def body_slices_siftDownCmpFunc_roles_Pair_0 : ACode :=
  .block 1 (.seq (.region 1 [
    ⟨(some 13), .mov (.t 10), none, []⟩,
    ⟨(some 14), .bin .mul (.c (.d (.int .i64 (2)))) (.t 13), none, []⟩,
    ⟨(some 15), .bin .add (.t 14) (.c (.d (.int .i64 (1)))), none, []⟩,
    ⟨(some 11), .mov (.t 15), none, []⟩] false)
  (.seq (.seq (.region 2 [
    ⟨(some 16), .mov (.t 11), none, []⟩,
    ⟨(some 17), .mov (.t 2), none, []⟩,
    ⟨(some 18), .bin .geq (.t 16) (.t 17), none, []⟩] false)
  (.cond (.t 18)
    (.mask ⟨[], []⟩ (.exit 0))
    (.skip)))
  (.mask ⟨[0, 2, 3, 4, 10, 11], []⟩ (.seq (.seq (.region 3 [
    ⟨(some 19), .mov (.t 11), none, []⟩,
    ⟨(some 20), .bin .add (.t 19) (.c (.d (.int .i64 (1)))), none, [0]⟩,
    ⟨(some 21), .mov (.t 2), none, []⟩,
    ⟨(some 22), .bin .lss (.t 20) (.t 21), none, [0, 1, 2]⟩,
    ⟨(some 23), .mov (.t 22), none, [0, 1, 2, 3]⟩,
    ⟨(some 24), .mov (.t 4), (some (23, true)), [0, 1, 2, 3, 4]⟩,
    ⟨(some 25), .mov (.t 0), (some (23, true)), [0, 1, 2, 3, 4]⟩,
    ⟨(some 26), .mov (.t 3), (some (23, true)), [0, 1, 2, 3, 4]⟩,
    ⟨(some 27), .mov (.t 11), (some (23, true)), [0, 1, 2, 3, 4]⟩,
    ⟨(some 28), .bin .add (.t 26) (.t 27), (some (23, true)), [0, 1, 2, 3, 4, 7, 8]⟩,
    ⟨(some 29), .iaddr 2 (.t 25) (.t 28), (some (23, true)), [0, 1, 2, 3, 4, 6, 7, 8, 9]⟩,
    ⟨(some 30), .load 2 true (.t 29), (some (23, true)), [0, 1, 2, 3, 4, 6, 7, 8, 9, 10]⟩,
    ⟨(some 31), .mov (.t 0), (some (23, true)), [0, 1, 2, 3, 4]⟩,
    ⟨(some 32), .mov (.t 3), (some (23, true)), [0, 1, 2, 3, 4]⟩,
    ⟨(some 33), .mov (.t 11), (some (23, true)), [0, 1, 2, 3, 4]⟩,
    ⟨(some 34), .bin .add (.t 32) (.t 33), (some (23, true)), [0, 1, 2, 3, 4, 13, 14]⟩,
    ⟨(some 35), .bin .add (.t 34) (.c (.d (.int .i64 (1)))), (some (23, true)), [0, 1, 2, 3, 4, 13, 14, 15]⟩,
    ⟨(some 36), .iaddr 2 (.t 31) (.t 35), (some (23, true)), [0, 1, 2, 3, 4, 12, 13, 14, 15, 16]⟩,
    ⟨(some 37), .load 2 true (.t 36), (some (23, true)), [0, 1, 2, 3, 4, 12, 13, 14, 15, 16, 17]⟩,
    ⟨(some 38), .call (.t 24) [(.t 30), (.t 37)], (some (23, true)), [0, 1, 2, 3, 4, 5, 6, 7, 8, 9, 10, 11, 12, 13, 14, 15, 16, 17, 18]⟩,
    ⟨(some 39), .bin .lss (.t 38) (.c (.d (.int .i64 (0)))), (some (23, true)), [0, 1, 2, 3, 4, 5, 6, 7, 8, 9, 10, 11, 12, 13, 14, 15, 16, 17, 18, 19]⟩,
    ⟨(some 40), .pick (.t 23) (.t 39) (.c (.d (.bool false))), none, [0, 1, 2, 3, 4, 5, 6, 7, 8, 9, 10, 11, 12, 13, 14, 15, 16, 17, 18, 19, 20]⟩] true)
  (.mask ⟨[0, 2, 3, 4, 10, 11, 40], []⟩ (.cond (.t 40)
    (.region 4 [
      ⟨(some 41), .mov (.t 11), none, []⟩,
      ⟨(some 42), .bin .add (.t 41) (.c (.d (.int .i64 (1)))), none, []⟩,
      ⟨(some 11), .mov (.t 42), none, []⟩] false)
    (.skip))))
  (.mask ⟨[0, 2, 3, 4, 10, 11], []⟩ (.seq (.seq (.region 5 [
    ⟨(some 43), .mov (.t 4), none, []⟩,
    ⟨(some 44), .mov (.t 0), none, []⟩,
    ⟨(some 45), .mov (.t 3), none, []⟩,
    ⟨(some 46), .mov (.t 10), none, []⟩,
    ⟨(some 47), .bin .add (.t 45) (.t 46), none, [2, 3]⟩,
    ⟨(some 48), .iaddr 2 (.t 44) (.t 47), none, [1, 2, 3, 4]⟩,
    ⟨(some 49), .load 2 true (.t 48), none, [1, 2, 3, 4, 5]⟩,
    ⟨(some 50), .mov (.t 0), none, []⟩,
    ⟨(some 51), .mov (.t 3), none, []⟩,
    ⟨(some 52), .mov (.t 11), none, []⟩,
    ⟨(some 53), .bin .add (.t 51) (.t 52), none, [8, 9]⟩,
    ⟨(some 54), .iaddr 2 (.t 50) (.t 53), none, [7, 8, 9, 10]⟩,
    ⟨(some 55), .load 2 true (.t 54), none, [7, 8, 9, 10, 11]⟩,
    ⟨(some 56), .call (.t 43) [(.t 49), (.t 55)], none, [0, 1, 2, 3, 4, 5, 6, 7, 8, 9, 10, 11, 12]⟩,
    ⟨(some 57), .bin .lss (.t 56) (.c (.d (.int .i64 (0)))), none, [0, 1, 2, 3, 4, 5, 6, 7, 8, 9, 10, 11, 12, 13]⟩,
    ⟨(some 58), .un .not (.t 57), none, [0, 1, 2, 3, 4, 5, 6, 7, 8, 9, 10, 11, 12, 13, 14]⟩] true)
  (.cond (.t 58)
    (.mask ⟨[], []⟩ (.ret))
    (.skip)))
  (.mask ⟨[0, 2, 3, 4, 10, 11], []⟩ (.seq (.region 6 [
    ⟨(some 59), .mov (.t 0), none, []⟩,
    ⟨(some 60), .mov (.t 3), none, []⟩,
    ⟨(some 61), .mov (.t 10), none, []⟩,
    ⟨(some 62), .bin .add (.t 60) (.t 61), none, [1, 2]⟩,
    ⟨(some 63), .mov (.t 0), none, []⟩,
    ⟨(some 64), .mov (.t 3), none, []⟩,
    ⟨(some 65), .mov (.t 11), none, []⟩,
    ⟨(some 66), .bin .add (.t 64) (.t 65), none, [5, 6]⟩,
    ⟨(some 67), .mov (.t 0), none, []⟩,
    ⟨(some 68), .mov (.t 3), none, []⟩,
    ⟨(some 69), .mov (.t 11), none, []⟩,
    ⟨(some 70), .bin .add (.t 68) (.t 69), none, [9, 10]⟩,
    ⟨(some 71), .iaddr 2 (.t 67) (.t 70), none, [8, 9, 10, 11]⟩,
    ⟨(some 72), .load 2 true (.t 71), none, [8, 9, 10, 11, 12]⟩,
    ⟨(some 73), .mov (.t 0), none, []⟩,
    ⟨(some 74), .mov (.t 3), none, []⟩,
    ⟨(some 75), .mov (.t 10), none, []⟩,
    ⟨(some 76), .bin .add (.t 74) (.t 75), none, [15, 16]⟩,
    ⟨(some 77), .iaddr 2 (.t 73) (.t 76), none, [14, 15, 16, 17]⟩,
    ⟨(some 78), .load 2 true (.t 77), none, [14, 15, 16, 17, 18]⟩,
    ⟨(some 79), .iaddr 2 (.t 59) (.t 62), none, [0, 1, 2, 3, 8, 9, 10, 11, 12, 13, 14, 15, 16, 17, 18, 19]⟩,
    ⟨none, .store 2 (.t 79) (.t 72), none, [0, 1, 2, 3, 8, 9, 10, 11, 12, 13, 14, 15, 16, 17, 18, 19, 20]⟩,
    ⟨(some 80), .iaddr 2 (.t 63) (.t 66), none, [0, 1, 2, 3, 4, 5, 6, 7, 8, 9, 10, 11, 12, 13, 14, 15, 16, 17, 18, 19, 20, 21]⟩,
    ⟨none, .store 2 (.t 80) (.t 78), none, [0, 1, 2, 3, 4, 5, 6, 7, 8, 9, 10, 11, 12, 13, 14, 15, 16, 17, 18, 19, 20, 21, 22]⟩] true)
  (.region 7 [
    ⟨(some 81), .mov (.t 11), none, []⟩,
    ⟨(some 10), .mov (.t 81), none, []⟩] false)))))))))
/-- slices.siftDownCmpFunc[beadle/roles.Pair] -/
def code_slices_siftDownCmpFunc_roles_Pair : AFunc := ⟨82, [],
  .seq (.region 0 [
    ⟨(some 12), .mov (.t 1), none, []⟩,
    ⟨(some 10), .mov (.t 12), none, []⟩] false)
  (.block 0 (.loop mask_slices_siftDownCmpFunc_roles_Pair_0 body_slices_siftDownCmpFunc_roles_Pair_0))⟩
/-- slices.medianAdjacentCmpFunc[beadle/roles.Pair] -/
def code_slices_medianAdjacentCmpFunc_roles_Pair : AFunc := ⟨18, [.tmp 8],
  .seq (.region 0 [
    ⟨(some 8), .mov (.c (.d (.int .i64 (0)))), none, []⟩] false)
  (.seq (.region 1 [
    ⟨(some 9), .mov (.t 0), none, []⟩,
    ⟨(some 10), .mov (.t 1), none, []⟩,
    ⟨(some 11), .bin .sub (.t 10) (.c (.d (.int .i64 (1)))), none, []⟩,
    ⟨(some 12), .mov (.t 1), none, []⟩,
    ⟨(some 13), .mov (.t 1), none, []⟩,
    ⟨(some 14), .bin .add (.t 13) (.c (.d (.int .i64 (1)))), none, []⟩,
    ⟨(some 15), .mov (.t 2), none, []⟩,
    ⟨(some 16), .mov (.t 3), none, []⟩,
    ⟨(some 17), .call (.c (.fn F_slices_medianCmpFunc_roles_Pair [])) [(.t 9), (.t 11), (.t 12), (.t 14), (.t 15), (.t 16)], none, []⟩,
    ⟨(some 8), .mov (.t 17), none, []⟩] false)
  (.mask ⟨[8], []⟩ (.ret)))⟩
/-- slices.medianCmpFunc[beadle/roles.Pair] -/
def code_slices_medianCmpFunc_roles_Pair : AFunc := ⟨41, [.tmp 12],
  .seq (.region 0 [
    ⟨(some 12), .mov (.c (.d (.int .i64 (0)))), none, []⟩] false)
  (.seq (.region 1 [
    ⟨(some 14), .mov (.t 0), none, []⟩,
    ⟨(some 15), .mov (.t 1), none, []⟩,
    ⟨(some 16), .mov (.t 2), none, []⟩,
    ⟨(some 17), .mov (.t 4), none, []⟩,
    ⟨(some 18), .mov (.t 5), none, []⟩,
    ⟨(some 19), .call (.c (.fn F_slices_order2CmpFunc_roles_Pair [])) [(.t 14), (.t 15), (.t 16), (.t 17), (.t 18)], none, []⟩,
    ⟨(some 13), .mov (.t 19), none, []⟩,
    ⟨(some 20), .extract (.t 13) 0, none, []⟩,
    ⟨(some 21), .extract (.t 13) 1, none, []⟩,
    ⟨(some 1), .mov (.t 20), none, []⟩,
    ⟨(some 2), .mov (.t 21), none, []⟩] false)
  (.seq (.region 2 [
    ⟨(some 23), .mov (.t 0), none, []⟩,
    ⟨(some 24), .mov (.t 2), none, []⟩,
    ⟨(some 25), .mov (.t 3), none, []⟩,
    ⟨(some 26), .mov (.t 4), none, []⟩,
    ⟨(some 27), .mov (.t 5), none, []⟩,
    ⟨(some 28), .call (.c (.fn F_slices_order2CmpFunc_roles_Pair [])) [(.t 23), (.t 24), (.t 25), (.t 26), (.t 27)], none, []⟩,
    ⟨(some 22), .mov (.t 28), none, []⟩,
    ⟨(some 29), .extract (.t 22) 0, none, []⟩,
    ⟨(some 30), .extract (.t 22) 1, none, []⟩,
    ⟨(some 2), .mov (.t 29), none, []⟩,
    ⟨(some 3), .mov (.t 30), none, []⟩] false)
  (.seq (.region 3 [
    ⟨(some 32), .mov (.t 0), none, []⟩,
    ⟨(some 33), .mov (.t 1), none, []⟩,
    ⟨(some 34), .mov (.t 2), none, []⟩,
    ⟨(some 35), .mov (.t 4), none, []⟩,
    ⟨(some 36), .mov (.t 5), none, []⟩,
    ⟨(some 37), .call (.c (.fn F_slices_order2CmpFunc_roles_Pair [])) [(.t 32), (.t 33), (.t 34), (.t 35), (.t 36)], none, []⟩,
    ⟨(some 31), .mov (.t 37), none, []⟩,
    ⟨(some 38), .extract (.t 31) 0, none, []⟩,
    ⟨(some 39), .extract (.t 31) 1, none, []⟩,
    ⟨(some 1), .mov (.t 38), none, []⟩,
    ⟨(some 2), .mov (.t 39), none, []⟩] false)
  (.seq (.region 4 [
    ⟨(some 40), .mov (.t 2), none, []⟩,
    ⟨(some 12), .mov (.t 40), none, []⟩] false)
  (.mask ⟨[12], []⟩ (.ret))))))⟩
/-- slices.order2Ordered[string] -/
def code_slices_order2Ordered_string : AFunc := ⟨28, [.tmp 8, .tmp 9],
  .seq (.region 0 [
    ⟨(some 8), .mov (.c (.d (.int .i64 (0)))), none, []⟩,
    ⟨(some 9), .mov (.c (.d (.int .i64 (0)))), none, []⟩] false)
  (.seq (.seq (.region 1 [
    ⟨(some 10), .mov (.t 0), none, []⟩,
    ⟨(some 11), .mov (.t 2), none, []⟩,
    ⟨(some 12), .iaddr 1 (.t 10) (.t 11), none, [0, 1]⟩,
    ⟨(some 13), .load 1 false (.t 12), none, [0, 1, 2]⟩,
    ⟨(some 14), .mov (.t 0), none, []⟩,
    ⟨(some 15), .mov (.t 1), none, []⟩,
    ⟨(some 16), .iaddr 1 (.t 14) (.t 15), none, [4, 5]⟩,
    ⟨(some 17), .load 1 false (.t 16), none, [4, 5, 6]⟩,
    ⟨(some 18), .call (.c (.fn F_cmp_Less_string [])) [(.t 13), (.t 17)], none, [0, 1, 2, 3, 4, 5, 6, 7]⟩] true)
  (.cond (.t 18)
    (.seq (.region 2 [
      ⟨(some 19), .mov (.t 3), none, []⟩,
      ⟨(some 20), .nilchk (.t 19), none, []⟩,
      ⟨(some 21), .load 1 false (.t 20), none, []⟩,
      ⟨(some 22), .bin .add (.t 21) (.c (.d (.int .i64 (1)))), none, []⟩,
      ⟨(some 23), .nilchk (.t 19), none, []⟩,
      ⟨none, .store 1 (.t 23) (.t 22), none, []⟩] false)
    (.seq (.region 3 [
      ⟨(some 24), .mov (.t 2), none, []⟩,
      ⟨(some 25), .mov (.t 1), none, []⟩,
      ⟨(some 8), .mov (.t 24), none, []⟩,
      ⟨(some 9), .mov (.t 25), none, []⟩] false)
    (.mask ⟨[8, 9], []⟩ (.ret))))
    (.skip)))
  (.mask ⟨[1, 2], []⟩ (.seq (.region 4 [
    ⟨(some 26), .mov (.t 1), none, []⟩,
    ⟨(some 27), .mov (.t 2), none, []⟩,
    ⟨(some 8), .mov (.t 26), none, []⟩,
    ⟨(some 9), .mov (.t 27), none, []⟩] false)
  (.mask ⟨[8, 9], []⟩ (.ret)))))⟩
/-- slices.order2CmpFunc[beadle/roles.Pair] -/
def code_slices_order2CmpFunc_roles_Pair : AFunc := ⟨32, [.tmp 10, .tmp 11],
  .seq (.region 0 [
    ⟨(some 10), .mov (.c (.d (.int .i64 (0)))), none, []⟩,
    ⟨(some 11), .mov (.c (.d (.int .i64 (0)))), none, []⟩] false)
  (.seq (.seq (.region 1 [
    ⟨(some 12), .mov (.t 4), none, []⟩,
    ⟨(some 13), .mov (.t 0), none, []⟩,
    ⟨(some 14), .mov (.t 2), none, []⟩,
    ⟨(some 15), .iaddr 2 (.t 13) (.t 14), none, [1, 2]⟩,
    ⟨(some 16), .load 2 true (.t 15), none, [1, 2, 3]⟩,
    ⟨(some 17), .mov (.t 0), none, []⟩,
    ⟨(some 18), .mov (.t 1), none, []⟩,
    ⟨(some 19), .iaddr 2 (.t 17) (.t 18), none, [5, 6]⟩,
    ⟨(some 20), .load 2 true (.t 19), none, [5, 6, 7]⟩,
    ⟨(some 21), .call (.t 12) [(.t 16), (.t 20)], none, [0, 1, 2, 3, 4, 5, 6, 7, 8]⟩,
    ⟨(some 22), .bin .lss (.t 21) (.c (.d (.int .i64 (0)))), none, [0, 1, 2, 3, 4, 5, 6, 7, 8, 9]⟩] true)
  (.cond (.t 22)
    (.seq (.region 2 [
      ⟨(some 23), .mov (.t 3), none, []⟩,
      ⟨(some 24), .nilchk (.t 23), none, []⟩,
      ⟨(some 25), .load 1 false (.t 24), none, []⟩,
      ⟨(some 26), .bin .add (.t 25) (.c (.d (.int .i64 (1)))), none, []⟩,
      ⟨(some 27), .nilchk (.t 23), none, []⟩,
      ⟨none, .store 1 (.t 27) (.t 26), none, []⟩] false)
    (.seq (.region 3 [
      ⟨(some 28), .mov (.t 2), none, []⟩,
      ⟨(some 29), .mov (.t 1), none, []⟩,
      ⟨(some 10), .mov (.t 28), none, []⟩,
      ⟨(some 11), .mov (.t 29), none, []⟩] false)
    (.mask ⟨[10, 11], []⟩ (.ret))))
    (.skip)))
  (.mask ⟨[1, 2], []⟩ (.seq (.region 4 [
    ⟨(some 30), .mov (.t 1), none, []⟩,
    ⟨(some 31), .mov (.t 2), none, []⟩,
    ⟨(some 10), .mov (.t 30), none, []⟩,
    ⟨(some 11), .mov (.t 31), none, []⟩] false)
  (.mask ⟨[10, 11], []⟩ (.ret)))))⟩
def codeL : List (Nat × AFunc) := [(F_law31_RolesReaches, code_law31_RolesReaches),
  (F_law31_RolesChecks, code_law31_RolesChecks),
  (F_law31_RolesLevels, code_law31_RolesLevels),
  (F_law31_RolesReduces, code_law31_RolesReduces),
  (F_law31_alive, code_law31_alive),
  (F_law31_few, code_law31_few),
  (F_law31_reach, code_law31_reach),
  (F_roles_Reach, code_roles_Reach),
  (F_plain_Rising, code_plain_Rising),
  (F_plain_Texts, code_plain_Texts),
  (F_roles_Has, code_roles_Has),
  (F_plain_In, code_plain_In),
  (F_roles_Check, code_roles_Check),
  (F_law31_check, code_law31_check),
  (F_roles_Tops, code_roles_Tops),
  (F_law31_ring, code_law31_ring),
  (F_roles_Level, code_roles_Level),
  (F_roles_Reduce, code_roles_Reduce),
  (F_law31_without, code_law31_without),
  (F_roles_ups, code_roles_ups),
  (F_slices_Contains_string_string, code_slices_Contains_string_string),
  (F_slices_Sort_string_string, code_slices_Sort_string_string),
  (F_slices_ContainsFunc_roles_Pair_roles_Pair, code_slices_ContainsFunc_roles_Pair_roles_Pair),
  (F_roles_Check_1, code_roles_Check_1),
  (F_roles_ring, code_roles_ring),
  (F_ref06_Name, code_ref06_Name),
  (F_roles_names, code_roles_names),
  (F_roles_Tops_1, code_roles_Tops_1),
  (F_slices_DeleteFunc_string_string, code_slices_DeleteFunc_string_string),
  (F_roles_level, code_roles_level),
  (F_slices_Clone_roles_Pair_roles_Pair, code_slices_Clone_roles_Pair_roles_Pair),
  (F_roles_Reduce_1, code_roles_Reduce_1),
  (F_slices_DeleteFunc_roles_Pair_roles_Pair, code_slices_DeleteFunc_roles_Pair_roles_Pair),
  (F_slices_SortFunc_roles_Pair_roles_Pair, code_slices_SortFunc_roles_Pair_roles_Pair),
  (F_roles_Reduce_2, code_roles_Reduce_2),
  (F_slices_Compact_roles_Pair_roles_Pair, code_slices_Compact_roles_Pair_roles_Pair),
  (F_slices_Index_string_string, code_slices_Index_string_string),
  (F_math_bits_Len, code_math_bits_Len),
  (F_slices_pdqsortOrdered_string, code_slices_pdqsortOrdered_string),
  (F_slices_IndexFunc_roles_Pair_roles_Pair, code_slices_IndexFunc_roles_Pair_roles_Pair),
  (F_lex_Name, code_lex_Name),
  (F_roles_ring_1, code_roles_ring_1),
  (F_ref06_head, code_ref06_head),
  (F_ref06_tail, code_ref06_tail),
  (F_slices_Compact_string_string, code_slices_Compact_string_string),
  (F_slices_IndexFunc_string_string, code_slices_IndexFunc_string_string),
  (F_roles_long, code_roles_long),
  (F_slices_pdqsortCmpFunc_roles_Pair, code_slices_pdqsortCmpFunc_roles_Pair),
  (F_cmp_Compare_string, code_cmp_Compare_string),
  (F_cmp_Or_int, code_cmp_Or_int),
  (F_math_bits_Len32, code_math_bits_Len32),
  (F_math_bits_Len64, code_math_bits_Len64),
  (F_slices_insertionSortOrdered_string, code_slices_insertionSortOrdered_string),
  (F_slices_heapSortOrdered_string, code_slices_heapSortOrdered_string),
  (F_slices_breakPatternsOrdered_string, code_slices_breakPatternsOrdered_string),
  (F_slices_choosePivotOrdered_string, code_slices_choosePivotOrdered_string),
  (F_slices_reverseRangeOrdered_string, code_slices_reverseRangeOrdered_string),
  (F_slices_partialInsertionSortOrdered_string, code_slices_partialInsertionSortOrdered_string),
  (F_cmp_Less_string, code_cmp_Less_string),
  (F_slices_partitionEqualOrdered_string, code_slices_partitionEqualOrdered_string),
  (F_slices_partitionOrdered_string, code_slices_partitionOrdered_string),
  (F_lex_letter, code_lex_letter),
  (F_lex_digit, code_lex_digit),
  (F_roles_long_1, code_roles_long_1),
  (F_slices_ContainsFunc_string_string, code_slices_ContainsFunc_string_string),
  (F_slices_insertionSortCmpFunc_roles_Pair, code_slices_insertionSortCmpFunc_roles_Pair),
  (F_slices_heapSortCmpFunc_roles_Pair, code_slices_heapSortCmpFunc_roles_Pair),
  (F_slices_breakPatternsCmpFunc_roles_Pair, code_slices_breakPatternsCmpFunc_roles_Pair),
  (F_slices_choosePivotCmpFunc_roles_Pair, code_slices_choosePivotCmpFunc_roles_Pair),
  (F_slices_reverseRangeCmpFunc_roles_Pair, code_slices_reverseRangeCmpFunc_roles_Pair),
  (F_slices_partialInsertionSortCmpFunc_roles_Pair, code_slices_partialInsertionSortCmpFunc_roles_Pair),
  (F_slices_partitionEqualCmpFunc_roles_Pair, code_slices_partitionEqualCmpFunc_roles_Pair),
  (F_slices_partitionCmpFunc_roles_Pair, code_slices_partitionCmpFunc_roles_Pair),
  (F_cmp_isNaN_string, code_cmp_isNaN_string),
  (F_slices_siftDownOrdered_string, code_slices_siftDownOrdered_string),
  (F_slices_nextPowerOfTwo, code_slices_nextPowerOfTwo),
  (F_slices_xorshift_Next, code_slices_xorshift_Next),
  (F_slices_medianAdjacentOrdered_string, code_slices_medianAdjacentOrdered_string),
  (F_slices_medianOrdered_string, code_slices_medianOrdered_string),
  (F_slices_siftDownCmpFunc_roles_Pair, code_slices_siftDownCmpFunc_roles_Pair),
  (F_slices_medianAdjacentCmpFunc_roles_Pair, code_slices_medianAdjacentCmpFunc_roles_Pair),
  (F_slices_medianCmpFunc_roles_Pair, code_slices_medianCmpFunc_roles_Pair),
  (F_slices_order2Ordered_string, code_slices_order2Ordered_string),
  (F_slices_order2CmpFunc_roles_Pair, code_slices_order2CmpFunc_roles_Pair)]
def code : Nat → Option AFunc := tableAt codeL
theorem at_law31_RolesReaches : code F_law31_RolesReaches = some code_law31_RolesReaches := by kernel_rfl
theorem at_law31_RolesChecks : code F_law31_RolesChecks = some code_law31_RolesChecks := by kernel_rfl
theorem at_law31_RolesLevels : code F_law31_RolesLevels = some code_law31_RolesLevels := by kernel_rfl
theorem at_law31_RolesReduces : code F_law31_RolesReduces = some code_law31_RolesReduces := by kernel_rfl
theorem at_law31_alive : code F_law31_alive = some code_law31_alive := by kernel_rfl
theorem at_law31_few : code F_law31_few = some code_law31_few := by kernel_rfl
theorem at_law31_reach : code F_law31_reach = some code_law31_reach := by kernel_rfl
theorem at_roles_Reach : code F_roles_Reach = some code_roles_Reach := by kernel_rfl
theorem at_plain_Rising : code F_plain_Rising = some code_plain_Rising := by kernel_rfl
theorem at_plain_Texts : code F_plain_Texts = some code_plain_Texts := by kernel_rfl
theorem at_roles_Has : code F_roles_Has = some code_roles_Has := by kernel_rfl
theorem at_plain_In : code F_plain_In = some code_plain_In := by kernel_rfl
theorem at_roles_Check : code F_roles_Check = some code_roles_Check := by kernel_rfl
theorem at_law31_check : code F_law31_check = some code_law31_check := by kernel_rfl
theorem at_roles_Tops : code F_roles_Tops = some code_roles_Tops := by kernel_rfl
theorem at_law31_ring : code F_law31_ring = some code_law31_ring := by kernel_rfl
theorem at_roles_Level : code F_roles_Level = some code_roles_Level := by kernel_rfl
theorem at_roles_Reduce : code F_roles_Reduce = some code_roles_Reduce := by kernel_rfl
theorem at_law31_without : code F_law31_without = some code_law31_without := by kernel_rfl
theorem at_roles_ups : code F_roles_ups = some code_roles_ups := by kernel_rfl
theorem at_slices_Contains_string_string : code F_slices_Contains_string_string = some code_slices_Contains_string_string := by kernel_rfl
theorem at_slices_Sort_string_string : code F_slices_Sort_string_string = some code_slices_Sort_string_string := by kernel_rfl
theorem at_slices_ContainsFunc_roles_Pair_roles_Pair : code F_slices_ContainsFunc_roles_Pair_roles_Pair = some code_slices_ContainsFunc_roles_Pair_roles_Pair := by kernel_rfl
theorem at_roles_Check_1 : code F_roles_Check_1 = some code_roles_Check_1 := by kernel_rfl
theorem at_roles_ring : code F_roles_ring = some code_roles_ring := by kernel_rfl
theorem at_ref06_Name : code F_ref06_Name = some code_ref06_Name := by kernel_rfl
theorem at_roles_names : code F_roles_names = some code_roles_names := by kernel_rfl
theorem at_roles_Tops_1 : code F_roles_Tops_1 = some code_roles_Tops_1 := by kernel_rfl
theorem at_slices_DeleteFunc_string_string : code F_slices_DeleteFunc_string_string = some code_slices_DeleteFunc_string_string := by kernel_rfl
theorem at_roles_level : code F_roles_level = some code_roles_level := by kernel_rfl
theorem at_slices_Clone_roles_Pair_roles_Pair : code F_slices_Clone_roles_Pair_roles_Pair = some code_slices_Clone_roles_Pair_roles_Pair := by kernel_rfl
theorem at_roles_Reduce_1 : code F_roles_Reduce_1 = some code_roles_Reduce_1 := by kernel_rfl
theorem at_slices_DeleteFunc_roles_Pair_roles_Pair : code F_slices_DeleteFunc_roles_Pair_roles_Pair = some code_slices_DeleteFunc_roles_Pair_roles_Pair := by kernel_rfl
theorem at_slices_SortFunc_roles_Pair_roles_Pair : code F_slices_SortFunc_roles_Pair_roles_Pair = some code_slices_SortFunc_roles_Pair_roles_Pair := by kernel_rfl
theorem at_roles_Reduce_2 : code F_roles_Reduce_2 = some code_roles_Reduce_2 := by kernel_rfl
theorem at_slices_Compact_roles_Pair_roles_Pair : code F_slices_Compact_roles_Pair_roles_Pair = some code_slices_Compact_roles_Pair_roles_Pair := by kernel_rfl
theorem at_slices_Index_string_string : code F_slices_Index_string_string = some code_slices_Index_string_string := by kernel_rfl
theorem at_math_bits_Len : code F_math_bits_Len = some code_math_bits_Len := by kernel_rfl
theorem at_slices_pdqsortOrdered_string : code F_slices_pdqsortOrdered_string = some code_slices_pdqsortOrdered_string := by kernel_rfl
theorem at_slices_IndexFunc_roles_Pair_roles_Pair : code F_slices_IndexFunc_roles_Pair_roles_Pair = some code_slices_IndexFunc_roles_Pair_roles_Pair := by kernel_rfl
theorem at_lex_Name : code F_lex_Name = some code_lex_Name := by kernel_rfl
theorem at_roles_ring_1 : code F_roles_ring_1 = some code_roles_ring_1 := by kernel_rfl
theorem at_ref06_head : code F_ref06_head = some code_ref06_head := by kernel_rfl
theorem at_ref06_tail : code F_ref06_tail = some code_ref06_tail := by kernel_rfl
theorem at_slices_Compact_string_string : code F_slices_Compact_string_string = some code_slices_Compact_string_string := by kernel_rfl
theorem at_slices_IndexFunc_string_string : code F_slices_IndexFunc_string_string = some code_slices_IndexFunc_string_string := by kernel_rfl
theorem at_roles_long : code F_roles_long = some code_roles_long := by kernel_rfl
theorem at_slices_pdqsortCmpFunc_roles_Pair : code F_slices_pdqsortCmpFunc_roles_Pair = some code_slices_pdqsortCmpFunc_roles_Pair := by kernel_rfl
theorem at_cmp_Compare_string : code F_cmp_Compare_string = some code_cmp_Compare_string := by kernel_rfl
theorem at_cmp_Or_int : code F_cmp_Or_int = some code_cmp_Or_int := by kernel_rfl
theorem at_math_bits_Len32 : code F_math_bits_Len32 = some code_math_bits_Len32 := by kernel_rfl
theorem at_math_bits_Len64 : code F_math_bits_Len64 = some code_math_bits_Len64 := by kernel_rfl
theorem at_slices_insertionSortOrdered_string : code F_slices_insertionSortOrdered_string = some code_slices_insertionSortOrdered_string := by kernel_rfl
theorem at_slices_heapSortOrdered_string : code F_slices_heapSortOrdered_string = some code_slices_heapSortOrdered_string := by kernel_rfl
theorem at_slices_breakPatternsOrdered_string : code F_slices_breakPatternsOrdered_string = some code_slices_breakPatternsOrdered_string := by kernel_rfl
theorem at_slices_choosePivotOrdered_string : code F_slices_choosePivotOrdered_string = some code_slices_choosePivotOrdered_string := by kernel_rfl
theorem at_slices_reverseRangeOrdered_string : code F_slices_reverseRangeOrdered_string = some code_slices_reverseRangeOrdered_string := by kernel_rfl
theorem at_slices_partialInsertionSortOrdered_string : code F_slices_partialInsertionSortOrdered_string = some code_slices_partialInsertionSortOrdered_string := by kernel_rfl
theorem at_cmp_Less_string : code F_cmp_Less_string = some code_cmp_Less_string := by kernel_rfl
theorem at_slices_partitionEqualOrdered_string : code F_slices_partitionEqualOrdered_string = some code_slices_partitionEqualOrdered_string := by kernel_rfl
theorem at_slices_partitionOrdered_string : code F_slices_partitionOrdered_string = some code_slices_partitionOrdered_string := by kernel_rfl
theorem at_lex_letter : code F_lex_letter = some code_lex_letter := by kernel_rfl
theorem at_lex_digit : code F_lex_digit = some code_lex_digit := by kernel_rfl
theorem at_roles_long_1 : code F_roles_long_1 = some code_roles_long_1 := by kernel_rfl
theorem at_slices_ContainsFunc_string_string : code F_slices_ContainsFunc_string_string = some code_slices_ContainsFunc_string_string := by kernel_rfl
theorem at_slices_insertionSortCmpFunc_roles_Pair : code F_slices_insertionSortCmpFunc_roles_Pair = some code_slices_insertionSortCmpFunc_roles_Pair := by kernel_rfl
theorem at_slices_heapSortCmpFunc_roles_Pair : code F_slices_heapSortCmpFunc_roles_Pair = some code_slices_heapSortCmpFunc_roles_Pair := by kernel_rfl
theorem at_slices_breakPatternsCmpFunc_roles_Pair : code F_slices_breakPatternsCmpFunc_roles_Pair = some code_slices_breakPatternsCmpFunc_roles_Pair := by kernel_rfl
theorem at_slices_choosePivotCmpFunc_roles_Pair : code F_slices_choosePivotCmpFunc_roles_Pair = some code_slices_choosePivotCmpFunc_roles_Pair := by kernel_rfl
theorem at_slices_reverseRangeCmpFunc_roles_Pair : code F_slices_reverseRangeCmpFunc_roles_Pair = some code_slices_reverseRangeCmpFunc_roles_Pair := by kernel_rfl
theorem at_slices_partialInsertionSortCmpFunc_roles_Pair : code F_slices_partialInsertionSortCmpFunc_roles_Pair = some code_slices_partialInsertionSortCmpFunc_roles_Pair := by kernel_rfl
theorem at_slices_partitionEqualCmpFunc_roles_Pair : code F_slices_partitionEqualCmpFunc_roles_Pair = some code_slices_partitionEqualCmpFunc_roles_Pair := by kernel_rfl
theorem at_slices_partitionCmpFunc_roles_Pair : code F_slices_partitionCmpFunc_roles_Pair = some code_slices_partitionCmpFunc_roles_Pair := by kernel_rfl
theorem at_cmp_isNaN_string : code F_cmp_isNaN_string = some code_cmp_isNaN_string := by kernel_rfl
theorem at_slices_siftDownOrdered_string : code F_slices_siftDownOrdered_string = some code_slices_siftDownOrdered_string := by kernel_rfl
theorem at_slices_nextPowerOfTwo : code F_slices_nextPowerOfTwo = some code_slices_nextPowerOfTwo := by kernel_rfl
theorem at_slices_xorshift_Next : code F_slices_xorshift_Next = some code_slices_xorshift_Next := by kernel_rfl
theorem at_slices_medianAdjacentOrdered_string : code F_slices_medianAdjacentOrdered_string = some code_slices_medianAdjacentOrdered_string := by kernel_rfl
theorem at_slices_medianOrdered_string : code F_slices_medianOrdered_string = some code_slices_medianOrdered_string := by kernel_rfl
theorem at_slices_siftDownCmpFunc_roles_Pair : code F_slices_siftDownCmpFunc_roles_Pair = some code_slices_siftDownCmpFunc_roles_Pair := by kernel_rfl
theorem at_slices_medianAdjacentCmpFunc_roles_Pair : code F_slices_medianAdjacentCmpFunc_roles_Pair = some code_slices_medianAdjacentCmpFunc_roles_Pair := by kernel_rfl
theorem at_slices_medianCmpFunc_roles_Pair : code F_slices_medianCmpFunc_roles_Pair = some code_slices_medianCmpFunc_roles_Pair := by kernel_rfl
theorem at_slices_order2Ordered_string : code F_slices_order2Ordered_string = some code_slices_order2Ordered_string := by kernel_rfl
theorem at_slices_order2CmpFunc_roles_Pair : code F_slices_order2CmpFunc_roles_Pair = some code_slices_order2CmpFunc_roles_Pair := by kernel_rfl
end Bz.S
