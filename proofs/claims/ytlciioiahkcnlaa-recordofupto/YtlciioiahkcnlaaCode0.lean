/- The code of functions, as the clean machine reads it (printed by a program of ours out of the seat's translation). -/
import Derived.Test.YtlciioiahkcnlaaBz0
import Derived.KernelRfl
set_option linter.unusedSimpArgs false
set_option linter.unusedVariables false
set_option maxRecDepth 100000
namespace Bz.S
open Go Bz
def F_law24_RecordWrites : Nat := 3
def F_law24_RecordReads : Nat := 4
def F_law24_RecordBack : Nat := 5
def F_law24_RecordOf : Nat := 6
def F_law24_alive : Nat := 7
def F_record_Put : Nat := 8
def F_ref23_May : Nat := 9
def F_record_Check : Nat := 10
def F_ref23_Record : Nat := 11
def F_record_Read : Nat := 12
def F_ref23_Verdicts : Nat := 13
def F_plain_Verdicts : Nat := 14
def F_record_Of : Nat := 15
def F_law24_one : Nat := 16
def F_octet_Out_Byte : Nat := 17
def F_octet_Out_Done : Nat := 18
def F_record_outside : Nat := 19
def F_slices_ContainsFunc_api_Verdict_api_Verdict : Nat := 20
def F_record_odd : Nat := 21
def F_octet_Open : Nat := 22
def F_octet_In_Byte : Nat := 23
def F_octet_In_Err : Nat := 24
def F_octet_In_Left : Nat := 25
def F_slices_Clone_api_Verdict_api_Verdict : Nat := 27
def F_record_Of_1 : Nat := 28
def F_slices_DeleteFunc_api_Verdict_api_Verdict : Nat := 26
def F_octet_Out_fail : Nat := 29
def F_slices_IndexFunc_api_Verdict_api_Verdict : Nat := 30
def F_octet_In_take : Nat := 31
def F_octet_In_bad : Nat := 32
/-- beadle/beadlelaw24.RecordWrites -/
def code_law24_RecordWrites : AFunc := ⟨45, [.tmp 2],
  .seq (.region 0 [
    ⟨(some 1), .box 2 (.t 0), none, []⟩,
    ⟨(some 2), .mov (.c (.d (.bool false))), none, []⟩] false)
  (.seq (.seq (.region 1 [
    ⟨(some 6), .call (.c (.fn F_law24_alive [])) [], none, []⟩,
    ⟨(some 7), .un .not (.t 6), none, []⟩] false)
  (.cond (.t 7)
    (.seq (.region 2 [
      ⟨(some 2), .mov (.c (.d (.bool false))), none, []⟩] false)
    (.mask ⟨[2], []⟩ (.ret)))
    (.skip)))
  (.mask ⟨[1], []⟩ (.seq (.region 3 [
    ⟨(some 9), .load 2 true (.t 1), none, []⟩,
    ⟨(some 10), .call (.c (.fn F_record_Put [])) [(.t 9)], none, []⟩,
    ⟨(some 8), .mov (.t 10), none, []⟩,
    ⟨(some 11), .extract (.t 8) 0, none, []⟩,
    ⟨(some 12), .extract (.t 8) 1, none, []⟩,
    ⟨(some 3), .mov (.t 11), none, []⟩,
    ⟨(some 4), .mov (.t 12), none, []⟩] false)
  (.seq (.region 4 [
    ⟨(some 13), .faddr 0 (.t 1), none, []⟩,
    ⟨(some 14), .load 1 false (.t 13), none, []⟩,
    ⟨(some 15), .faddr 1 (.t 1), none, []⟩,
    ⟨(some 16), .load 1 false (.t 15), none, []⟩,
    ⟨(some 17), .call (.c (.fn F_ref23_May [])) [(.t 14), (.t 16)], none, []⟩,
    ⟨(some 5), .mov (.t 17), none, []⟩] false)
  (.seq (.seq (.region 5 [
    ⟨(some 18), .load 2 true (.t 1), none, []⟩,
    ⟨(some 19), .call (.c (.fn F_record_Check [])) [(.t 18)], none, []⟩,
    ⟨(some 20), .mov (.t 5), none, []⟩,
    ⟨(some 21), .bin .neq (.t 19) (.t 20), none, []⟩] false)
  (.cond (.t 21)
    (.seq (.region 6 [
      ⟨(some 2), .mov (.c (.d (.bool false))), none, []⟩] false)
    (.mask ⟨[2], []⟩ (.ret)))
    (.skip)))
  (.mask ⟨[1, 3, 4, 5], []⟩ (.seq (.seq (.region 7 [
    ⟨(some 22), .mov (.t 5), none, []⟩,
    ⟨(some 23), .bin .neq (.t 22) (.c (.d (.int .i64 (0)))), none, []⟩] false)
  (.cond (.t 23)
    (.seq (.region 8 [
      ⟨(some 24), .mov (.t 4), none, []⟩,
      ⟨(some 25), .mov (.t 5), none, []⟩,
      ⟨(some 26), .bin .eql (.t 24) (.t 25), none, []⟩,
      ⟨(some 27), .mov (.t 26), none, []⟩,
      ⟨(some 28), .mov (.t 3), (some (27, true)), []⟩,
      ⟨(some 29), .len .sl (.t 28), (some (27, true)), []⟩,
      ⟨(some 30), .bin .eql (.t 29) (.c (.d (.int .i64 (0)))), (some (27, true)), []⟩,
      ⟨(some 31), .pick (.t 27) (.t 30) (.c (.d (.bool false))), none, []⟩,
      ⟨(some 2), .mov (.t 31), none, []⟩] false)
    (.mask ⟨[2], []⟩ (.ret)))
    (.skip)))
  (.mask ⟨[1, 3, 4], []⟩ (.seq (.region 9 [
    ⟨(some 32), .mov (.t 4), none, []⟩,
    ⟨(some 33), .bin .eql (.t 32) (.c (.d (.int .i64 (0)))), none, [0]⟩,
    ⟨(some 34), .mov (.t 33), none, [0, 1]⟩,
    ⟨(some 35), .mov (.t 3), (some (34, true)), [0, 1, 2]⟩,
    ⟨(some 36), .toStr (.t 35), (some (34, true)), [0, 1, 2, 3]⟩,
    ⟨(some 37), .faddr 0 (.t 1), (some (34, true)), [0, 1, 2]⟩,
    ⟨(some 38), .load 1 false (.t 37), (some (34, true)), [0, 1, 2, 5]⟩,
    ⟨(some 39), .faddr 1 (.t 1), (some (34, true)), [0, 1, 2]⟩,
    ⟨(some 40), .load 1 false (.t 39), (some (34, true)), [0, 1, 2, 7]⟩,
    ⟨(some 41), .call (.c (.fn F_ref23_Record [])) [(.t 38), (.t 40)], (some (34, true)), [0, 1, 2, 5, 6, 7, 8]⟩,
    ⟨(some 42), .toStr (.t 41), (some (34, true)), [0, 1, 2, 5, 6, 7, 8, 9]⟩,
    ⟨(some 43), .bin .eql (.t 36) (.t 42), (some (34, true)), [0, 1, 2, 3, 4, 5, 6, 7, 8, 9, 10]⟩,
    ⟨(some 44), .pick (.t 34) (.t 43) (.c (.d (.bool false))), none, [0, 1, 2, 3, 4, 5, 6, 7, 8, 9, 10, 11]⟩,
    ⟨(some 2), .mov (.t 44), none, [0, 1, 2, 3, 4, 5, 6, 7, 8, 9, 10, 11, 12]⟩] true)
  (.mask ⟨[2], []⟩ (.ret)))))))))))⟩
/-- beadle/beadlelaw24.RecordReads -/
def code_law24_RecordReads : AFunc := ⟨50, [.tmp 2],
  .seq (.region 0 [
    ⟨(some 2), .mov (.c (.d (.bool false))), none, []⟩] false)
  (.seq (.seq (.region 1 [
    ⟨(some 8), .call (.c (.fn F_law24_alive [])) [], none, []⟩,
    ⟨(some 9), .un .not (.t 8), none, []⟩] false)
  (.cond (.t 9)
    (.seq (.region 2 [
      ⟨(some 2), .mov (.c (.d (.bool false))), none, []⟩] false)
    (.mask ⟨[2], []⟩ (.ret)))
    (.skip)))
  (.mask ⟨[0], []⟩ (.seq (.region 3 [
    ⟨(some 11), .mov (.t 0), none, []⟩,
    ⟨(some 12), .call (.c (.fn F_record_Read [])) [(.t 11)], none, []⟩,
    ⟨(some 10), .mov (.t 12), none, []⟩,
    ⟨(some 13), .extract (.t 10) 0, none, []⟩,
    ⟨(some 14), .extract (.t 10) 1, none, []⟩,
    ⟨(some 3), .box 2 (.c (.agg [(.d (.int .i64 (0))), (.d (.vs true []))])), none, []⟩,
    ⟨none, .store 2 (.t 3) (.t 13), none, []⟩,
    ⟨(some 4), .mov (.t 14), none, []⟩] false)
  (.seq (.region 4 [
    ⟨(some 16), .mov (.t 0), none, []⟩,
    ⟨(some 17), .call (.c (.fn F_ref23_Verdicts [])) [(.t 16)], none, []⟩,
    ⟨(some 15), .mov (.t 17), none, []⟩,
    ⟨(some 18), .extract (.t 15) 0, none, []⟩,
    ⟨(some 19), .extract (.t 15) 1, none, []⟩,
    ⟨(some 20), .extract (.t 15) 2, none, []⟩,
    ⟨(some 5), .mov (.t 18), none, []⟩,
    ⟨(some 6), .mov (.t 19), none, []⟩,
    ⟨(some 7), .mov (.t 20), none, []⟩] false)
  (.seq (.seq (.region 5 [
    ⟨(some 21), .mov (.t 7), none, []⟩,
    ⟨(some 22), .un .not (.t 21), none, []⟩] false)
  (.cond (.t 22)
    (.seq (.region 6 [
      ⟨(some 23), .mov (.t 4), none, []⟩,
      ⟨(some 24), .bin .eql (.t 23) (.c (.d (.int .i64 (16)))), none, []⟩,
      ⟨(some 25), .mov (.t 24), none, []⟩,
      ⟨(some 26), .faddr 0 (.t 3), (some (25, true)), []⟩,
      ⟨(some 27), .load 1 false (.t 26), (some (25, true)), []⟩,
      ⟨(some 28), .bin .eql (.t 27) (.c (.d (.int .i64 (0)))), (some (25, true)), []⟩,
      ⟨(some 29), .pick (.t 25) (.t 28) (.c (.d (.bool false))), none, []⟩,
      ⟨(some 30), .mov (.t 29), none, []⟩,
      ⟨(some 31), .faddr 1 (.t 3), (some (30, true)), []⟩,
      ⟨(some 32), .load 1 false (.t 31), (some (30, true)), []⟩,
      ⟨(some 33), .len .sl (.t 32), (some (30, true)), []⟩,
      ⟨(some 34), .bin .eql (.t 33) (.c (.d (.int .i64 (0)))), (some (30, true)), []⟩,
      ⟨(some 35), .pick (.t 30) (.t 34) (.c (.d (.bool false))), none, []⟩,
      ⟨(some 2), .mov (.t 35), none, []⟩] false)
    (.mask ⟨[2], []⟩ (.ret)))
    (.skip)))
  (.mask ⟨[3, 4, 5, 6], []⟩ (.seq (.region 7 [
    ⟨(some 36), .mov (.t 4), none, []⟩,
    ⟨(some 37), .bin .eql (.t 36) (.c (.d (.int .i64 (0)))), none, []⟩,
    ⟨(some 38), .mov (.t 37), none, []⟩,
    ⟨(some 39), .faddr 0 (.t 3), (some (38, true)), []⟩,
    ⟨(some 40), .load 1 false (.t 39), (some (38, true)), []⟩,
    ⟨(some 41), .mov (.t 5), (some (38, true)), []⟩,
    ⟨(some 42), .bin .eql (.t 40) (.t 41), (some (38, true)), []⟩,
    ⟨(some 43), .pick (.t 38) (.t 42) (.c (.d (.bool false))), none, []⟩,
    ⟨(some 44), .mov (.t 43), none, []⟩,
    ⟨(some 45), .faddr 1 (.t 3), (some (44, true)), []⟩,
    ⟨(some 46), .load 1 false (.t 45), (some (44, true)), []⟩,
    ⟨(some 47), .mov (.t 6), (some (44, true)), []⟩,
    ⟨(some 48), .call (.c (.fn F_plain_Verdicts [])) [(.t 46), (.t 47)], (some (44, true)), []⟩,
    ⟨(some 49), .pick (.t 44) (.t 48) (.c (.d (.bool false))), none, []⟩,
    ⟨(some 2), .mov (.t 49), none, []⟩] false)
  (.mask ⟨[2], []⟩ (.ret)))))))))⟩
/-- beadle/beadlelaw24.RecordBack -/
def code_law24_RecordBack : AFunc := ⟨73, [.tmp 4],
  .seq (.region 0 [
    ⟨(some 2), .box 2 (.t 0), none, []⟩,
    ⟨(some 4), .mov (.c (.d (.bool false))), none, []⟩] false)
  (.seq (.seq (.region 1 [
    ⟨(some 13), .call (.c (.fn F_law24_alive [])) [], none, []⟩,
    ⟨(some 14), .un .not (.t 13), none, []⟩] false)
  (.cond (.t 14)
    (.seq (.region 2 [
      ⟨(some 4), .mov (.c (.d (.bool false))), none, []⟩] false)
    (.mask ⟨[4], []⟩ (.ret)))
    (.skip)))
  (.mask ⟨[1, 2], []⟩ (.seq (.region 3 [
    ⟨(some 16), .load 2 true (.t 2), none, []⟩,
    ⟨(some 17), .call (.c (.fn F_record_Put [])) [(.t 16)], none, []⟩,
    ⟨(some 15), .mov (.t 17), none, []⟩,
    ⟨(some 18), .extract (.t 15) 0, none, []⟩,
    ⟨(some 19), .extract (.t 15) 1, none, []⟩,
    ⟨(some 5), .mov (.t 18), none, []⟩,
    ⟨(some 6), .mov (.t 19), none, []⟩] false)
  (.seq (.seq (.region 4 [
    ⟨(some 20), .faddr 0 (.t 2), none, []⟩,
    ⟨(some 21), .load 1 false (.t 20), none, []⟩,
    ⟨(some 22), .faddr 1 (.t 2), none, []⟩,
    ⟨(some 23), .load 1 false (.t 22), none, []⟩,
    ⟨(some 24), .call (.c (.fn F_ref23_May [])) [(.t 21), (.t 23)], none, []⟩,
    ⟨(some 25), .bin .eql (.t 24) (.c (.d (.int .i64 (0)))), none, []⟩] false)
  (.cond (.t 25)
    (.seq (.region 5 [
      ⟨(some 27), .mov (.t 5), none, []⟩,
      ⟨(some 28), .call (.c (.fn F_record_Read [])) [(.t 27)], none, []⟩,
      ⟨(some 26), .mov (.t 28), none, []⟩,
      ⟨(some 29), .extract (.t 26) 0, none, []⟩,
      ⟨(some 30), .extract (.t 26) 1, none, []⟩,
      ⟨(some 7), .box 2 (.c (.agg [(.d (.int .i64 (0))), (.d (.vs true []))])), none, []⟩,
      ⟨none, .store 2 (.t 7) (.t 29), none, []⟩,
      ⟨(some 8), .mov (.t 30), none, []⟩] false)
    (.seq (.region 6 [
      ⟨(some 31), .mov (.t 6), none, []⟩,
      ⟨(some 32), .bin .neq (.t 31) (.c (.d (.int .i64 (0)))), none, []⟩,
      ⟨(some 33), .mov (.t 32), none, []⟩,
      ⟨(some 34), .mov (.t 8), (some (33, false)), []⟩,
      ⟨(some 35), .bin .neq (.t 34) (.c (.d (.int .i64 (0)))), (some (33, false)), []⟩,
      ⟨(some 36), .pick (.t 33) (.c (.d (.bool true))) (.t 35), none, []⟩,
      ⟨(some 37), .mov (.t 36), none, []⟩,
      ⟨(some 38), .faddr 0 (.t 7), (some (37, false)), []⟩,
      ⟨(some 39), .load 1 false (.t 38), (some (37, false)), []⟩,
      ⟨(some 40), .faddr 0 (.t 2), (some (37, false)), []⟩,
      ⟨(some 41), .load 1 false (.t 40), (some (37, false)), []⟩,
      ⟨(some 42), .bin .neq (.t 39) (.t 41), (some (37, false)), []⟩,
      ⟨(some 43), .pick (.t 37) (.c (.d (.bool true))) (.t 42), none, []⟩,
      ⟨(some 44), .mov (.t 43), none, []⟩,
      ⟨(some 45), .faddr 1 (.t 7), (some (44, false)), []⟩,
      ⟨(some 46), .load 1 false (.t 45), (some (44, false)), []⟩,
      ⟨(some 47), .faddr 1 (.t 2), (some (44, false)), []⟩,
      ⟨(some 48), .load 1 false (.t 47), (some (44, false)), []⟩,
      ⟨(some 49), .call (.c (.fn F_plain_Verdicts [])) [(.t 46), (.t 48)], (some (44, false)), []⟩,
      ⟨(some 50), .un .not (.t 49), (some (44, false)), []⟩,
      ⟨(some 51), .pick (.t 44) (.c (.d (.bool true))) (.t 50), none, []⟩] false)
    (.mask ⟨[1, 51], []⟩ (.cond (.t 51)
      (.seq (.region 7 [
        ⟨(some 4), .mov (.c (.d (.bool false))), none, []⟩] false)
      (.mask ⟨[4], []⟩ (.ret)))
      (.skip)))))
    (.skip)))
  (.mask ⟨[1], []⟩ (.seq (.region 8 [
    ⟨(some 53), .mov (.t 1), none, []⟩,
    ⟨(some 54), .call (.c (.fn F_record_Read [])) [(.t 53)], none, []⟩,
    ⟨(some 52), .mov (.t 54), none, []⟩,
    ⟨(some 55), .extract (.t 52) 0, none, []⟩,
    ⟨(some 56), .extract (.t 52) 1, none, []⟩,
    ⟨(some 9), .box 2 (.c (.agg [(.d (.int .i64 (0))), (.d (.vs true []))])), none, []⟩,
    ⟨none, .store 2 (.t 9) (.t 55), none, []⟩,
    ⟨(some 10), .mov (.t 56), none, []⟩] false)
  (.seq (.seq (.region 9 [
    ⟨(some 57), .mov (.t 10), none, []⟩,
    ⟨(some 58), .bin .neq (.t 57) (.c (.d (.int .i64 (0)))), none, []⟩] false)
  (.cond (.t 58)
    (.seq (.region 10 [
      ⟨(some 4), .mov (.c (.d (.bool true))), none, []⟩] false)
    (.mask ⟨[4], []⟩ (.ret)))
    (.skip)))
  (.mask ⟨[1, 9], []⟩ (.seq (.region 11 [
    ⟨(some 60), .load 2 true (.t 9), none, []⟩,
    ⟨(some 61), .call (.c (.fn F_record_Put [])) [(.t 60)], none, []⟩,
    ⟨(some 59), .mov (.t 61), none, []⟩,
    ⟨(some 62), .extract (.t 59) 0, none, []⟩,
    ⟨(some 63), .extract (.t 59) 1, none, []⟩,
    ⟨(some 11), .mov (.t 62), none, []⟩,
    ⟨(some 12), .mov (.t 63), none, []⟩] false)
  (.seq (.region 12 [
    ⟨(some 64), .mov (.t 12), none, []⟩,
    ⟨(some 65), .bin .eql (.t 64) (.c (.d (.int .i64 (0)))), none, []⟩,
    ⟨(some 66), .mov (.t 65), none, []⟩,
    ⟨(some 67), .mov (.t 11), (some (66, true)), []⟩,
    ⟨(some 68), .toStr (.t 67), (some (66, true)), []⟩,
    ⟨(some 69), .mov (.t 1), (some (66, true)), []⟩,
    ⟨(some 70), .toStr (.t 69), (some (66, true)), []⟩,
    ⟨(some 71), .bin .eql (.t 68) (.t 70), (some (66, true)), []⟩,
    ⟨(some 72), .pick (.t 66) (.t 71) (.c (.d (.bool false))), none, []⟩,
    ⟨(some 4), .mov (.t 72), none, []⟩] false)
  (.mask ⟨[4], []⟩ (.ret))))))))))))⟩
def mask_law24_RecordOf_0 : Mask := ⟨[1, 2, 5, 6, 7, 8, 9, 10, 11], [.slot 5 10000050 3, .slot 6 10000060 1]⟩
def body_law24_RecordOf_0 : ACode :=
  .seq (.seq (.region 13 [
    ⟨(some 34), .mov (.t 11), none, []⟩,
    ⟨(some 35), .mov (.t 6), none, []⟩,
    ⟨(some 36), .len .sl (.t 35), none, []⟩,
    ⟨(some 37), .bin .lss (.t 34) (.t 36), none, []⟩] false)
  (.cond (.t 37)
    (.skip)
    (.mask ⟨[1, 2, 5, 6, 7, 8, 9, 10], [.slot 5 10000050 3, .slot 6 10000060 1]⟩ (.exit 2))))
  (.mask ⟨[1, 2, 5, 6, 7, 8, 9, 10, 11], [.slot 5 10000050 3, .slot 6 10000060 1]⟩ (.seq (.block 3 (.region 15 [
    ⟨(some 40), .mov (.t 10), none, []⟩,
    ⟨(some 41), .mov (.t 40), none, [0]⟩,
    ⟨(some 42), .mov (.t 6), (some (41, false)), [0, 1]⟩,
    ⟨(some 43), .mov (.t 11), (some (41, false)), [0, 1]⟩,
    ⟨(some 44), .iaddr 1 (.t 42) (.t 43), (some (41, false)), [0, 1, 2, 3]⟩,
    ⟨(some 45), .load 1 false (.t 44), (some (41, false)), [0, 1, 2, 3, 4]⟩,
    ⟨(some 46), .faddr 0 (.t 9), (some (41, false)), [0, 1]⟩,
    ⟨(some 47), .load 1 false (.t 46), (some (41, false)), [0, 1, 6]⟩,
    ⟨(some 48), .bin .eql (.t 45) (.t 47), (some (41, false)), [0, 1, 2, 3, 4, 5, 6, 7]⟩,
    ⟨(some 49), .pick (.t 41) (.c (.d (.bool true))) (.t 48), none, [0, 1, 2, 3, 4, 5, 6, 7, 8]⟩,
    ⟨(some 10), .mov (.t 49), none, [0, 1, 2, 3, 4, 5, 6, 7, 8, 9]⟩] true))
  (.mask ⟨[1, 2, 5, 6, 7, 8, 9, 10, 11], [.slot 5 10000050 3, .slot 6 10000060 1]⟩ (.region 14 [
    ⟨(some 38), .mov (.t 11), none, []⟩,
    ⟨(some 39), .bin .add (.t 38) (.c (.d (.int .i64 (1)))), none, []⟩,
    ⟨(some 11), .mov (.t 39), none, []⟩] false))))
def mask_law24_RecordOf_1 : Mask := ⟨[1, 2, 5, 6, 7, 8], [.slot 5 10000050 3, .slot 6 10000060 1]⟩
def body_law24_RecordOf_1 : ACode :=
  .seq (.seq (.region 7 [
    ⟨(some 14), .mov (.t 8), none, []⟩,
    ⟨(some 15), .faddr 1 (.t 2), none, []⟩,
    ⟨(some 16), .load 1 false (.t 15), none, []⟩,
    ⟨(some 17), .len .sl (.t 16), none, []⟩,
    ⟨(some 18), .bin .lss (.t 14) (.t 17), none, []⟩] false)
  (.cond (.t 18)
    (.skip)
    (.mask ⟨[1, 2, 5, 6, 7], [.slot 5 10000050 3, .slot 6 10000060 1]⟩ (.exit 0))))
  (.mask ⟨[1, 2, 5, 6, 7, 8], [.slot 5 10000050 3, .slot 6 10000060 1]⟩ (.seq (.block 1 (.seq (.region 9 [
    ⟨(some 21), .faddr 1 (.t 2), none, []⟩,
    ⟨(some 22), .load 1 false (.t 21), none, []⟩,
    ⟨(some 23), .mov (.t 8), none, []⟩,
    ⟨(some 24), .iaddr 3 (.t 22) (.t 23), none, []⟩,
    ⟨(some 25), .load 3 true (.t 24), none, []⟩,
    ⟨(some 9), .box 3 (.c (.agg [(.d (.int .i64 (0))), (.d (.int .i64 (0))), (.d (.int .i64 (0)))])), none, []⟩,
    ⟨none, .store 3 (.t 9) (.t 25), none, []⟩,
    ⟨(some 10), .mov (.c (.d (.bool false))), none, []⟩] false)
  (.seq (.seq (.region 10 [
    ⟨(some 26), .faddr 0 (.t 9), none, []⟩,
    ⟨(some 27), .load 1 false (.t 26), none, []⟩,
    ⟨(some 28), .mov (.t 1), none, []⟩,
    ⟨(some 29), .bin .eql (.t 27) (.t 28), none, []⟩] false)
  (.cond (.t 29)
    (.region 11 [
      ⟨(some 30), .mov (.t 5), none, []⟩,
      ⟨(some 31), .load 3 true (.t 9), none, []⟩,
      ⟨(some 32), .buildSl 3 [(.int .i64 (0)), (.int .i64 (0)), (.int .i64 (0))] 1 [(0, (.t 31))], none, []⟩,
      ⟨(some 33), .append 3 (.t 30) (.t 32), none, []⟩,
      ⟨(some 5), .mov (.t 33), none, []⟩] false)
    (.skip)))
  (.mask ⟨[1, 2, 5, 6, 7, 8, 9, 10], [.slot 5 10000050 3, .slot 6 10000060 1]⟩ (.seq (.seq (.region 12 [
    ⟨(some 11), .mov (.c (.d (.int .i64 (0)))), none, []⟩] false)
  (.block 2 (.loop mask_law24_RecordOf_0 body_law24_RecordOf_0)))
  (.mask ⟨[1, 2, 5, 6, 7, 8, 9, 10], [.slot 5 10000050 3, .slot 6 10000060 1]⟩ (.seq (.region 16 [
    ⟨(some 50), .mov (.t 10), none, []⟩,
    ⟨(some 51), .un .not (.t 50), none, []⟩,
    ⟨(some 52), .mov (.t 51), none, []⟩,
    ⟨(some 53), .mov (.t 6), (some (52, true)), []⟩,
    ⟨(some 54), .len .sl (.t 53), (some (52, true)), []⟩,
    ⟨(some 55), .bin .lss (.t 54) (.c (.d (.int .i64 (40)))), (some (52, true)), []⟩,
    ⟨(some 56), .pick (.t 52) (.t 55) (.c (.d (.bool false))), none, []⟩] false)
  (.mask ⟨[1, 2, 5, 6, 7, 8, 9, 56], [.slot 5 10000050 3, .slot 6 10000060 1]⟩ (.cond (.t 56)
    (.seq (.region 17 [
      ⟨(some 57), .mov (.t 6), none, []⟩,
      ⟨(some 58), .faddr 0 (.t 9), none, []⟩,
      ⟨(some 59), .load 1 false (.t 58), none, []⟩,
      ⟨(some 60), .buildSl 1 [(.int .i64 (0))] 1 [(0, (.t 59))], none, []⟩,
      ⟨(some 61), .append 1 (.t 57) (.t 60), none, []⟩,
      ⟨(some 6), .mov (.t 61), none, []⟩] false)
    (.region 18 [
      ⟨(some 62), .mov (.t 7), none, []⟩,
      ⟨(some 63), .load 2 true (.t 2), none, []⟩,
      ⟨(some 64), .faddr 0 (.t 9), none, []⟩,
      ⟨(some 65), .load 1 false (.t 64), none, []⟩,
      ⟨(some 66), .call (.c (.fn F_record_Of [])) [(.t 63), (.t 65)], none, []⟩,
      ⟨(some 67), .len .sl (.t 66), none, []⟩,
      ⟨(some 68), .bin .add (.t 62) (.t 67), none, []⟩,
      ⟨(some 7), .mov (.t 68), none, []⟩] false))
    (.skip))))))))))
  (.mask ⟨[1, 2, 5, 6, 7, 8], [.slot 5 10000050 3, .slot 6 10000060 1]⟩ (.region 8 [
    ⟨(some 19), .mov (.t 8), none, []⟩,
    ⟨(some 20), .bin .add (.t 19) (.c (.d (.int .i64 (1)))), none, []⟩,
    ⟨(some 8), .mov (.t 20), none, []⟩] false))))
/-- beadle/beadlelaw24.RecordOf -/
def code_law24_RecordOf : AFunc := ⟨86, [.tmp 4],
  .seq (.region 0 [
    ⟨(some 2), .box 2 (.t 0), none, []⟩,
    ⟨(some 4), .mov (.c (.d (.bool false))), none, []⟩] false)
  (.seq (.seq (.region 1 [
    ⟨(some 12), .call (.c (.fn F_law24_alive [])) [], none, []⟩,
    ⟨(some 13), .un .not (.t 12), none, []⟩] false)
  (.cond (.t 13)
    (.seq (.region 2 [
      ⟨(some 4), .mov (.c (.d (.bool false))), none, []⟩] false)
    (.mask ⟨[4], []⟩ (.ret)))
    (.skip)))
  (.mask ⟨[1, 2], []⟩ (.seq (.region 3 [
    ⟨(some 5), .mov (.c (.d (.vs true []))), none, []⟩] false)
  (.seq (.region 4 [
    ⟨(some 6), .mov (.c (.d (.vs true []))), none, []⟩] false)
  (.seq (.region 5 [
    ⟨(some 7), .mov (.c (.d (.int .i64 (0)))), none, []⟩] false)
  (.seq (.seq (.region 6 [
    ⟨(some 8), .mov (.c (.d (.int .i64 (0)))), none, []⟩] false)
  (.block 0 (.loop mask_law24_RecordOf_1 body_law24_RecordOf_1)))
  (.mask ⟨[1, 2, 5, 6, 7], [.slot 5 10000050 3, .slot 6 10000060 1]⟩ (.seq (.region 19 [
    ⟨(some 69), .load 2 true (.t 2), none, []⟩,
    ⟨(some 70), .mov (.t 1), none, []⟩,
    ⟨(some 71), .call (.c (.fn F_record_Of [])) [(.t 69), (.t 70)], none, []⟩,
    ⟨(some 72), .mov (.t 5), none, []⟩,
    ⟨(some 73), .call (.c (.fn F_plain_Verdicts [])) [(.t 71), (.t 72)], none, []⟩,
    ⟨(some 74), .mov (.t 73), none, []⟩,
    ⟨(some 75), .mov (.t 6), (some (74, true)), []⟩,
    ⟨(some 76), .len .sl (.t 75), (some (74, true)), []⟩,
    ⟨(some 77), .bin .eql (.t 76) (.c (.d (.int .i64 (40)))), (some (74, true)), []⟩,
    ⟨(some 78), .mov (.t 77), (some (74, true)), []⟩,
    ⟨(some 79), .mov (.t 7), (some (78, false)), []⟩,
    ⟨(some 80), .faddr 1 (.t 2), (some (78, false)), []⟩,
    ⟨(some 81), .load 1 false (.t 80), (some (78, false)), []⟩,
    ⟨(some 82), .len .sl (.t 81), (some (78, false)), []⟩,
    ⟨(some 83), .bin .eql (.t 79) (.t 82), (some (78, false)), []⟩,
    ⟨(some 84), .pick (.t 78) (.c (.d (.bool true))) (.t 83), (some (74, true)), []⟩,
    ⟨(some 85), .pick (.t 74) (.t 84) (.c (.d (.bool false))), none, []⟩,
    ⟨(some 4), .mov (.t 85), none, []⟩] false)
  (.mask ⟨[4], []⟩ (.ret))))))))))⟩
/-- beadle/beadlelaw24.alive -/
def code_law24_alive : AFunc := ⟨45, [.tmp 0],
  .seq (.region 0 [
    ⟨(some 0), .mov (.c (.d (.bool false))), none, []⟩] false)
  (.seq (.region 1 [
    ⟨(some 6), .call (.c (.fn F_law24_one [])) [], none, []⟩,
    ⟨(some 7), .call (.c (.fn F_record_Put [])) [(.t 6)], none, []⟩,
    ⟨(some 5), .mov (.t 7), none, []⟩,
    ⟨(some 8), .extract (.t 5) 0, none, []⟩,
    ⟨(some 9), .extract (.t 5) 1, none, []⟩,
    ⟨(some 1), .mov (.t 8), none, []⟩,
    ⟨(some 2), .mov (.t 9), none, []⟩] false)
  (.seq (.region 2 [
    ⟨(some 11), .mov (.t 1), none, []⟩,
    ⟨(some 12), .call (.c (.fn F_record_Read [])) [(.t 11)], none, []⟩,
    ⟨(some 10), .mov (.t 12), none, []⟩,
    ⟨(some 13), .extract (.t 10) 0, none, []⟩,
    ⟨(some 14), .extract (.t 10) 1, none, []⟩,
    ⟨(some 3), .box 2 (.c (.agg [(.d (.int .i64 (0))), (.d (.vs true []))])), none, []⟩,
    ⟨none, .store 2 (.t 3) (.t 13), none, []⟩,
    ⟨(some 4), .mov (.t 14), none, []⟩] false)
  (.seq (.region 3 [
    ⟨(some 15), .mov (.t 2), none, []⟩,
    ⟨(some 16), .bin .eql (.t 15) (.c (.d (.int .i64 (0)))), none, []⟩,
    ⟨(some 17), .mov (.t 16), none, []⟩,
    ⟨(some 18), .mov (.t 1), (some (17, true)), []⟩,
    ⟨(some 19), .toStr (.t 18), (some (17, true)), []⟩,
    ⟨(some 20), .buildSl 1 [(.int .u8 (0))] 5 [(0, (.c (.d (.int .u8 (0))))), (1, (.c (.d (.int .u8 (1))))), (2, (.c (.d (.int .u8 (3))))), (3, (.c (.d (.int .u8 (1))))), (4, (.c (.d (.int .u8 (0)))))], (some (17, true)), []⟩,
    ⟨(some 21), .toStr (.t 20), (some (17, true)), []⟩,
    ⟨(some 22), .bin .eql (.t 19) (.t 21), (some (17, true)), []⟩,
    ⟨(some 23), .pick (.t 17) (.t 22) (.c (.d (.bool false))), none, []⟩,
    ⟨(some 24), .mov (.t 23), none, []⟩,
    ⟨(some 25), .mov (.t 4), (some (24, true)), []⟩,
    ⟨(some 26), .bin .eql (.t 25) (.c (.d (.int .i64 (0)))), (some (24, true)), []⟩,
    ⟨(some 27), .pick (.t 24) (.t 26) (.c (.d (.bool false))), none, []⟩,
    ⟨(some 28), .mov (.t 27), none, []⟩,
    ⟨(some 29), .faddr 1 (.t 3), (some (28, true)), []⟩,
    ⟨(some 30), .load 1 false (.t 29), (some (28, true)), []⟩,
    ⟨(some 31), .len .sl (.t 30), (some (28, true)), []⟩,
    ⟨(some 32), .bin .eql (.t 31) (.c (.d (.int .i64 (1)))), (some (28, true)), []⟩,
    ⟨(some 33), .pick (.t 28) (.t 32) (.c (.d (.bool false))), none, []⟩,
    ⟨(some 34), .mov (.t 33), none, []⟩,
    ⟨(some 35), .load 2 true (.t 3), (some (34, true)), []⟩,
    ⟨(some 36), .call (.c (.fn F_record_Of [])) [(.t 35), (.c (.d (.int .i64 (3))))], (some (34, true)), []⟩,
    ⟨(some 37), .len .sl (.t 36), (some (34, true)), []⟩,
    ⟨(some 38), .bin .eql (.t 37) (.c (.d (.int .i64 (1)))), (some (34, true)), []⟩,
    ⟨(some 39), .pick (.t 34) (.t 38) (.c (.d (.bool false))), none, []⟩,
    ⟨(some 40), .mov (.t 39), none, []⟩,
    ⟨(some 41), .build [(.d (.int .i64 (0))), (.d (.vs true []))] [(0, 1, (.c (.d (.int .i64 (-1)))))], (some (40, true)), []⟩,
    ⟨(some 42), .call (.c (.fn F_record_Check [])) [(.t 41)], (some (40, true)), []⟩,
    ⟨(some 43), .bin .eql (.t 42) (.c (.d (.int .i64 (4)))), (some (40, true)), []⟩,
    ⟨(some 44), .pick (.t 40) (.t 43) (.c (.d (.bool false))), none, []⟩,
    ⟨(some 0), .mov (.t 44), none, []⟩] false)
  (.mask ⟨[0], []⟩ (.ret)))))⟩
def mask_record_Put_0 : Mask := ⟨[5, 25, 26, 27], [.cell 50010 0 25001000 1]⟩
def body_record_Put_0 : ACode :=
  .seq (.region 8 [
    ⟨(some 28), .bin .lss (.t 27) (.t 26), none, []⟩] false)
  (.mask ⟨[5, 25, 26, 27, 28], [.cell 50010 0 25001000 1]⟩ (.seq (.cond (.t 28)
    (.skip)
    (.mask ⟨[5], [.cell 50010 0 25001000 1]⟩ (.exit 0)))
  (.mask ⟨[5, 25, 26, 27], [.cell 50010 0 25001000 1]⟩ (.seq (.block 1 (.seq (.region 9 [
    ⟨(some 29), .iaddr 3 (.t 25) (.t 27), none, []⟩,
    ⟨(some 30), .load 3 true (.t 29), none, []⟩,
    ⟨(some 7), .box 3 (.c (.agg [(.d (.int .i64 (0))), (.d (.int .i64 (0))), (.d (.int .i64 (0)))])), none, []⟩,
    ⟨none, .store 3 (.t 7) (.t 30), none, []⟩] false)
  (.mask ⟨[5, 7, 25, 26, 27], [.cell 50010 0 25001000 1]⟩ (.seq (.region 10 [
    ⟨(some 31), .mov (.t 5), none, []⟩,
    ⟨(some 32), .faddr 0 (.t 7), none, []⟩,
    ⟨(some 33), .load 1 false (.t 32), none, []⟩,
    ⟨(some 34), .call (.c (.fn F_octet_Out_Byte [])) [(.t 31), (.t 33)], none, []⟩] false)
  (.mask ⟨[5, 7, 25, 26, 27], [.cell 50010 0 25001000 1]⟩ (.seq (.region 11 [
    ⟨(some 35), .mov (.t 5), none, []⟩,
    ⟨(some 36), .faddr 1 (.t 7), none, []⟩,
    ⟨(some 37), .load 1 false (.t 36), none, []⟩,
    ⟨(some 38), .call (.c (.fn F_octet_Out_Byte [])) [(.t 35), (.t 37)], none, []⟩] false)
  (.mask ⟨[5, 7, 25, 26, 27], [.cell 50010 0 25001000 1]⟩ (.region 12 [
    ⟨(some 39), .mov (.t 5), none, []⟩,
    ⟨(some 40), .faddr 2 (.t 7), none, []⟩,
    ⟨(some 41), .load 1 false (.t 40), none, []⟩,
    ⟨(some 42), .call (.c (.fn F_octet_Out_Byte [])) [(.t 39), (.t 41)], none, []⟩] false))))))))
  (.mask ⟨[5, 25, 26, 27], [.cell 50010 0 25001000 1]⟩ (.region 13 [
    ⟨(some 43), .bin .add (.t 27) (.c (.d (.int .i64 (1)))), none, []⟩,
    ⟨(some 27), .mov (.t 43), none, []⟩] false))))))
/-- beadle/record.Put -/
def code_record_Put : AFunc := ⟨48, [.tmp 2, .tmp 3],
  .seq (.region 0 [
    ⟨(some 1), .box 2 (.t 0), none, []⟩,
    ⟨(some 2), .mov (.c (.d (.vs true []))), none, []⟩,
    ⟨(some 3), .mov (.c (.d (.int .i64 (0)))), none, []⟩] false)
  (.mask ⟨[1], [.cell 50010 0 25001000 1]⟩ (.seq (.seq (.region 1 [
    ⟨(some 8), .load 2 true (.t 1), none, []⟩,
    ⟨(some 9), .call (.c (.fn F_record_Check [])) [(.t 8)], none, []⟩,
    ⟨(some 4), .mov (.t 9), none, []⟩] false)
  (.mask ⟨[1, 4], [.cell 50010 0 25001000 1]⟩ (.seq (.region 2 [
    ⟨(some 10), .mov (.t 4), none, []⟩,
    ⟨(some 11), .bin .neq (.t 10) (.c (.d (.int .i64 (0)))), none, []⟩] false)
  (.mask ⟨[1, 4, 11], [.cell 50010 0 25001000 1]⟩ (.cond (.t 11)
    (.seq (.region 3 [
      ⟨(some 12), .mov (.t 4), none, []⟩,
      ⟨(some 2), .mov (.c (.d (.vs true []))), none, []⟩,
      ⟨(some 3), .mov (.t 12), none, []⟩] false)
    (.mask ⟨[2, 3], [.cell 50010 0 25001000 1]⟩ (.ret)))
    (.skip))))))
  (.mask ⟨[1], [.cell 50010 0 25001000 1]⟩ (.seq (.region 4 [
    ⟨(some 13), .build [(.d (.vs true [])), (.d (.int .i64 (0)))] [], none, []⟩,
    ⟨(some 14), .box 2 (.t 13), none, []⟩,
    ⟨(some 5), .mov (.t 14), none, []⟩] false)
  (.mask ⟨[1, 5], [.cell 50010 0 25001000 1]⟩ (.seq (.region 5 [
    ⟨(some 15), .mov (.t 5), none, []⟩,
    ⟨(some 16), .faddr 0 (.t 1), none, []⟩,
    ⟨(some 17), .load 1 false (.t 16), none, []⟩,
    ⟨(some 18), .call (.c (.fn F_octet_Out_Byte [])) [(.t 15), (.t 17)], none, []⟩] false)
  (.mask ⟨[1, 5], [.cell 50010 0 25001000 1]⟩ (.seq (.region 6 [
    ⟨(some 19), .mov (.t 5), none, []⟩,
    ⟨(some 20), .faddr 1 (.t 1), none, []⟩,
    ⟨(some 21), .load 1 false (.t 20), none, []⟩,
    ⟨(some 22), .len .sl (.t 21), none, []⟩,
    ⟨(some 23), .call (.c (.fn F_octet_Out_Byte [])) [(.t 19), (.t 22)], none, []⟩] false)
  (.mask ⟨[1, 5], [.cell 50010 0 25001000 1]⟩ (.seq (.seq (.region 7 [
    ⟨(some 24), .faddr 1 (.t 1), none, []⟩,
    ⟨(some 25), .load 1 false (.t 24), none, []⟩,
    ⟨(some 26), .len .sl (.t 25), none, []⟩,
    ⟨(some 27), .mov (.c (.d (.int .i64 (0)))), none, []⟩] false)
  (.mask ⟨[5, 25, 26, 27], [.cell 50010 0 25001000 1]⟩ (.block 0 (.loop mask_record_Put_0 body_record_Put_0))))
  (.mask ⟨[5], [.cell 50010 0 25001000 1]⟩ (.seq (.region 14 [
    ⟨(some 44), .mov (.t 5), none, []⟩,
    ⟨(some 45), .call (.c (.fn F_octet_Out_Done [])) [(.t 44)], none, []⟩,
    ⟨(some 46), .extract (.t 45) 0, none, []⟩,
    ⟨(some 47), .extract (.t 45) 1, none, []⟩,
    ⟨(some 2), .mov (.t 46), none, []⟩,
    ⟨(some 3), .mov (.t 47), none, []⟩] false)
  (.mask ⟨[2, 3], [.cell 50010 0 25001000 1]⟩ (.ret))))))))))))))⟩
def mask_ref23_May_0 : Mask := ⟨[1, 5], []⟩
def body_ref23_May_0 : ACode :=
  .seq (.seq (.region 4 [
    ⟨(some 13), .mov (.t 5), none, []⟩,
    ⟨(some 14), .mov (.t 1), none, []⟩,
    ⟨(some 15), .len .sl (.t 14), none, []⟩,
    ⟨(some 16), .bin .lss (.t 13) (.t 15), none, []⟩] false)
  (.cond (.t 16)
    (.skip)
    (.mask ⟨[1], []⟩ (.exit 0))))
  (.mask ⟨[1, 5], []⟩ (.seq (.block 1 (.seq (.region 6 [
    ⟨(some 19), .mov (.t 1), none, []⟩,
    ⟨(some 20), .mov (.t 5), none, []⟩,
    ⟨(some 21), .iaddr 3 (.t 19) (.t 20), none, []⟩,
    ⟨(some 22), .load 3 true (.t 21), none, []⟩,
    ⟨(some 6), .box 3 (.c (.agg [(.d (.int .i64 (0))), (.d (.int .i64 (0))), (.d (.int .i64 (0)))])), none, []⟩,
    ⟨none, .store 3 (.t 6) (.t 22), none, []⟩] false)
  (.seq (.region 7 [
    ⟨(some 23), .faddr 0 (.t 6), none, []⟩,
    ⟨(some 24), .load 1 false (.t 23), none, []⟩,
    ⟨(some 25), .bin .lss (.t 24) (.c (.d (.int .i64 (0)))), none, []⟩,
    ⟨(some 26), .mov (.t 25), none, []⟩,
    ⟨(some 27), .faddr 0 (.t 6), (some (26, false)), []⟩,
    ⟨(some 28), .load 1 false (.t 27), (some (26, false)), []⟩,
    ⟨(some 29), .bin .gtr (.t 28) (.c (.d (.int .i64 (63)))), (some (26, false)), []⟩,
    ⟨(some 30), .pick (.t 26) (.c (.d (.bool true))) (.t 29), none, []⟩,
    ⟨(some 31), .mov (.t 30), none, []⟩,
    ⟨(some 32), .faddr 1 (.t 6), (some (31, false)), []⟩,
    ⟨(some 33), .load 1 false (.t 32), (some (31, false)), []⟩,
    ⟨(some 34), .bin .lss (.t 33) (.c (.d (.int .i64 (1)))), (some (31, false)), []⟩,
    ⟨(some 35), .pick (.t 31) (.c (.d (.bool true))) (.t 34), none, []⟩,
    ⟨(some 36), .mov (.t 35), none, []⟩,
    ⟨(some 37), .faddr 1 (.t 6), (some (36, false)), []⟩,
    ⟨(some 38), .load 1 false (.t 37), (some (36, false)), []⟩,
    ⟨(some 39), .bin .gtr (.t 38) (.c (.d (.int .i64 (5)))), (some (36, false)), []⟩,
    ⟨(some 40), .pick (.t 36) (.c (.d (.bool true))) (.t 39), none, []⟩,
    ⟨(some 41), .mov (.t 40), none, []⟩,
    ⟨(some 42), .faddr 2 (.t 6), (some (41, false)), []⟩,
    ⟨(some 43), .load 1 false (.t 42), (some (41, false)), []⟩,
    ⟨(some 44), .bin .lss (.t 43) (.c (.d (.int .i64 (0)))), (some (41, false)), []⟩,
    ⟨(some 45), .pick (.t 41) (.c (.d (.bool true))) (.t 44), none, []⟩,
    ⟨(some 46), .mov (.t 45), none, []⟩,
    ⟨(some 47), .faddr 2 (.t 6), (some (46, false)), []⟩,
    ⟨(some 48), .load 1 false (.t 47), (some (46, false)), []⟩,
    ⟨(some 49), .bin .gtr (.t 48) (.c (.d (.int .i64 (255)))), (some (46, false)), []⟩,
    ⟨(some 50), .pick (.t 46) (.c (.d (.bool true))) (.t 49), none, []⟩] false)
  (.mask ⟨[1, 5, 50], []⟩ (.cond (.t 50)
    (.seq (.region 8 [
      ⟨(some 4), .mov (.c (.d (.int .i64 (4)))), none, []⟩] false)
    (.mask ⟨[4], []⟩ (.ret)))
    (.skip))))))
  (.mask ⟨[1, 5], []⟩ (.region 5 [
    ⟨(some 17), .mov (.t 5), none, []⟩,
    ⟨(some 18), .bin .add (.t 17) (.c (.d (.int .i64 (1)))), none, []⟩,
    ⟨(some 5), .mov (.t 18), none, []⟩] false))))
/-- beadle/beadleref23.May -/
def code_ref23_May : AFunc := ⟨54, [.tmp 4],
  .seq (.region 0 [
    ⟨(some 4), .mov (.c (.d (.int .i64 (0)))), none, []⟩] false)
  (.seq (.seq (.region 1 [
    ⟨(some 7), .mov (.t 0), none, []⟩,
    ⟨(some 8), .bin .lss (.t 7) (.c (.d (.int .i64 (0)))), none, []⟩,
    ⟨(some 9), .mov (.t 8), none, []⟩,
    ⟨(some 10), .mov (.t 0), (some (9, false)), []⟩,
    ⟨(some 11), .bin .gtr (.t 10) (.c (.d (.int .i64 (255)))), (some (9, false)), []⟩,
    ⟨(some 12), .pick (.t 9) (.c (.d (.bool true))) (.t 11), none, []⟩] false)
  (.mask ⟨[1, 12], []⟩ (.cond (.t 12)
    (.seq (.region 2 [
      ⟨(some 4), .mov (.c (.d (.int .i64 (4)))), none, []⟩] false)
    (.mask ⟨[4], []⟩ (.ret)))
    (.skip))))
  (.mask ⟨[1], []⟩ (.seq (.seq (.region 3 [
    ⟨(some 5), .mov (.c (.d (.int .i64 (0)))), none, []⟩] false)
  (.block 0 (.loop mask_ref23_May_0 body_ref23_May_0)))
  (.mask ⟨[1], []⟩ (.seq (.seq (.region 9 [
    ⟨(some 51), .mov (.t 1), none, []⟩,
    ⟨(some 52), .len .sl (.t 51), none, []⟩,
    ⟨(some 53), .bin .gtr (.t 52) (.c (.d (.int .i64 (255)))), none, []⟩] false)
  (.cond (.t 53)
    (.seq (.region 10 [
      ⟨(some 4), .mov (.c (.d (.int .i64 (3)))), none, []⟩] false)
    (.mask ⟨[4], []⟩ (.ret)))
    (.skip)))
  (.mask ⟨[], []⟩ (.seq (.region 11 [
    ⟨(some 4), .mov (.c (.d (.int .i64 (0)))), none, []⟩] false)
  (.mask ⟨[4], []⟩ (.ret)))))))))⟩
/-- beadle/record.Check -/
def code_record_Check : AFunc := ⟨17, [.tmp 2],
  .seq (.region 0 [
    ⟨(some 1), .box 2 (.t 0), none, []⟩,
    ⟨(some 2), .mov (.c (.d (.int .i64 (0)))), none, []⟩] false)
  (.seq (.block 0 (.seq (.region 1 [
    ⟨(some 4), .faddr 0 (.t 1), none, []⟩,
    ⟨(some 5), .load 1 false (.t 4), none, []⟩,
    ⟨(some 6), .call (.c (.fn F_record_outside [])) [(.t 5), (.c (.d (.int .i64 (0)))), (.c (.d (.int .i64 (255))))], none, []⟩,
    ⟨(some 7), .mov (.t 6), none, []⟩,
    ⟨(some 8), .faddr 1 (.t 1), (some (7, false)), []⟩,
    ⟨(some 9), .load 1 false (.t 8), (some (7, false)), []⟩,
    ⟨(some 10), .call (.c (.fn F_slices_ContainsFunc_api_Verdict_api_Verdict [])) [(.t 9), (.c (.fn F_record_odd []))], (some (7, false)), []⟩,
    ⟨(some 11), .pick (.t 7) (.c (.d (.bool true))) (.t 10), none, []⟩,
    ⟨(some 3), .mov (.t 11), none, []⟩] false)
  (.mask ⟨[1, 3], []⟩ (.cond (.t 3)
    (.seq (.region 2 [
      ⟨(some 2), .mov (.c (.d (.int .i64 (4)))), none, []⟩] false)
    (.mask ⟨[2], []⟩ (.ret)))
    (.seq (.region 3 [
      ⟨(some 13), .faddr 1 (.t 1), none, []⟩,
      ⟨(some 14), .load 1 false (.t 13), none, []⟩,
      ⟨(some 15), .len .sl (.t 14), none, []⟩,
      ⟨(some 16), .bin .gtr (.t 15) (.c (.d (.int .i64 (255)))), none, []⟩,
      ⟨(some 12), .mov (.t 16), none, []⟩] false)
    (.cond (.t 12)
      (.seq (.region 4 [
        ⟨(some 2), .mov (.c (.d (.int .i64 (3)))), none, []⟩] false)
      (.mask ⟨[2], []⟩ (.ret)))
      (.skip)))))))
  (.mask ⟨[], []⟩ (.seq (.region 5 [
    ⟨(some 2), .mov (.c (.d (.int .i64 (0)))), none, []⟩] false)
  (.mask ⟨[2], []⟩ (.ret)))))⟩
def mask_ref23_Record_0 : Mask := ⟨[1, 5, 6], [.slot 5 10000050 1]⟩
def body_ref23_Record_0 : ACode :=
  .seq (.seq (.region 3 [
    ⟨(some 13), .mov (.t 6), none, []⟩,
    ⟨(some 14), .mov (.t 1), none, []⟩,
    ⟨(some 15), .len .sl (.t 14), none, []⟩,
    ⟨(some 16), .bin .lss (.t 13) (.t 15), none, []⟩] false)
  (.cond (.t 16)
    (.skip)
    (.mask ⟨[5], [.slot 5 10000050 1]⟩ (.exit 0))))
  (.mask ⟨[1, 5, 6], [.slot 5 10000050 1]⟩ (.seq (.block 1 (.region 5 [
    ⟨(some 19), .mov (.t 5), none, []⟩,
    ⟨(some 20), .mov (.t 1), none, []⟩,
    ⟨(some 21), .mov (.t 6), none, []⟩,
    ⟨(some 22), .iaddr 3 (.t 20) (.t 21), none, [1, 2]⟩,
    ⟨(some 23), .faddr 0 (.t 22), none, [1, 2, 3]⟩,
    ⟨(some 24), .load 1 false (.t 23), none, [1, 2, 3, 4]⟩,
    ⟨(some 25), .toInt .u8 (.t 24), none, [1, 2, 3, 4, 5]⟩,
    ⟨(some 26), .mov (.t 1), none, []⟩,
    ⟨(some 27), .mov (.t 6), none, []⟩,
    ⟨(some 28), .iaddr 3 (.t 26) (.t 27), none, [7, 8]⟩,
    ⟨(some 29), .faddr 1 (.t 28), none, [7, 8, 9]⟩,
    ⟨(some 30), .load 1 false (.t 29), none, [7, 8, 9, 10]⟩,
    ⟨(some 31), .toInt .u8 (.t 30), none, [7, 8, 9, 10, 11]⟩,
    ⟨(some 32), .mov (.t 1), none, []⟩,
    ⟨(some 33), .mov (.t 6), none, []⟩,
    ⟨(some 34), .iaddr 3 (.t 32) (.t 33), none, [13, 14]⟩,
    ⟨(some 35), .faddr 2 (.t 34), none, [13, 14, 15]⟩,
    ⟨(some 36), .load 1 false (.t 35), none, [13, 14, 15, 16]⟩,
    ⟨(some 37), .toInt .u8 (.t 36), none, [13, 14, 15, 16, 17]⟩,
    ⟨(some 38), .buildSl 1 [(.int .u8 (0))] 3 [(0, (.t 25)), (1, (.t 31)), (2, (.t 37))], none, [1, 2, 3, 4, 5, 6, 7, 8, 9, 10, 11, 12, 13, 14, 15, 16, 17, 18]⟩,
    ⟨(some 39), .append 1 (.t 19) (.t 38), none, [0, 1, 2, 3, 4, 5, 6, 7, 8, 9, 10, 11, 12, 13, 14, 15, 16, 17, 18, 19]⟩,
    ⟨(some 5), .mov (.t 39), none, [0, 1, 2, 3, 4, 5, 6, 7, 8, 9, 10, 11, 12, 13, 14, 15, 16, 17, 18, 19, 20]⟩] true))
  (.mask ⟨[1, 5, 6], [.slot 5 10000050 1]⟩ (.region 4 [
    ⟨(some 17), .mov (.t 6), none, []⟩,
    ⟨(some 18), .bin .add (.t 17) (.c (.d (.int .i64 (1)))), none, []⟩,
    ⟨(some 6), .mov (.t 18), none, []⟩] false))))
/-- beadle/beadleref23.Record -/
def code_ref23_Record : AFunc := ⟨41, [.tmp 4],
  .seq (.region 0 [
    ⟨(some 4), .mov (.c (.d (.vs true []))), none, []⟩] false)
  (.seq (.region 1 [
    ⟨(some 7), .mov (.t 0), none, []⟩,
    ⟨(some 8), .toInt .u8 (.t 7), none, []⟩,
    ⟨(some 9), .mov (.t 1), none, []⟩,
    ⟨(some 10), .len .sl (.t 9), none, []⟩,
    ⟨(some 11), .toInt .u8 (.t 10), none, []⟩,
    ⟨(some 12), .buildSl 1 [(.int .u8 (0))] 2 [(0, (.t 8)), (1, (.t 11))], none, []⟩,
    ⟨(some 5), .mov (.t 12), none, []⟩] false)
  (.seq (.seq (.region 2 [
    ⟨(some 6), .mov (.c (.d (.int .i64 (0)))), none, []⟩] false)
  (.block 0 (.loop mask_ref23_Record_0 body_ref23_Record_0)))
  (.mask ⟨[5], [.slot 5 10000050 1]⟩ (.seq (.region 6 [
    ⟨(some 40), .mov (.t 5), none, []⟩,
    ⟨(some 4), .mov (.t 40), none, []⟩] false)
  (.mask ⟨[4], [.slot 4 10000040 1]⟩ (.ret))))))⟩
def mask_record_Read_0 : Mask := ⟨[2, 4, 5, 12, 13], [.cell 30030 1 23003010 3]⟩
def body_record_Read_0 : ACode :=
  .seq (.region 4 [
    ⟨(some 14), .bin .lss (.t 13) (.t 12), none, []⟩] false)
  (.seq (.cond (.t 14)
    (.skip)
    (.mask ⟨[2, 4, 5], [.cell 30030 1 23003010 3]⟩ (.exit 0)))
  (.mask ⟨[2, 4, 5, 12, 13], [.cell 30030 1 23003010 3]⟩ (.seq (.block 1 (.region 5 [
    ⟨(some 15), .faddr 1 (.t 5), none, []⟩,
    ⟨(some 16), .load 1 false (.t 15), none, [0]⟩,
    ⟨(some 17), .mov (.t 4), none, []⟩,
    ⟨(some 18), .call (.c (.fn F_octet_In_Byte [])) [(.t 17)], none, [2]⟩,
    ⟨(some 19), .mov (.t 4), none, []⟩,
    ⟨(some 20), .call (.c (.fn F_octet_In_Byte [])) [(.t 19)], none, [2, 3, 4]⟩,
    ⟨(some 21), .mov (.t 4), none, []⟩,
    ⟨(some 22), .call (.c (.fn F_octet_In_Byte [])) [(.t 21)], none, [2, 3, 4, 5, 6]⟩,
    ⟨(some 23), .build [(.d (.int .i64 (0))), (.d (.int .i64 (0))), (.d (.int .i64 (0)))] [(0, 1, (.t 18)), (1, 1, (.t 20)), (2, 1, (.t 22))], none, [2, 3, 4, 5, 6, 7]⟩,
    ⟨(some 24), .buildSl 3 [(.int .i64 (0)), (.int .i64 (0)), (.int .i64 (0))] 1 [(0, (.t 23))], none, [2, 3, 4, 5, 6, 7, 8]⟩,
    ⟨(some 25), .append 3 (.t 16) (.t 24), none, [0, 1, 2, 3, 4, 5, 6, 7, 8, 9]⟩,
    ⟨(some 26), .faddr 1 (.t 5), none, [0, 1, 2, 3, 4, 5, 6, 7, 8, 9, 10]⟩,
    ⟨none, .store 1 (.t 26) (.t 25), none, [0, 1, 2, 3, 4, 5, 6, 7, 8, 9, 10, 11]⟩] true))
  (.mask ⟨[2, 4, 5, 12, 13], [.cell 30030 1 23003010 3]⟩ (.region 6 [
    ⟨(some 27), .bin .add (.t 13) (.c (.d (.int .i64 (1)))), none, []⟩,
    ⟨(some 13), .mov (.t 27), none, []⟩] false)))))
/-- beadle/record.Read -/
def code_record_Read : AFunc := ⟨43, [.cell 2 2 true, .tmp 3],
  .seq (.region 0 [
    ⟨(some 2), .box 2 (.c (.agg [(.d (.int .i64 (0))), (.d (.vs true []))])), none, []⟩,
    ⟨(some 3), .mov (.c (.d (.int .i64 (0)))), none, []⟩] false)
  (.seq (.region 1 [
    ⟨(some 6), .mov (.t 0), none, []⟩,
    ⟨(some 7), .call (.c (.fn F_octet_Open [])) [(.t 6)], none, []⟩,
    ⟨(some 4), .mov (.t 7), none, []⟩] false)
  (.seq (.region 2 [
    ⟨(some 8), .mov (.t 4), none, []⟩,
    ⟨(some 9), .call (.c (.fn F_octet_In_Byte [])) [(.t 8)], none, []⟩,
    ⟨(some 10), .build [(.d (.int .i64 (0))), (.d (.vs true []))] [(0, 1, (.t 9))], none, []⟩,
    ⟨(some 5), .box 2 (.c (.agg [(.d (.int .i64 (0))), (.d (.vs true []))])), none, []⟩,
    ⟨none, .store 2 (.t 5) (.t 10), none, []⟩] false)
  (.seq (.seq (.region 3 [
    ⟨(some 11), .mov (.t 4), none, []⟩,
    ⟨(some 12), .call (.c (.fn F_octet_In_Byte [])) [(.t 11)], none, []⟩,
    ⟨(some 13), .mov (.c (.d (.int .i64 (0)))), none, []⟩] false)
  (.block 0 (.loop mask_record_Read_0 body_record_Read_0)))
  (.mask ⟨[2, 4, 5], [.cell 30030 1 23003010 3]⟩ (.seq (.seq (.region 7 [
    ⟨(some 28), .mov (.t 4), none, []⟩,
    ⟨(some 29), .call (.c (.fn F_octet_In_Err [])) [(.t 28)], none, []⟩,
    ⟨(some 30), .bin .neq (.t 29) (.c (.d (.int .i64 (0)))), none, []⟩,
    ⟨(some 31), .mov (.t 30), none, []⟩,
    ⟨(some 32), .mov (.t 4), (some (31, false)), []⟩,
    ⟨(some 33), .call (.c (.fn F_octet_In_Left [])) [(.t 32)], (some (31, false)), []⟩,
    ⟨(some 34), .bin .gtr (.t 33) (.c (.d (.int .i64 (0)))), (some (31, false)), []⟩,
    ⟨(some 35), .pick (.t 31) (.c (.d (.bool true))) (.t 34), none, []⟩,
    ⟨(some 36), .mov (.t 35), none, []⟩,
    ⟨(some 37), .load 2 true (.t 5), (some (36, false)), []⟩,
    ⟨(some 38), .call (.c (.fn F_record_Check [])) [(.t 37)], (some (36, false)), []⟩,
    ⟨(some 39), .bin .neq (.t 38) (.c (.d (.int .i64 (0)))), (some (36, false)), []⟩,
    ⟨(some 40), .pick (.t 36) (.c (.d (.bool true))) (.t 39), none, []⟩] false)
  (.mask ⟨[2, 5, 40], [.cell 30030 1 23003010 3]⟩ (.cond (.t 40)
    (.seq (.region 8 [
      ⟨(some 41), .build [(.d (.int .i64 (0))), (.d (.vs true []))] [], none, []⟩,
      ⟨none, .store 2 (.t 2) (.t 41), none, []⟩,
      ⟨(some 3), .mov (.c (.d (.int .i64 (16)))), none, []⟩] false)
    (.mask ⟨[2, 3], [.cell 30030 1 23003010 3]⟩ (.ret)))
    (.skip))))
  (.mask ⟨[2, 5], [.cell 30030 1 23003010 3]⟩ (.seq (.region 9 [
    ⟨(some 42), .load 2 true (.t 5), none, []⟩,
    ⟨none, .store 2 (.t 2) (.t 42), none, []⟩,
    ⟨(some 3), .mov (.c (.d (.int .i64 (0)))), none, []⟩] false)
  (.mask ⟨[2, 3], [.cell 30030 1 23003010 3]⟩ (.ret)))))))))⟩
def mask_ref23_Verdicts_0 : Mask := ⟨[0, 5, 6], [.slot 5 10000050 3]⟩
def body_ref23_Verdicts_0 : ACode :=
  .seq (.seq (.region 5 [
    ⟨(some 21), .mov (.t 6), none, []⟩,
    ⟨(some 22), .mov (.t 0), none, []⟩,
    ⟨(some 23), .len .sl (.t 22), none, []⟩,
    ⟨(some 24), .bin .lss (.t 21) (.t 23), none, []⟩] false)
  (.cond (.t 24)
    (.skip)
    (.mask ⟨[0, 5], [.slot 5 10000050 3]⟩ (.exit 0))))
  (.mask ⟨[0, 5, 6], [.slot 5 10000050 3]⟩ (.seq (.block 1 (.region 7 [
    ⟨(some 27), .mov (.t 5), none, []⟩,
    ⟨(some 28), .mov (.t 0), none, []⟩,
    ⟨(some 29), .mov (.t 6), none, []⟩,
    ⟨(some 30), .iaddr 1 (.t 28) (.t 29), none, [1, 2]⟩,
    ⟨(some 31), .load 1 false (.t 30), none, [1, 2, 3]⟩,
    ⟨(some 32), .toInt .i64 (.t 31), none, [1, 2, 3, 4]⟩,
    ⟨(some 33), .mov (.t 0), none, []⟩,
    ⟨(some 34), .mov (.t 6), none, []⟩,
    ⟨(some 35), .bin .add (.t 34) (.c (.d (.int .i64 (1)))), none, [7]⟩,
    ⟨(some 36), .iaddr 1 (.t 33) (.t 35), none, [6, 7, 8]⟩,
    ⟨(some 37), .load 1 false (.t 36), none, [6, 7, 8, 9]⟩,
    ⟨(some 38), .toInt .i64 (.t 37), none, [6, 7, 8, 9, 10]⟩,
    ⟨(some 39), .mov (.t 0), none, []⟩,
    ⟨(some 40), .mov (.t 6), none, []⟩,
    ⟨(some 41), .bin .add (.t 40) (.c (.d (.int .i64 (2)))), none, [13]⟩,
    ⟨(some 42), .iaddr 1 (.t 39) (.t 41), none, [12, 13, 14]⟩,
    ⟨(some 43), .load 1 false (.t 42), none, [12, 13, 14, 15]⟩,
    ⟨(some 44), .toInt .i64 (.t 43), none, [12, 13, 14, 15, 16]⟩,
    ⟨(some 45), .build [(.d (.int .i64 (0))), (.d (.int .i64 (0))), (.d (.int .i64 (0)))] [(0, 1, (.t 32)), (1, 1, (.t 38)), (2, 1, (.t 44))], none, [1, 2, 3, 4, 5, 6, 7, 8, 9, 10, 11, 12, 13, 14, 15, 16, 17]⟩,
    ⟨(some 46), .buildSl 3 [(.int .i64 (0)), (.int .i64 (0)), (.int .i64 (0))] 1 [(0, (.t 45))], none, [1, 2, 3, 4, 5, 6, 7, 8, 9, 10, 11, 12, 13, 14, 15, 16, 17, 18]⟩,
    ⟨(some 47), .append 3 (.t 27) (.t 46), none, [0, 1, 2, 3, 4, 5, 6, 7, 8, 9, 10, 11, 12, 13, 14, 15, 16, 17, 18, 19]⟩,
    ⟨(some 5), .mov (.t 47), none, [0, 1, 2, 3, 4, 5, 6, 7, 8, 9, 10, 11, 12, 13, 14, 15, 16, 17, 18, 19, 20]⟩] true))
  (.mask ⟨[0, 5, 6], [.slot 5 10000050 3]⟩ (.region 6 [
    ⟨(some 25), .mov (.t 6), none, []⟩,
    ⟨(some 26), .bin .add (.t 25) (.c (.d (.int .i64 (3)))), none, []⟩,
    ⟨(some 6), .mov (.t 26), none, []⟩] false))))
/-- beadle/beadleref23.Verdicts -/
def code_ref23_Verdicts : AFunc := ⟨60, [.tmp 2, .tmp 3, .tmp 4],
  .seq (.region 0 [
    ⟨(some 2), .mov (.c (.d (.int .i64 (0)))), none, []⟩,
    ⟨(some 3), .mov (.c (.d (.vs true []))), none, []⟩,
    ⟨(some 4), .mov (.c (.d (.bool false))), none, []⟩] false)
  (.seq (.seq (.region 1 [
    ⟨(some 7), .mov (.t 0), none, []⟩,
    ⟨(some 8), .len .sl (.t 7), none, []⟩,
    ⟨(some 9), .bin .lss (.t 8) (.c (.d (.int .i64 (2)))), none, []⟩,
    ⟨(some 10), .mov (.t 9), none, []⟩,
    ⟨(some 11), .mov (.t 0), (some (10, false)), []⟩,
    ⟨(some 12), .len .sl (.t 11), (some (10, false)), []⟩,
    ⟨(some 13), .mov (.t 0), (some (10, false)), []⟩,
    ⟨(some 14), .iaddr 1 (.t 13) (.c (.d (.int .i64 (1)))), (some (10, false)), []⟩,
    ⟨(some 15), .load 1 false (.t 14), (some (10, false)), []⟩,
    ⟨(some 16), .toInt .i64 (.t 15), (some (10, false)), []⟩,
    ⟨(some 17), .bin .mul (.c (.d (.int .i64 (3)))) (.t 16), (some (10, false)), []⟩,
    ⟨(some 18), .bin .add (.c (.d (.int .i64 (2)))) (.t 17), (some (10, false)), []⟩,
    ⟨(some 19), .bin .neq (.t 12) (.t 18), (some (10, false)), []⟩,
    ⟨(some 20), .pick (.t 10) (.c (.d (.bool true))) (.t 19), none, []⟩] false)
  (.mask ⟨[0, 20], []⟩ (.cond (.t 20)
    (.seq (.region 2 [
      ⟨(some 2), .mov (.c (.d (.int .i64 (0)))), none, []⟩,
      ⟨(some 3), .mov (.c (.d (.vs true []))), none, []⟩,
      ⟨(some 4), .mov (.c (.d (.bool false))), none, []⟩] false)
    (.mask ⟨[2, 3, 4], [.slot 3 10000030 3]⟩ (.ret)))
    (.skip))))
  (.mask ⟨[0], []⟩ (.seq (.region 3 [
    ⟨(some 5), .mov (.c (.d (.vs true []))), none, []⟩] false)
  (.seq (.seq (.region 4 [
    ⟨(some 6), .mov (.c (.d (.int .i64 (2)))), none, []⟩] false)
  (.block 0 (.loop mask_ref23_Verdicts_0 body_ref23_Verdicts_0)))
  (.mask ⟨[0, 5], [.slot 5 10000050 3]⟩ (.seq (.seq (.region 8 [
    ⟨(some 48), .mov (.t 0), none, []⟩,
    ⟨(some 49), .iaddr 1 (.t 48) (.c (.d (.int .i64 (0)))), none, []⟩,
    ⟨(some 50), .load 1 false (.t 49), none, []⟩,
    ⟨(some 51), .toInt .i64 (.t 50), none, []⟩,
    ⟨(some 52), .mov (.t 5), none, []⟩,
    ⟨(some 53), .call (.c (.fn F_ref23_May [])) [(.t 51), (.t 52)], none, []⟩,
    ⟨(some 54), .bin .neq (.t 53) (.c (.d (.int .i64 (0)))), none, []⟩] false)
  (.cond (.t 54)
    (.seq (.region 9 [
      ⟨(some 2), .mov (.c (.d (.int .i64 (0)))), none, []⟩,
      ⟨(some 3), .mov (.c (.d (.vs true []))), none, []⟩,
      ⟨(some 4), .mov (.c (.d (.bool false))), none, []⟩] false)
    (.mask ⟨[2, 3, 4], [.slot 3 10000030 3]⟩ (.ret)))
    (.skip)))
  (.mask ⟨[0, 5], [.slot 5 10000050 3]⟩ (.seq (.region 10 [
    ⟨(some 55), .mov (.t 0), none, []⟩,
    ⟨(some 56), .iaddr 1 (.t 55) (.c (.d (.int .i64 (0)))), none, []⟩,
    ⟨(some 57), .load 1 false (.t 56), none, []⟩,
    ⟨(some 58), .toInt .i64 (.t 57), none, []⟩,
    ⟨(some 59), .mov (.t 5), none, []⟩,
    ⟨(some 2), .mov (.t 58), none, []⟩,
    ⟨(some 3), .mov (.t 59), none, []⟩,
    ⟨(some 4), .mov (.c (.d (.bool true))), none, []⟩] false)
  (.mask ⟨[2, 3, 4], [.slot 3 10000030 3]⟩ (.ret))))))))))⟩
def mask_plain_Verdicts_0 : Mask := ⟨[0, 1, 5], []⟩
def body_plain_Verdicts_0 : ACode :=
  .seq (.seq (.region 4 [
    ⟨(some 11), .mov (.t 5), none, []⟩,
    ⟨(some 12), .mov (.t 0), none, []⟩,
    ⟨(some 13), .len .sl (.t 12), none, []⟩,
    ⟨(some 14), .bin .lss (.t 11) (.t 13), none, []⟩] false)
  (.cond (.t 14)
    (.skip)
    (.mask ⟨[], []⟩ (.exit 0))))
  (.mask ⟨[0, 1, 5], []⟩ (.seq (.block 1 (.seq (.region 6 [
    ⟨(some 17), .mov (.t 0), none, []⟩,
    ⟨(some 18), .mov (.t 5), none, []⟩,
    ⟨(some 19), .iaddr 3 (.t 17) (.t 18), none, [0, 1]⟩,
    ⟨(some 20), .load 3 true (.t 19), none, [0, 1, 2]⟩,
    ⟨(some 21), .mov (.t 1), none, []⟩,
    ⟨(some 22), .mov (.t 5), none, []⟩,
    ⟨(some 23), .iaddr 3 (.t 21) (.t 22), none, [4, 5]⟩,
    ⟨(some 24), .load 3 true (.t 23), none, [4, 5, 6]⟩,
    ⟨(some 25), .eqagg [.int .i64, .int .i64, .int .i64] true (.t 20) (.t 24), none, [0, 1, 2, 3, 4, 5, 6, 7]⟩] true)
  (.cond (.t 25)
    (.seq (.region 7 [
      ⟨(some 4), .mov (.c (.d (.bool false))), none, []⟩] false)
    (.mask ⟨[4], []⟩ (.ret)))
    (.skip))))
  (.mask ⟨[0, 1, 5], []⟩ (.region 5 [
    ⟨(some 15), .mov (.t 5), none, []⟩,
    ⟨(some 16), .bin .add (.t 15) (.c (.d (.int .i64 (1)))), none, []⟩,
    ⟨(some 5), .mov (.t 16), none, []⟩] false))))
/-- beadle/beadleplain.Verdicts -/
def code_plain_Verdicts : AFunc := ⟨26, [.tmp 4],
  .seq (.region 0 [
    ⟨(some 4), .mov (.c (.d (.bool false))), none, []⟩] false)
  (.seq (.seq (.region 1 [
    ⟨(some 6), .mov (.t 0), none, []⟩,
    ⟨(some 7), .len .sl (.t 6), none, []⟩,
    ⟨(some 8), .mov (.t 1), none, []⟩,
    ⟨(some 9), .len .sl (.t 8), none, []⟩,
    ⟨(some 10), .bin .neq (.t 7) (.t 9), none, []⟩] false)
  (.cond (.t 10)
    (.seq (.region 2 [
      ⟨(some 4), .mov (.c (.d (.bool false))), none, []⟩] false)
    (.mask ⟨[4], []⟩ (.ret)))
    (.skip)))
  (.mask ⟨[0, 1], []⟩ (.seq (.seq (.region 3 [
    ⟨(some 5), .mov (.c (.d (.int .i64 (0)))), none, []⟩] false)
  (.block 0 (.loop mask_plain_Verdicts_0 body_plain_Verdicts_0)))
  (.mask ⟨[], []⟩ (.seq (.region 8 [
    ⟨(some 4), .mov (.c (.d (.bool true))), none, []⟩] false)
  (.mask ⟨[4], []⟩ (.ret)))))))⟩
/-- beadle/record.Of -/
def code_record_Of : AFunc := ⟨10, [.tmp 4],
  .seq (.region 0 [
    ⟨(some 2), .box 2 (.t 0), none, []⟩,
    ⟨(some 3), .box 1 (.t 1), none, []⟩,
    ⟨(some 4), .mov (.c (.d (.vs true []))), none, []⟩] false)
  (.seq (.region 1 [
    ⟨(some 5), .faddr 1 (.t 2), none, []⟩,
    ⟨(some 6), .load 1 false (.t 5), none, []⟩,
    ⟨(some 7), .call (.c (.fn F_slices_Clone_api_Verdict_api_Verdict [])) [(.t 6)], none, []⟩,
    ⟨(some 8), .mkfn F_record_Of_1 [(.t 3)], none, []⟩,
    ⟨(some 9), .call (.c (.fn F_slices_DeleteFunc_api_Verdict_api_Verdict [])) [(.t 7), (.t 8)], none, []⟩,
    ⟨(some 4), .mov (.t 9), none, []⟩] false)
  (.mask ⟨[4], []⟩ (.ret)))⟩
/-- beadle/beadlelaw24.one -/
def code_law24_one : AFunc := ⟨4, [.cell 0 2 true],
  .seq (.region 0 [
    ⟨(some 0), .box 2 (.c (.agg [(.d (.int .i64 (0))), (.d (.vs true []))])), none, []⟩] false)
  (.seq (.region 1 [
    ⟨(some 1), .build [(.d (.int .i64 (0))), (.d (.int .i64 (0))), (.d (.int .i64 (0)))] [(0, 1, (.c (.d (.int .i64 (3))))), (1, 1, (.c (.d (.int .i64 (1))))), (2, 1, (.c (.d (.int .i64 (0)))))], none, []⟩,
    ⟨(some 2), .buildSl 3 [(.int .i64 (0)), (.int .i64 (0)), (.int .i64 (0))] 1 [(0, (.t 1))], none, []⟩,
    ⟨(some 3), .build [(.d (.int .i64 (0))), (.d (.vs true []))] [(0, 1, (.c (.d (.int .i64 (0))))), (1, 1, (.t 2))], none, []⟩,
    ⟨none, .store 2 (.t 0) (.t 3), none, []⟩] false)
  (.mask ⟨[0], []⟩ (.ret)))⟩
/-- (*beadle/octet.Out).Byte -/
def code_octet_Out_Byte : AFunc := ⟨26, [],
  .seq (.region 0 [
    ⟨(some 4), .mov (.c (.d (.int .i64 (0)))), none, []⟩] false)
  (.seq (.seq (.region 1 [
    ⟨(some 5), .mov (.t 1), none, []⟩,
    ⟨(some 6), .bin .lss (.t 5) (.c (.d (.int .i64 (0)))), none, []⟩,
    ⟨(some 7), .mov (.t 6), none, []⟩,
    ⟨(some 8), .mov (.t 1), (some (7, false)), []⟩,
    ⟨(some 9), .bin .gtr (.t 8) (.c (.d (.int .i64 (255)))), (some (7, false)), []⟩,
    ⟨(some 10), .pick (.t 7) (.c (.d (.bool true))) (.t 9), none, []⟩] false)
  (.mask ⟨[0, 1, 4, 10], []⟩ (.cond (.t 10)
    (.region 2 [
      ⟨(some 4), .mov (.c (.d (.int .i64 (4)))), none, []⟩] false)
    (.skip))))
  (.mask ⟨[0, 1, 4], []⟩ (.seq (.region 3 [
    ⟨(some 11), .mov (.t 0), none, []⟩,
    ⟨(some 12), .mov (.t 4), none, []⟩,
    ⟨(some 13), .call (.c (.fn F_octet_Out_fail [])) [(.t 11), (.t 12)], none, []⟩,
    ⟨(some 14), .un .not (.t 13), none, []⟩] false)
  (.cond (.t 14)
    (.region 4 [
      ⟨(some 15), .mov (.t 0), none, []⟩,
      ⟨(some 16), .mov (.t 0), none, []⟩,
      ⟨(some 17), .nilchk (.t 16), none, []⟩,
      ⟨(some 18), .faddr 0 (.t 17), none, []⟩,
      ⟨(some 19), .load 1 false (.t 18), none, []⟩,
      ⟨(some 20), .mov (.t 1), none, []⟩,
      ⟨(some 21), .toInt .u8 (.t 20), none, []⟩,
      ⟨(some 22), .buildSl 1 [(.int .u8 (0))] 1 [(0, (.t 21))], none, []⟩,
      ⟨(some 23), .append 1 (.t 19) (.t 22), none, []⟩,
      ⟨(some 24), .nilchk (.t 15), none, []⟩,
      ⟨(some 25), .faddr 0 (.t 24), none, []⟩,
      ⟨none, .store 1 (.t 25) (.t 23), none, []⟩] false)
    (.skip)))))⟩
/-- (*beadle/octet.Out).Done -/
def code_octet_Out_Done : AFunc := ⟨23, [.tmp 2, .tmp 3],
  .seq (.region 0 [
    ⟨(some 2), .mov (.c (.d (.vs true []))), none, []⟩,
    ⟨(some 3), .mov (.c (.d (.int .i64 (0)))), none, []⟩] false)
  (.seq (.block 0 (.seq (.region 1 [
    ⟨(some 5), .mov (.t 0), none, []⟩,
    ⟨(some 6), .isnil .p false (.t 5), none, []⟩,
    ⟨(some 4), .mov (.t 6), none, []⟩] false)
  (.cond (.t 4)
    (.seq (.region 2 [
      ⟨(some 2), .mov (.c (.d (.vs true []))), none, []⟩,
      ⟨(some 3), .mov (.c (.d (.int .i64 (9)))), none, []⟩] false)
    (.mask ⟨[2, 3], [.slot 2 10000020 1]⟩ (.ret)))
    (.seq (.region 3 [
      ⟨(some 8), .mov (.t 0), none, []⟩,
      ⟨(some 9), .nilchk (.t 8), none, []⟩,
      ⟨(some 10), .faddr 1 (.t 9), none, []⟩,
      ⟨(some 11), .load 1 false (.t 10), none, []⟩,
      ⟨(some 12), .bin .neq (.t 11) (.c (.d (.int .i64 (0)))), none, []⟩,
      ⟨(some 7), .mov (.t 12), none, []⟩] false)
    (.cond (.t 7)
      (.seq (.region 4 [
        ⟨(some 13), .mov (.t 0), none, []⟩,
        ⟨(some 14), .nilchk (.t 13), none, [0]⟩,
        ⟨(some 15), .faddr 1 (.t 14), none, [0, 1]⟩,
        ⟨(some 16), .load 1 false (.t 15), none, [0, 1, 2]⟩,
        ⟨(some 2), .mov (.c (.d (.vs true []))), none, []⟩,
        ⟨(some 3), .mov (.t 16), none, [0, 1, 2, 3, 4]⟩] true)
      (.mask ⟨[2, 3], [.slot 2 10000020 1]⟩ (.ret)))
      (.skip))))))
  (.mask ⟨[0], []⟩ (.seq (.region 5 [
    ⟨(some 17), .buildSl 1 [(.int .u8 (0))] 0 [], none, []⟩,
    ⟨(some 18), .mov (.t 0), none, []⟩,
    ⟨(some 19), .nilchk (.t 18), none, []⟩,
    ⟨(some 20), .faddr 0 (.t 19), none, []⟩,
    ⟨(some 21), .load 1 false (.t 20), none, []⟩,
    ⟨(some 22), .append 1 (.t 17) (.t 21), none, []⟩,
    ⟨(some 2), .mov (.t 22), none, []⟩,
    ⟨(some 3), .mov (.c (.d (.int .i64 (0)))), none, []⟩] false)
  (.mask ⟨[2, 3], [.slot 2 10000020 1]⟩ (.ret)))))⟩
/-- beadle/record.outside -/
def code_record_outside : AFunc := ⟨15, [.tmp 6],
  .seq (.region 0 [
    ⟨(some 6), .mov (.c (.d (.bool false))), none, []⟩] false)
  (.seq (.region 1 [
    ⟨(some 7), .mov (.t 0), none, []⟩,
    ⟨(some 8), .mov (.t 1), none, []⟩,
    ⟨(some 9), .bin .lss (.t 7) (.t 8), none, []⟩,
    ⟨(some 10), .mov (.t 9), none, []⟩,
    ⟨(some 11), .mov (.t 0), (some (10, false)), []⟩,
    ⟨(some 12), .mov (.t 2), (some (10, false)), []⟩,
    ⟨(some 13), .bin .gtr (.t 11) (.t 12), (some (10, false)), []⟩,
    ⟨(some 14), .pick (.t 10) (.c (.d (.bool true))) (.t 13), none, []⟩,
    ⟨(some 6), .mov (.t 14), none, []⟩] false)
  (.mask ⟨[6], []⟩ (.ret)))⟩
/-- slices.ContainsFunc[[]beadle/api.Verdict,beadle/api.Verdict] -/
def code_slices_ContainsFunc_api_Verdict_api_Verdict : AFunc := ⟨9, [.tmp 4],
  .seq (.region 0 [
    ⟨(some 4), .mov (.c (.d (.bool false))), none, []⟩] false)
  (.seq (.region 1 [
    ⟨(some 5), .mov (.t 0), none, []⟩,
    ⟨(some 6), .mov (.t 1), none, []⟩,
    ⟨(some 7), .call (.c (.fn F_slices_IndexFunc_api_Verdict_api_Verdict [])) [(.t 5), (.t 6)], none, []⟩,
    ⟨(some 8), .bin .geq (.t 7) (.c (.d (.int .i64 (0)))), none, []⟩,
    ⟨(some 4), .mov (.t 8), none, []⟩] false)
  (.mask ⟨[4], []⟩ (.ret)))⟩
/-- beadle/record.odd -/
def code_record_odd : AFunc := ⟨16, [.tmp 2],
  .seq (.region 0 [
    ⟨(some 1), .box 3 (.t 0), none, []⟩,
    ⟨(some 2), .mov (.c (.d (.bool false))), none, []⟩] false)
  (.seq (.region 1 [
    ⟨(some 3), .faddr 0 (.t 1), none, []⟩,
    ⟨(some 4), .load 1 false (.t 3), none, []⟩,
    ⟨(some 5), .call (.c (.fn F_record_outside [])) [(.t 4), (.c (.d (.int .i64 (0)))), (.c (.d (.int .i64 (63))))], none, []⟩,
    ⟨(some 6), .mov (.t 5), none, []⟩,
    ⟨(some 7), .faddr 1 (.t 1), (some (6, false)), []⟩,
    ⟨(some 8), .load 1 false (.t 7), (some (6, false)), []⟩,
    ⟨(some 9), .call (.c (.fn F_record_outside [])) [(.t 8), (.c (.d (.int .i64 (1)))), (.c (.d (.int .i64 (5))))], (some (6, false)), []⟩,
    ⟨(some 10), .pick (.t 6) (.c (.d (.bool true))) (.t 9), none, []⟩,
    ⟨(some 11), .mov (.t 10), none, []⟩,
    ⟨(some 12), .faddr 2 (.t 1), (some (11, false)), []⟩,
    ⟨(some 13), .load 1 false (.t 12), (some (11, false)), []⟩,
    ⟨(some 14), .call (.c (.fn F_record_outside [])) [(.t 13), (.c (.d (.int .i64 (0)))), (.c (.d (.int .i64 (255))))], (some (11, false)), []⟩,
    ⟨(some 15), .pick (.t 11) (.c (.d (.bool true))) (.t 14), none, []⟩,
    ⟨(some 2), .mov (.t 15), none, []⟩] false)
  (.mask ⟨[2], []⟩ (.ret)))⟩
/-- beadle/octet.Open -/
def code_octet_Open : AFunc := ⟨8, [.tmp 2],
  .seq (.region 0 [
    ⟨(some 2), .mov (.c (.d .nilp)), none, []⟩] false)
  (.mask ⟨[0], [.fcell 20040 0]⟩ (.seq (.region 1 [
    ⟨(some 3), .buildSl 1 [(.int .u8 (0))] 0 [], none, []⟩,
    ⟨(some 4), .mov (.t 0), none, []⟩,
    ⟨(some 5), .append 1 (.t 3) (.t 4), none, []⟩,
    ⟨(some 6), .build [(.d (.vs true [])), (.d (.bool false)), (.d (.int .i64 (0)))] [(0, 1, (.t 5)), (1, 1, (.c (.d (.bool true))))], none, []⟩,
    ⟨(some 7), .box 3 (.t 6), none, []⟩,
    ⟨(some 2), .mov (.t 7), none, []⟩] false)
  (.mask ⟨[2], [.fcell 20040 0]⟩ (.ret))))⟩
def mask_octet_In_Byte_0 : Mask := ⟨[6, 7, 8], []⟩
def body_octet_In_Byte_0 : ACode :=
  .seq (.region 2 [
    ⟨(some 9), .bin .lss (.t 8) (.t 7), none, []⟩] false)
  (.seq (.cond (.t 9)
    (.skip)
    (.mask ⟨[], []⟩ (.exit 0)))
  (.mask ⟨[6, 8], []⟩ (.seq (.block 1 (.seq (.region 3 [
    ⟨(some 10), .iaddr 1 (.t 6) (.t 8), none, []⟩,
    ⟨(some 11), .load 1 false (.t 10), none, []⟩,
    ⟨(some 4), .mov (.t 11), none, []⟩] false)
  (.seq (.region 4 [
    ⟨(some 12), .mov (.t 4), none, []⟩,
    ⟨(some 13), .toInt .i64 (.t 12), none, []⟩,
    ⟨(some 2), .mov (.t 13), none, []⟩] false)
  (.mask ⟨[2], []⟩ (.ret)))))
  (.mask ⟨[6, 7, 8], []⟩ (.region 5 [
    ⟨(some 14), .bin .add (.t 8) (.c (.d (.int .i64 (1)))), none, []⟩,
    ⟨(some 8), .mov (.t 14), none, []⟩] false)))))
/-- (*beadle/octet.In).Byte -/
def code_octet_In_Byte : AFunc := ⟨15, [.tmp 2],
  .seq (.region 0 [
    ⟨(some 2), .mov (.c (.d (.int .i64 (0)))), none, []⟩] false)
  (.seq (.seq (.region 1 [
    ⟨(some 5), .mov (.t 0), none, []⟩,
    ⟨(some 6), .call (.c (.fn F_octet_In_take [])) [(.t 5), (.c (.d (.int .i64 (1))))], none, []⟩,
    ⟨(some 7), .len .sl (.t 6), none, []⟩,
    ⟨(some 8), .mov (.c (.d (.int .i64 (0)))), none, []⟩] false)
  (.block 0 (.loop mask_octet_In_Byte_0 body_octet_In_Byte_0)))
  (.mask ⟨[], []⟩ (.seq (.region 6 [
    ⟨(some 2), .mov (.c (.d (.int .i64 (0)))), none, []⟩] false)
  (.mask ⟨[2], []⟩ (.ret)))))⟩
/-- (*beadle/octet.In).Err -/
def code_octet_In_Err : AFunc := ⟨16, [.tmp 2],
  .seq (.region 0 [
    ⟨(some 2), .mov (.c (.d (.int .i64 (0)))), none, []⟩] false)
  (.seq (.seq (.region 1 [
    ⟨(some 3), .mov (.t 0), none, []⟩,
    ⟨(some 4), .isnil .p false (.t 3), none, []⟩,
    ⟨(some 5), .mov (.t 4), none, []⟩,
    ⟨(some 6), .mov (.t 0), (some (5, false)), []⟩,
    ⟨(some 7), .nilchk (.t 6), (some (5, false)), []⟩,
    ⟨(some 8), .faddr 1 (.t 7), (some (5, false)), []⟩,
    ⟨(some 9), .load 1 false (.t 8), (some (5, false)), []⟩,
    ⟨(some 10), .un .not (.t 9), (some (5, false)), []⟩,
    ⟨(some 11), .pick (.t 5) (.c (.d (.bool true))) (.t 10), none, []⟩] false)
  (.mask ⟨[0, 11], []⟩ (.cond (.t 11)
    (.seq (.region 2 [
      ⟨(some 2), .mov (.c (.d (.int .i64 (9)))), none, []⟩] false)
    (.mask ⟨[2], []⟩ (.ret)))
    (.skip))))
  (.mask ⟨[0], []⟩ (.seq (.region 3 [
    ⟨(some 12), .mov (.t 0), none, []⟩,
    ⟨(some 13), .nilchk (.t 12), none, []⟩,
    ⟨(some 14), .faddr 2 (.t 13), none, []⟩,
    ⟨(some 15), .load 1 false (.t 14), none, []⟩,
    ⟨(some 2), .mov (.t 15), none, []⟩] false)
  (.mask ⟨[2], []⟩ (.ret)))))⟩
/-- (*beadle/octet.In).Left -/
def code_octet_In_Left : AFunc := ⟨10, [.tmp 2],
  .seq (.region 0 [
    ⟨(some 2), .mov (.c (.d (.int .i64 (0)))), none, []⟩] false)
  (.seq (.seq (.region 1 [
    ⟨(some 3), .mov (.t 0), none, []⟩,
    ⟨(some 4), .isnil .p false (.t 3), none, []⟩] false)
  (.cond (.t 4)
    (.seq (.region 2 [
      ⟨(some 2), .mov (.c (.d (.int .i64 (0)))), none, []⟩] false)
    (.mask ⟨[2], []⟩ (.ret)))
    (.skip)))
  (.mask ⟨[0], []⟩ (.seq (.region 3 [
    ⟨(some 5), .mov (.t 0), none, []⟩,
    ⟨(some 6), .nilchk (.t 5), none, []⟩,
    ⟨(some 7), .faddr 0 (.t 6), none, []⟩,
    ⟨(some 8), .load 1 false (.t 7), none, []⟩,
    ⟨(some 9), .len .sl (.t 8), none, []⟩,
    ⟨(some 2), .mov (.t 9), none, []⟩] false)
  (.mask ⟨[2], []⟩ (.ret)))))⟩
/-- slices.Clone[[]beadle/api.Verdict,beadle/api.Verdict] -/
def code_slices_Clone_api_Verdict_api_Verdict : AFunc := ⟨8, [.tmp 2],
  .seq (.region 0 [
    ⟨(some 2), .mov (.c (.d (.vs true []))), none, []⟩] false)
  (.guard (.region 1 [
    ⟨(some 3), .mov (.t 0), none, []⟩,
    ⟨(some 4), .isnil .s false (.t 3), none, []⟩] false) (.t 4)
    (.seq (.region 2 [
      ⟨(some 2), .mov (.c (.d (.vs true []))), none, []⟩] false)
    (.mask ⟨[2], [.slot 2 10000020 3]⟩ (.ret)))
  (.mask ⟨[0], []⟩ (.seq (.region 3 [
    ⟨(some 5), .buildSl 3 [(.int .i64 (0)), (.int .i64 (0)), (.int .i64 (0))] 0 [], none, []⟩,
    ⟨(some 6), .mov (.t 0), none, []⟩,
    ⟨(some 7), .append 3 (.t 5) (.t 6), none, []⟩,
    ⟨(some 2), .mov (.t 7), none, []⟩] false)
  (.mask ⟨[2], [.slot 2 10000020 3]⟩ (.ret)))))⟩
/-- beadle/record.Of$1 -/
def code_record_Of_1 : AFunc := ⟨8, [.tmp 3],
  .seq (.region 0 [
    ⟨(some 2), .box 3 (.t 0), none, []⟩,
    ⟨(some 3), .mov (.c (.d (.bool false))), none, []⟩] false)
  (.seq (.region 1 [
    ⟨(some 4), .faddr 0 (.t 2), none, []⟩,
    ⟨(some 5), .load 1 false (.t 4), none, []⟩,
    ⟨(some 6), .load 1 false (.t 1), none, []⟩,
    ⟨(some 7), .bin .neq (.t 5) (.t 6), none, []⟩,
    ⟨(some 3), .mov (.t 7), none, []⟩] false)
  (.mask ⟨[3], []⟩ (.ret)))⟩
def mask_slices_DeleteFunc_api_Verdict_api_Verdict_0 : Mask := ⟨[0, 1, 5, 6], []⟩
def body_slices_DeleteFunc_api_Verdict_api_Verdict_0 : ACode :=
  .seq (.seq (.region 5 [
    ⟨(some 16), .mov (.t 6), none, []⟩,
    ⟨(some 17), .mov (.t 0), none, []⟩,
    ⟨(some 18), .len .sl (.t 17), none, []⟩,
    ⟨(some 19), .bin .lss (.t 16) (.t 18), none, []⟩] false)
  (.cond (.t 19)
    (.skip)
    (.mask ⟨[0, 5], []⟩ (.exit 0))))
  (.mask ⟨[0, 1, 5, 6], []⟩ (.seq (.block 1 (.seq (.region 7 [
    ⟨(some 22), .mov (.t 0), none, []⟩,
    ⟨(some 23), .mov (.t 6), none, []⟩,
    ⟨(some 24), .iaddr 3 (.t 22) (.t 23), none, []⟩,
    ⟨(some 25), .load 3 true (.t 24), none, []⟩,
    ⟨(some 7), .box 3 (.c (.agg [(.d (.int .i64 (0))), (.d (.int .i64 (0))), (.d (.int .i64 (0)))])), none, []⟩,
    ⟨none, .store 3 (.t 7) (.t 25), none, []⟩] false)
  (.seq (.region 8 [
    ⟨(some 26), .mov (.t 1), none, []⟩,
    ⟨(some 27), .load 3 true (.t 7), none, []⟩,
    ⟨(some 28), .call (.t 26) [(.t 27)], none, []⟩,
    ⟨(some 29), .un .not (.t 28), none, []⟩] false)
  (.cond (.t 29)
    (.seq (.region 9 [
      ⟨(some 30), .mov (.t 0), none, []⟩,
      ⟨(some 31), .mov (.t 5), none, []⟩,
      ⟨(some 32), .load 3 true (.t 7), none, []⟩,
      ⟨(some 33), .iaddr 3 (.t 30) (.t 31), none, []⟩,
      ⟨none, .store 3 (.t 33) (.t 32), none, []⟩] false)
    (.region 10 [
      ⟨(some 34), .mov (.t 5), none, []⟩,
      ⟨(some 35), .bin .add (.t 34) (.c (.d (.int .i64 (1)))), none, []⟩,
      ⟨(some 5), .mov (.t 35), none, []⟩] false))
    (.skip)))))
  (.mask ⟨[0, 1, 5, 6], []⟩ (.region 6 [
    ⟨(some 20), .mov (.t 6), none, []⟩,
    ⟨(some 21), .bin .add (.t 20) (.c (.d (.int .i64 (1)))), none, []⟩,
    ⟨(some 6), .mov (.t 21), none, []⟩] false))))
/-- slices.DeleteFunc[[]beadle/api.Verdict,beadle/api.Verdict] -/
def code_slices_DeleteFunc_api_Verdict_api_Verdict : AFunc := ⟨42, [.tmp 4],
  .seq (.region 0 [
    ⟨(some 4), .mov (.c (.d (.vs true []))), none, []⟩] false)
  (.seq (.region 1 [
    ⟨(some 8), .mov (.t 0), none, []⟩,
    ⟨(some 9), .mov (.t 1), none, []⟩,
    ⟨(some 10), .call (.c (.fn F_slices_IndexFunc_api_Verdict_api_Verdict [])) [(.t 8), (.t 9)], none, []⟩,
    ⟨(some 5), .mov (.t 10), none, []⟩] false)
  (.seq (.seq (.region 2 [
    ⟨(some 11), .mov (.t 5), none, []⟩,
    ⟨(some 12), .bin .eql (.t 11) (.c (.d (.int .i64 (-1)))), none, []⟩] false)
  (.cond (.t 12)
    (.seq (.region 3 [
      ⟨(some 13), .mov (.t 0), none, []⟩,
      ⟨(some 4), .mov (.t 13), none, []⟩] false)
    (.mask ⟨[4], []⟩ (.ret)))
    (.skip)))
  (.mask ⟨[0, 1, 5], []⟩ (.seq (.seq (.region 4 [
    ⟨(some 14), .mov (.t 5), none, []⟩,
    ⟨(some 15), .bin .add (.t 14) (.c (.d (.int .i64 (1)))), none, []⟩,
    ⟨(some 6), .mov (.t 15), none, []⟩] false)
  (.block 0 (.loop mask_slices_DeleteFunc_api_Verdict_api_Verdict_0 body_slices_DeleteFunc_api_Verdict_api_Verdict_0)))
  (.mask ⟨[0, 5], []⟩ (.seq (.region 11 [
    ⟨(some 36), .mov (.t 0), none, []⟩,
    ⟨(some 37), .mov (.t 5), none, []⟩,
    ⟨(some 38), .slice 3 (.t 36) (some (.t 37)) none none, none, []⟩,
    ⟨none, .clear [(.int .i64 (0)), (.int .i64 (0)), (.int .i64 (0))] (.t 38), none, []⟩] false)
  (.seq (.region 12 [
    ⟨(some 39), .mov (.t 0), none, []⟩,
    ⟨(some 40), .mov (.t 5), none, []⟩,
    ⟨(some 41), .slice 3 (.t 39) none (some (.t 40)) none, none, []⟩,
    ⟨(some 4), .mov (.t 41), none, []⟩] false)
  (.mask ⟨[4], []⟩ (.ret)))))))))⟩
/-- (*beadle/octet.Out).fail -/
def code_octet_Out_fail : AFunc := ⟨21, [.tmp 4],
  .seq (.region 0 [
    ⟨(some 4), .mov (.c (.d (.bool false))), none, []⟩] false)
  (.seq (.seq (.region 1 [
    ⟨(some 5), .mov (.t 0), none, []⟩,
    ⟨(some 6), .isnil .p false (.t 5), none, []⟩] false)
  (.cond (.t 6)
    (.seq (.region 2 [
      ⟨(some 4), .mov (.c (.d (.bool true))), none, []⟩] false)
    (.mask ⟨[4], []⟩ (.ret)))
    (.skip)))
  (.mask ⟨[0, 1], []⟩ (.seq (.seq (.region 3 [
    ⟨(some 7), .mov (.t 0), none, []⟩,
    ⟨(some 8), .nilchk (.t 7), none, []⟩,
    ⟨(some 9), .faddr 1 (.t 8), none, []⟩,
    ⟨(some 10), .load 1 false (.t 9), none, []⟩,
    ⟨(some 11), .bin .eql (.t 10) (.c (.d (.int .i64 (0)))), none, []⟩] false)
  (.cond (.t 11)
    (.region 4 [
      ⟨(some 12), .mov (.t 0), none, []⟩,
      ⟨(some 13), .mov (.t 1), none, []⟩,
      ⟨(some 14), .nilchk (.t 12), none, []⟩,
      ⟨(some 15), .faddr 1 (.t 14), none, []⟩,
      ⟨none, .store 1 (.t 15) (.t 13), none, []⟩] false)
    (.skip)))
  (.mask ⟨[0], []⟩ (.seq (.region 5 [
    ⟨(some 16), .mov (.t 0), none, []⟩,
    ⟨(some 17), .nilchk (.t 16), none, []⟩,
    ⟨(some 18), .faddr 1 (.t 17), none, []⟩,
    ⟨(some 19), .load 1 false (.t 18), none, []⟩,
    ⟨(some 20), .bin .neq (.t 19) (.c (.d (.int .i64 (0)))), none, []⟩,
    ⟨(some 4), .mov (.t 20), none, []⟩] false)
  (.mask ⟨[4], []⟩ (.ret)))))))⟩
def mask_slices_IndexFunc_api_Verdict_api_Verdict_0 : Mask := ⟨[0, 1, 7, 8], []⟩
def body_slices_IndexFunc_api_Verdict_api_Verdict_0 : ACode :=
  .seq (.region 2 [
    ⟨(some 9), .bin .lss (.t 8) (.t 7), none, []⟩] false)
  (.seq (.cond (.t 9)
    (.skip)
    (.mask ⟨[], []⟩ (.exit 0)))
  (.mask ⟨[0, 1, 7, 8], []⟩ (.seq (.block 1 (.seq (.region 3 [
    ⟨(some 10), .mov (.t 8), none, []⟩,
    ⟨(some 5), .mov (.t 10), none, []⟩] false)
  (.seq (.region 4 [
    ⟨(some 11), .mov (.t 1), none, []⟩,
    ⟨(some 12), .mov (.t 0), none, []⟩,
    ⟨(some 13), .mov (.t 5), none, []⟩,
    ⟨(some 14), .iaddr 3 (.t 12) (.t 13), none, []⟩,
    ⟨(some 15), .load 3 true (.t 14), none, []⟩,
    ⟨(some 16), .call (.t 11) [(.t 15)], none, []⟩] false)
  (.cond (.t 16)
    (.seq (.region 5 [
      ⟨(some 17), .mov (.t 5), none, []⟩,
      ⟨(some 4), .mov (.t 17), none, []⟩] false)
    (.mask ⟨[4], []⟩ (.ret)))
    (.skip)))))
  (.mask ⟨[0, 1, 7, 8], []⟩ (.region 6 [
    ⟨(some 18), .bin .add (.t 8) (.c (.d (.int .i64 (1)))), none, []⟩,
    ⟨(some 8), .mov (.t 18), none, []⟩] false)))))
/-- slices.IndexFunc[[]beadle/api.Verdict,beadle/api.Verdict] -/
def code_slices_IndexFunc_api_Verdict_api_Verdict : AFunc := ⟨19, [.tmp 4],
  .seq (.region 0 [
    ⟨(some 4), .mov (.c (.d (.int .i64 (0)))), none, []⟩] false)
  (.seq (.seq (.region 1 [
    ⟨(some 6), .mov (.t 0), none, []⟩,
    ⟨(some 7), .len .sl (.t 6), none, []⟩,
    ⟨(some 8), .mov (.c (.d (.int .i64 (0)))), none, []⟩] false)
  (.block 0 (.loop mask_slices_IndexFunc_api_Verdict_api_Verdict_0 body_slices_IndexFunc_api_Verdict_api_Verdict_0)))
  (.mask ⟨[], []⟩ (.seq (.region 7 [
    ⟨(some 4), .mov (.c (.d (.int .i64 (-1)))), none, []⟩] false)
  (.mask ⟨[4], []⟩ (.ret)))))⟩
/-- (*beadle/octet.In).take -/
def code_octet_In_take : AFunc := ⟨48, [.tmp 4],
  .seq (.region 0 [
    ⟨(some 4), .mov (.c (.d (.vs true []))), none, []⟩] false)
  (.seq (.seq (.region 1 [
    ⟨(some 6), .mov (.t 0), none, []⟩,
    ⟨(some 7), .isnil .p false (.t 6), none, []⟩,
    ⟨(some 8), .mov (.t 7), none, []⟩,
    ⟨(some 9), .mov (.t 0), (some (8, false)), []⟩,
    ⟨(some 10), .nilchk (.t 9), (some (8, false)), []⟩,
    ⟨(some 11), .faddr 1 (.t 10), (some (8, false)), []⟩,
    ⟨(some 12), .load 1 false (.t 11), (some (8, false)), []⟩,
    ⟨(some 13), .un .not (.t 12), (some (8, false)), []⟩,
    ⟨(some 14), .pick (.t 8) (.c (.d (.bool true))) (.t 13), none, []⟩,
    ⟨(some 15), .mov (.t 14), none, []⟩,
    ⟨(some 16), .mov (.t 0), (some (15, false)), []⟩,
    ⟨(some 17), .nilchk (.t 16), (some (15, false)), []⟩,
    ⟨(some 18), .faddr 2 (.t 17), (some (15, false)), []⟩,
    ⟨(some 19), .load 1 false (.t 18), (some (15, false)), []⟩,
    ⟨(some 20), .bin .neq (.t 19) (.c (.d (.int .i64 (0)))), (some (15, false)), []⟩,
    ⟨(some 21), .pick (.t 15) (.c (.d (.bool true))) (.t 20), none, []⟩] false)
  (.mask ⟨[0, 1, 21], []⟩ (.cond (.t 21)
    (.seq (.region 2 [
      ⟨(some 4), .mov (.c (.d (.vs true []))), none, []⟩] false)
    (.mask ⟨[4], []⟩ (.ret)))
    (.skip))))
  (.mask ⟨[0, 1], []⟩ (.seq (.seq (.region 3 [
    ⟨(some 22), .mov (.t 1), none, []⟩,
    ⟨(some 23), .mov (.t 0), none, []⟩,
    ⟨(some 24), .nilchk (.t 23), none, []⟩,
    ⟨(some 25), .faddr 0 (.t 24), none, []⟩,
    ⟨(some 26), .load 1 false (.t 25), none, []⟩,
    ⟨(some 27), .len .sl (.t 26), none, []⟩,
    ⟨(some 28), .bin .gtr (.t 22) (.t 27), none, []⟩] false)
  (.cond (.t 28)
    (.seq (.region 4 [
      ⟨(some 29), .mov (.t 0), none, []⟩,
      ⟨(some 30), .call (.c (.fn F_octet_In_bad [])) [(.t 29)], none, []⟩] false)
    (.seq (.region 5 [
      ⟨(some 4), .mov (.c (.d (.vs true []))), none, []⟩] false)
    (.mask ⟨[4], []⟩ (.ret))))
    (.skip)))
  (.mask ⟨[0, 1], []⟩ (.seq (.region 6 [
    ⟨(some 31), .mov (.t 0), none, []⟩,
    ⟨(some 32), .nilchk (.t 31), none, []⟩,
    ⟨(some 33), .faddr 0 (.t 32), none, []⟩,
    ⟨(some 34), .load 1 false (.t 33), none, []⟩,
    ⟨(some 35), .mov (.t 1), none, []⟩,
    ⟨(some 36), .mov (.t 1), none, []⟩,
    ⟨(some 37), .slice 1 (.t 34) none (some (.t 35)) (some (.t 36)), none, []⟩,
    ⟨(some 5), .mov (.t 37), none, []⟩] false)
  (.seq (.region 7 [
    ⟨(some 38), .mov (.t 0), none, []⟩,
    ⟨(some 39), .mov (.t 0), none, []⟩,
    ⟨(some 40), .nilchk (.t 39), none, []⟩,
    ⟨(some 41), .faddr 0 (.t 40), none, []⟩,
    ⟨(some 42), .load 1 false (.t 41), none, []⟩,
    ⟨(some 43), .mov (.t 1), none, []⟩,
    ⟨(some 44), .slice 1 (.t 42) (some (.t 43)) none none, none, []⟩,
    ⟨(some 45), .nilchk (.t 38), none, []⟩,
    ⟨(some 46), .faddr 0 (.t 45), none, []⟩,
    ⟨none, .store 1 (.t 46) (.t 44), none, []⟩] false)
  (.seq (.region 8 [
    ⟨(some 47), .mov (.t 5), none, []⟩,
    ⟨(some 4), .mov (.t 47), none, []⟩] false)
  (.mask ⟨[4], []⟩ (.ret)))))))))⟩
/-- (*beadle/octet.In).bad -/
def code_octet_In_bad : AFunc := ⟨8, [],
  .region 0 [
    ⟨(some 2), .mov (.t 0), none, []⟩,
    ⟨(some 3), .mov (.t 0), none, []⟩,
    ⟨(some 4), .nilchk (.t 2), none, []⟩,
    ⟨(some 5), .faddr 0 (.t 4), none, []⟩,
    ⟨none, .store 1 (.t 5) (.c (.d (.vs true []))), none, []⟩,
    ⟨(some 6), .nilchk (.t 3), none, []⟩,
    ⟨(some 7), .faddr 2 (.t 6), none, []⟩,
    ⟨none, .store 1 (.t 7) (.c (.d (.int .i64 (16)))), none, []⟩] false⟩
def codeL : List (Nat × AFunc) := [(F_law24_RecordWrites, code_law24_RecordWrites),
  (F_law24_RecordReads, code_law24_RecordReads),
  (F_law24_RecordBack, code_law24_RecordBack),
  (F_law24_RecordOf, code_law24_RecordOf),
  (F_law24_alive, code_law24_alive),
  (F_record_Put, code_record_Put),
  (F_ref23_May, code_ref23_May),
  (F_record_Check, code_record_Check),
  (F_ref23_Record, code_ref23_Record),
  (F_record_Read, code_record_Read),
  (F_ref23_Verdicts, code_ref23_Verdicts),
  (F_plain_Verdicts, code_plain_Verdicts),
  (F_record_Of, code_record_Of),
  (F_law24_one, code_law24_one),
  (F_octet_Out_Byte, code_octet_Out_Byte),
  (F_octet_Out_Done, code_octet_Out_Done),
  (F_record_outside, code_record_outside),
  (F_slices_ContainsFunc_api_Verdict_api_Verdict, code_slices_ContainsFunc_api_Verdict_api_Verdict),
  (F_record_odd, code_record_odd),
  (F_octet_Open, code_octet_Open),
  (F_octet_In_Byte, code_octet_In_Byte),
  (F_octet_In_Err, code_octet_In_Err),
  (F_octet_In_Left, code_octet_In_Left),
  (F_slices_Clone_api_Verdict_api_Verdict, code_slices_Clone_api_Verdict_api_Verdict),
  (F_record_Of_1, code_record_Of_1),
  (F_slices_DeleteFunc_api_Verdict_api_Verdict, code_slices_DeleteFunc_api_Verdict_api_Verdict),
  (F_octet_Out_fail, code_octet_Out_fail),
  (F_slices_IndexFunc_api_Verdict_api_Verdict, code_slices_IndexFunc_api_Verdict_api_Verdict),
  (F_octet_In_take, code_octet_In_take),
  (F_octet_In_bad, code_octet_In_bad)]
def code : Nat → Option AFunc := tableAt codeL
theorem at_law24_RecordWrites : code F_law24_RecordWrites = some code_law24_RecordWrites := by kernel_rfl
theorem at_law24_RecordReads : code F_law24_RecordReads = some code_law24_RecordReads := by kernel_rfl
theorem at_law24_RecordBack : code F_law24_RecordBack = some code_law24_RecordBack := by kernel_rfl
theorem at_law24_RecordOf : code F_law24_RecordOf = some code_law24_RecordOf := by kernel_rfl
theorem at_law24_alive : code F_law24_alive = some code_law24_alive := by kernel_rfl
theorem at_record_Put : code F_record_Put = some code_record_Put := by kernel_rfl
theorem at_ref23_May : code F_ref23_May = some code_ref23_May := by kernel_rfl
theorem at_record_Check : code F_record_Check = some code_record_Check := by kernel_rfl
theorem at_ref23_Record : code F_ref23_Record = some code_ref23_Record := by kernel_rfl
theorem at_record_Read : code F_record_Read = some code_record_Read := by kernel_rfl
theorem at_ref23_Verdicts : code F_ref23_Verdicts = some code_ref23_Verdicts := by kernel_rfl
theorem at_plain_Verdicts : code F_plain_Verdicts = some code_plain_Verdicts := by kernel_rfl
theorem at_record_Of : code F_record_Of = some code_record_Of := by kernel_rfl
theorem at_law24_one : code F_law24_one = some code_law24_one := by kernel_rfl
theorem at_octet_Out_Byte : code F_octet_Out_Byte = some code_octet_Out_Byte := by kernel_rfl
theorem at_octet_Out_Done : code F_octet_Out_Done = some code_octet_Out_Done := by kernel_rfl
theorem at_record_outside : code F_record_outside = some code_record_outside := by kernel_rfl
theorem at_slices_ContainsFunc_api_Verdict_api_Verdict : code F_slices_ContainsFunc_api_Verdict_api_Verdict = some code_slices_ContainsFunc_api_Verdict_api_Verdict := by kernel_rfl
theorem at_record_odd : code F_record_odd = some code_record_odd := by kernel_rfl
theorem at_octet_Open : code F_octet_Open = some code_octet_Open := by kernel_rfl
theorem at_octet_In_Byte : code F_octet_In_Byte = some code_octet_In_Byte := by kernel_rfl
theorem at_octet_In_Err : code F_octet_In_Err = some code_octet_In_Err := by kernel_rfl
theorem at_octet_In_Left : code F_octet_In_Left = some code_octet_In_Left := by kernel_rfl
theorem at_slices_Clone_api_Verdict_api_Verdict : code F_slices_Clone_api_Verdict_api_Verdict = some code_slices_Clone_api_Verdict_api_Verdict := by kernel_rfl
theorem at_record_Of_1 : code F_record_Of_1 = some code_record_Of_1 := by kernel_rfl
theorem at_slices_DeleteFunc_api_Verdict_api_Verdict : code F_slices_DeleteFunc_api_Verdict_api_Verdict = some code_slices_DeleteFunc_api_Verdict_api_Verdict := by kernel_rfl
theorem at_octet_Out_fail : code F_octet_Out_fail = some code_octet_Out_fail := by kernel_rfl
theorem at_slices_IndexFunc_api_Verdict_api_Verdict : code F_slices_IndexFunc_api_Verdict_api_Verdict = some code_slices_IndexFunc_api_Verdict_api_Verdict := by kernel_rfl
theorem at_octet_In_take : code F_octet_In_take = some code_octet_In_take := by kernel_rfl
theorem at_octet_In_bad : code F_octet_In_bad = some code_octet_In_bad := by kernel_rfl
end Bz.S
