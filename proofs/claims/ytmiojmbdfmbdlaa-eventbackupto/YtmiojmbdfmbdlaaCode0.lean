/- The code of functions, as the clean machine reads it (printed by a program of ours out of the seat's translation). -/
import Derived.Test.YtmiojmbdfmbdlaaBz0
import Derived.KernelRfl
set_option linter.unusedSimpArgs false
set_option linter.unusedVariables false
set_option maxRecDepth 100000
namespace Bz.S
open Go Bz
def F_law23_EventReads : Nat := 3
def F_law23_EventBack : Nat := 4
def F_law23_alive : Nat := 5
def F_event_Read : Nat := 6
def F_ref23_Read : Nat := 7
def F_plain_Event : Nat := 8
def F_event_Put : Nat := 9
def F_ref23_Check : Nat := 10
def F_law23_tick : Nat := 11
def F_event_Check : Nat := 12
def F_octet_Open : Nat := 13
def F_octet_In_Int : Nat := 14
def F_octet_In_Byte : Nat := 15
def F_octet_In_Text : Nat := 16
def F_octet_In_Value : Nat := 17
def F_octet_In_Err : Nat := 18
def F_octet_In_Left : Nat := 19
def F_ref04_Number : Nat := 20
def F_ref04_Byte : Nat := 21
def F_ref04_Words : Nat := 22
def F_ref04_Thing : Nat := 23
def F_ref04_Left : Nat := 24
def F_plain_Value : Nat := 25
def F_octet_Out_Int : Nat := 26
def F_octet_Out_Byte : Nat := 27
def F_octet_Out_Text : Nat := 28
def F_octet_Out_Value : Nat := 29
def F_octet_Out_Done : Nat := 30
def F_ref06_Name : Nat := 31
def F_ref02_Check : Nat := 32
def F_ref23_empty : Nat := 33
def F_event_blank : Nat := 34
def F_event_named : Nat := 35
def F_octet_In_take : Nat := 36
def F_octet_In_body : Nat := 37
def F_value_Check : Nat := 38
def F_octet_In_bad : Nat := 39
def F_ref04_take : Nat := 40
def F_plain_Texts : Nat := 41
def F_octet_Out_fail : Nat := 42
def F_ref06_head : Nat := 43
def F_ref06_tail : Nat := 44
def F_ref02_bad : Nat := 45
def F_value_Same : Nat := 46
def F_lex_Name : Nat := 47
def F_value_long : Nat := 48
def F_slices_ContainsFunc_string_string : Nat := 49
def F_value_odd : Nat := 50
def F_value_Cmp : Nat := 51
def F_lex_letter : Nat := 52
def F_lex_digit : Nat := 53
def F_slices_IndexFunc_string_string : Nat := 54
def F_value_rises : Nat := 55
def F_cmp_Compare_int : Nat := 57
def F_cmp_Compare_int64 : Nat := 58
def F_cmp_Compare_string : Nat := 59
def F_slices_Compare_string_string : Nat := 60
def F_cmp_Or_int : Nat := 56
def F_cmp_isNaN_int : Nat := 61
def F_cmp_isNaN_int64 : Nat := 62
def F_cmp_isNaN_string : Nat := 63
/-- beadle/beadlelaw23.EventReads -/
def code_law23_EventReads : AFunc := ⟨27, [.tmp 2],
  .seq (.region 0 [
    ⟨(some 2), .mov (.c (.d (.bool false))), none, []⟩] false)
  (.seq (.seq (.region 1 [
    ⟨(some 7), .call (.c (.fn F_law23_alive [])) [], none, []⟩,
    ⟨(some 8), .un .not (.t 7), none, []⟩] false)
  (.cond (.t 8)
    (.seq (.region 2 [
      ⟨(some 2), .mov (.c (.d (.bool false))), none, []⟩] false)
    (.mask ⟨[2], []⟩ (.ret)))
    (.skip)))
  (.mask ⟨[0], []⟩ (.seq (.region 3 [
    ⟨(some 10), .mov (.t 0), none, []⟩,
    ⟨(some 11), .call (.c (.fn F_event_Read [])) [(.t 10)], none, []⟩,
    ⟨(some 9), .mov (.t 11), none, []⟩,
    ⟨(some 12), .extract (.t 9) 0, none, []⟩,
    ⟨(some 13), .extract (.t 9) 1, none, []⟩,
    ⟨(some 3), .box 10 (.c (.agg [(.d (.int .i64 (0))), (.d (.int .i64 (0))), (.d (.int .i64 (0))), (.d (.str [])), (.d (.str [])), (.d (.str [])), (.d (.int .i64 (0))), (.d (.int .i64 (0))), (.d (.str [])), (.d (.vs true []))])), none, []⟩,
    ⟨none, .store 10 (.t 3) (.t 12), none, []⟩,
    ⟨(some 4), .mov (.t 13), none, []⟩] false)
  (.seq (.region 4 [
    ⟨(some 15), .mov (.t 0), none, []⟩,
    ⟨(some 16), .call (.c (.fn F_ref23_Read [])) [(.t 15)], none, []⟩,
    ⟨(some 14), .mov (.t 16), none, []⟩,
    ⟨(some 17), .extract (.t 14) 0, none, []⟩,
    ⟨(some 18), .extract (.t 14) 1, none, []⟩,
    ⟨(some 5), .box 10 (.c (.agg [(.d (.int .i64 (0))), (.d (.int .i64 (0))), (.d (.int .i64 (0))), (.d (.str [])), (.d (.str [])), (.d (.str [])), (.d (.int .i64 (0))), (.d (.int .i64 (0))), (.d (.str [])), (.d (.vs true []))])), none, []⟩,
    ⟨none, .store 10 (.t 5) (.t 17), none, []⟩,
    ⟨(some 6), .mov (.t 18), none, []⟩] false)
  (.seq (.region 5 [
    ⟨(some 19), .mov (.t 4), none, []⟩,
    ⟨(some 20), .mov (.t 6), none, []⟩,
    ⟨(some 21), .bin .eql (.t 19) (.t 20), none, []⟩,
    ⟨(some 22), .mov (.t 21), none, []⟩,
    ⟨(some 23), .load 10 true (.t 3), (some (22, true)), []⟩,
    ⟨(some 24), .load 10 true (.t 5), (some (22, true)), []⟩,
    ⟨(some 25), .call (.c (.fn F_plain_Event [])) [(.t 23), (.t 24)], (some (22, true)), []⟩,
    ⟨(some 26), .pick (.t 22) (.t 25) (.c (.d (.bool false))), none, []⟩,
    ⟨(some 2), .mov (.t 26), none, []⟩] false)
  (.mask ⟨[2], []⟩ (.ret)))))))⟩
/-- beadle/beadlelaw23.EventBack -/
def code_law23_EventBack : AFunc := ⟨61, [.tmp 4],
  .seq (.region 0 [
    ⟨(some 2), .box 10 (.t 0), none, []⟩,
    ⟨(some 4), .mov (.c (.d (.bool false))), none, []⟩] false)
  (.seq (.seq (.region 1 [
    ⟨(some 13), .call (.c (.fn F_law23_alive [])) [], none, []⟩,
    ⟨(some 14), .un .not (.t 13), none, []⟩] false)
  (.cond (.t 14)
    (.seq (.region 2 [
      ⟨(some 4), .mov (.c (.d (.bool false))), none, []⟩] false)
    (.mask ⟨[4], []⟩ (.ret)))
    (.skip)))
  (.mask ⟨[1, 2], []⟩ (.seq (.region 3 [
    ⟨(some 16), .load 10 true (.t 2), none, []⟩,
    ⟨(some 17), .call (.c (.fn F_event_Put [])) [(.t 16)], none, []⟩,
    ⟨(some 15), .mov (.t 17), none, []⟩,
    ⟨(some 18), .extract (.t 15) 0, none, []⟩,
    ⟨(some 19), .extract (.t 15) 1, none, []⟩,
    ⟨(some 5), .mov (.t 18), none, []⟩,
    ⟨(some 6), .mov (.t 19), none, []⟩] false)
  (.seq (.seq (.region 4 [
    ⟨(some 20), .load 10 true (.t 2), none, []⟩,
    ⟨(some 21), .call (.c (.fn F_ref23_Check [])) [(.t 20)], none, []⟩,
    ⟨(some 22), .bin .eql (.t 21) (.c (.d (.int .i64 (0)))), none, []⟩] false)
  (.cond (.t 22)
    (.seq (.region 5 [
      ⟨(some 24), .mov (.t 5), none, []⟩,
      ⟨(some 25), .call (.c (.fn F_event_Read [])) [(.t 24)], none, []⟩,
      ⟨(some 23), .mov (.t 25), none, []⟩,
      ⟨(some 26), .extract (.t 23) 0, none, []⟩,
      ⟨(some 27), .extract (.t 23) 1, none, []⟩,
      ⟨(some 7), .box 10 (.c (.agg [(.d (.int .i64 (0))), (.d (.int .i64 (0))), (.d (.int .i64 (0))), (.d (.str [])), (.d (.str [])), (.d (.str [])), (.d (.int .i64 (0))), (.d (.int .i64 (0))), (.d (.str [])), (.d (.vs true []))])), none, []⟩,
      ⟨none, .store 10 (.t 7) (.t 26), none, []⟩,
      ⟨(some 8), .mov (.t 27), none, []⟩] false)
    (.seq (.region 6 [
      ⟨(some 28), .mov (.t 6), none, []⟩,
      ⟨(some 29), .bin .neq (.t 28) (.c (.d (.int .i64 (0)))), none, []⟩,
      ⟨(some 30), .mov (.t 29), none, []⟩,
      ⟨(some 31), .mov (.t 8), (some (30, false)), []⟩,
      ⟨(some 32), .bin .neq (.t 31) (.c (.d (.int .i64 (0)))), (some (30, false)), []⟩,
      ⟨(some 33), .pick (.t 30) (.c (.d (.bool true))) (.t 32), none, []⟩,
      ⟨(some 34), .mov (.t 33), none, []⟩,
      ⟨(some 35), .load 10 true (.t 7), (some (34, false)), []⟩,
      ⟨(some 36), .load 10 true (.t 2), (some (34, false)), []⟩,
      ⟨(some 37), .call (.c (.fn F_plain_Event [])) [(.t 35), (.t 36)], (some (34, false)), []⟩,
      ⟨(some 38), .un .not (.t 37), (some (34, false)), []⟩,
      ⟨(some 39), .pick (.t 34) (.c (.d (.bool true))) (.t 38), none, []⟩] false)
    (.mask ⟨[1, 39], []⟩ (.cond (.t 39)
      (.seq (.region 7 [
        ⟨(some 4), .mov (.c (.d (.bool false))), none, []⟩] false)
      (.mask ⟨[4], []⟩ (.ret)))
      (.skip)))))
    (.skip)))
  (.mask ⟨[1], []⟩ (.seq (.region 8 [
    ⟨(some 41), .mov (.t 1), none, []⟩,
    ⟨(some 42), .call (.c (.fn F_event_Read [])) [(.t 41)], none, []⟩,
    ⟨(some 40), .mov (.t 42), none, []⟩,
    ⟨(some 43), .extract (.t 40) 0, none, []⟩,
    ⟨(some 44), .extract (.t 40) 1, none, []⟩,
    ⟨(some 9), .box 10 (.c (.agg [(.d (.int .i64 (0))), (.d (.int .i64 (0))), (.d (.int .i64 (0))), (.d (.str [])), (.d (.str [])), (.d (.str [])), (.d (.int .i64 (0))), (.d (.int .i64 (0))), (.d (.str [])), (.d (.vs true []))])), none, []⟩,
    ⟨none, .store 10 (.t 9) (.t 43), none, []⟩,
    ⟨(some 10), .mov (.t 44), none, []⟩] false)
  (.seq (.seq (.region 9 [
    ⟨(some 45), .mov (.t 10), none, []⟩,
    ⟨(some 46), .bin .neq (.t 45) (.c (.d (.int .i64 (0)))), none, []⟩] false)
  (.cond (.t 46)
    (.seq (.region 10 [
      ⟨(some 4), .mov (.c (.d (.bool true))), none, []⟩] false)
    (.mask ⟨[4], []⟩ (.ret)))
    (.skip)))
  (.mask ⟨[1, 9], []⟩ (.seq (.region 11 [
    ⟨(some 48), .load 10 true (.t 9), none, []⟩,
    ⟨(some 49), .call (.c (.fn F_event_Put [])) [(.t 48)], none, []⟩,
    ⟨(some 47), .mov (.t 49), none, []⟩,
    ⟨(some 50), .extract (.t 47) 0, none, []⟩,
    ⟨(some 51), .extract (.t 47) 1, none, []⟩,
    ⟨(some 11), .mov (.t 50), none, []⟩,
    ⟨(some 12), .mov (.t 51), none, []⟩] false)
  (.seq (.region 12 [
    ⟨(some 52), .mov (.t 12), none, []⟩,
    ⟨(some 53), .bin .eql (.t 52) (.c (.d (.int .i64 (0)))), none, []⟩,
    ⟨(some 54), .mov (.t 53), none, []⟩,
    ⟨(some 55), .mov (.t 11), (some (54, true)), []⟩,
    ⟨(some 56), .toStr (.t 55), (some (54, true)), []⟩,
    ⟨(some 57), .mov (.t 1), (some (54, true)), []⟩,
    ⟨(some 58), .toStr (.t 57), (some (54, true)), []⟩,
    ⟨(some 59), .bin .eql (.t 56) (.t 58), (some (54, true)), []⟩,
    ⟨(some 60), .pick (.t 54) (.t 59) (.c (.d (.bool false))), none, []⟩,
    ⟨(some 4), .mov (.t 60), none, []⟩] false)
  (.mask ⟨[4], []⟩ (.ret))))))))))))⟩
/-- beadle/beadlelaw23.alive -/
def code_law23_alive : AFunc := ⟨54, [.tmp 0],
  .seq (.region 0 [
    ⟨(some 0), .mov (.c (.d (.bool false))), none, []⟩] false)
  (.seq (.region 1 [
    ⟨(some 6), .call (.c (.fn F_law23_tick [])) [(.c (.d (.int .i64 (258))))], none, []⟩,
    ⟨(some 7), .call (.c (.fn F_event_Put [])) [(.t 6)], none, []⟩,
    ⟨(some 5), .mov (.t 7), none, []⟩,
    ⟨(some 8), .extract (.t 5) 0, none, []⟩,
    ⟨(some 9), .extract (.t 5) 1, none, []⟩,
    ⟨(some 1), .mov (.t 8), none, []⟩,
    ⟨(some 2), .mov (.t 9), none, []⟩] false)
  (.seq (.region 2 [
    ⟨(some 11), .mov (.t 1), none, []⟩,
    ⟨(some 12), .call (.c (.fn F_event_Read [])) [(.t 11)], none, []⟩,
    ⟨(some 10), .mov (.t 12), none, []⟩,
    ⟨(some 13), .extract (.t 10) 0, none, []⟩,
    ⟨(some 14), .extract (.t 10) 1, none, []⟩,
    ⟨(some 3), .box 10 (.c (.agg [(.d (.int .i64 (0))), (.d (.int .i64 (0))), (.d (.int .i64 (0))), (.d (.str [])), (.d (.str [])), (.d (.str [])), (.d (.int .i64 (0))), (.d (.int .i64 (0))), (.d (.str [])), (.d (.vs true []))])), none, []⟩,
    ⟨none, .store 10 (.t 3) (.t 13), none, []⟩,
    ⟨(some 4), .mov (.t 14), none, []⟩] false)
  (.seq (.region 3 [
    ⟨(some 15), .mov (.t 2), none, []⟩,
    ⟨(some 16), .bin .eql (.t 15) (.c (.d (.int .i64 (0)))), none, []⟩,
    ⟨(some 17), .mov (.t 16), none, []⟩,
    ⟨(some 18), .mov (.t 1), (some (17, true)), []⟩,
    ⟨(some 19), .len .sl (.t 18), (some (17, true)), []⟩,
    ⟨(some 20), .bin .eql (.t 19) (.c (.d (.int .i64 (13)))), (some (17, true)), []⟩,
    ⟨(some 21), .pick (.t 17) (.t 20) (.c (.d (.bool false))), none, []⟩,
    ⟨(some 22), .mov (.t 21), none, []⟩,
    ⟨(some 23), .mov (.t 1), (some (22, true)), []⟩,
    ⟨(some 24), .iaddr 1 (.t 23) (.c (.d (.int .i64 (6)))), (some (22, true)), []⟩,
    ⟨(some 25), .load 1 false (.t 24), (some (22, true)), []⟩,
    ⟨(some 26), .bin .eql (.t 25) (.c (.d (.int .u8 (1)))), (some (22, true)), []⟩,
    ⟨(some 27), .pick (.t 22) (.t 26) (.c (.d (.bool false))), none, []⟩,
    ⟨(some 28), .mov (.t 27), none, []⟩,
    ⟨(some 29), .mov (.t 1), (some (28, true)), []⟩,
    ⟨(some 30), .iaddr 1 (.t 29) (.c (.d (.int .i64 (7)))), (some (28, true)), []⟩,
    ⟨(some 31), .load 1 false (.t 30), (some (28, true)), []⟩,
    ⟨(some 32), .bin .eql (.t 31) (.c (.d (.int .u8 (2)))), (some (28, true)), []⟩,
    ⟨(some 33), .pick (.t 28) (.t 32) (.c (.d (.bool false))), none, []⟩,
    ⟨(some 34), .mov (.t 33), none, []⟩,
    ⟨(some 35), .mov (.t 1), (some (34, true)), []⟩,
    ⟨(some 36), .iaddr 1 (.t 35) (.c (.d (.int .i64 (8)))), (some (34, true)), []⟩,
    ⟨(some 37), .load 1 false (.t 36), (some (34, true)), []⟩,
    ⟨(some 38), .bin .eql (.t 37) (.c (.d (.int .u8 (5)))), (some (34, true)), []⟩,
    ⟨(some 39), .pick (.t 34) (.t 38) (.c (.d (.bool false))), none, []⟩,
    ⟨(some 40), .mov (.t 39), none, []⟩,
    ⟨(some 41), .mov (.t 4), (some (40, true)), []⟩,
    ⟨(some 42), .bin .eql (.t 41) (.c (.d (.int .i64 (0)))), (some (40, true)), []⟩,
    ⟨(some 43), .pick (.t 40) (.t 42) (.c (.d (.bool false))), none, []⟩,
    ⟨(some 44), .mov (.t 43), none, []⟩,
    ⟨(some 45), .faddr 0 (.t 3), (some (44, true)), []⟩,
    ⟨(some 46), .load 1 false (.t 45), (some (44, true)), []⟩,
    ⟨(some 47), .bin .eql (.t 46) (.c (.d (.int .i64 (258)))), (some (44, true)), []⟩,
    ⟨(some 48), .pick (.t 44) (.t 47) (.c (.d (.bool false))), none, []⟩,
    ⟨(some 49), .mov (.t 48), none, []⟩,
    ⟨(some 50), .build [(.d (.int .i64 (0))), (.d (.int .i64 (0))), (.d (.int .i64 (0))), (.d (.str [])), (.d (.str [])), (.d (.str [])), (.d (.int .i64 (0))), (.d (.int .i64 (0))), (.d (.str [])), (.d (.vs true []))] [], (some (49, true)), []⟩,
    ⟨(some 51), .call (.c (.fn F_event_Check [])) [(.t 50)], (some (49, true)), []⟩,
    ⟨(some 52), .bin .eql (.t 51) (.c (.d (.int .i64 (12)))), (some (49, true)), []⟩,
    ⟨(some 53), .pick (.t 49) (.t 52) (.c (.d (.bool false))), none, []⟩,
    ⟨(some 0), .mov (.t 53), none, []⟩] false)
  (.mask ⟨[0], []⟩ (.ret)))))⟩
/-- beadle/event.Read -/
def code_event_Read : AFunc := ⟨46, [.cell 2 10 true, .tmp 3],
  .seq (.region 0 [
    ⟨(some 2), .box 10 (.c (.agg [(.d (.int .i64 (0))), (.d (.int .i64 (0))), (.d (.int .i64 (0))), (.d (.str [])), (.d (.str [])), (.d (.str [])), (.d (.int .i64 (0))), (.d (.int .i64 (0))), (.d (.str [])), (.d (.vs true []))])), none, []⟩,
    ⟨(some 3), .mov (.c (.d (.int .i64 (0)))), none, []⟩] false)
  (.seq (.seq (.region 1 [
    ⟨(some 6), .mov (.t 0), none, []⟩,
    ⟨(some 7), .len .sl (.t 6), none, []⟩,
    ⟨(some 8), .bin .gtr (.t 7) (.c (.d (.int .i64 (512)))), none, []⟩] false)
  (.cond (.t 8)
    (.seq (.region 2 [
      ⟨(some 9), .build [(.d (.int .i64 (0))), (.d (.int .i64 (0))), (.d (.int .i64 (0))), (.d (.str [])), (.d (.str [])), (.d (.str [])), (.d (.int .i64 (0))), (.d (.int .i64 (0))), (.d (.str [])), (.d (.vs true []))] [], none, []⟩,
      ⟨none, .store 10 (.t 2) (.t 9), none, []⟩,
      ⟨(some 3), .mov (.c (.d (.int .i64 (5)))), none, []⟩] false)
    (.mask ⟨[2, 3], []⟩ (.ret)))
    (.skip)))
  (.mask ⟨[0, 2], []⟩ (.seq (.region 3 [
    ⟨(some 10), .mov (.t 0), none, []⟩,
    ⟨(some 11), .call (.c (.fn F_octet_Open [])) [(.t 10)], none, []⟩,
    ⟨(some 4), .mov (.t 11), none, []⟩] false)
  (.seq (.region 4 [
    ⟨(some 12), .mov (.t 4), none, []⟩,
    ⟨(some 13), .call (.c (.fn F_octet_In_Int [])) [(.t 12)], none, []⟩,
    ⟨(some 14), .mov (.t 4), none, []⟩,
    ⟨(some 15), .call (.c (.fn F_octet_In_Byte [])) [(.t 14)], none, []⟩,
    ⟨(some 16), .mov (.t 4), none, []⟩,
    ⟨(some 17), .call (.c (.fn F_octet_In_Byte [])) [(.t 16)], none, []⟩,
    ⟨(some 18), .mov (.t 4), none, []⟩,
    ⟨(some 19), .call (.c (.fn F_octet_In_Text [])) [(.t 18)], none, []⟩,
    ⟨(some 20), .mov (.t 4), none, []⟩,
    ⟨(some 21), .call (.c (.fn F_octet_In_Text [])) [(.t 20)], none, []⟩,
    ⟨(some 22), .mov (.t 4), none, []⟩,
    ⟨(some 23), .call (.c (.fn F_octet_In_Text [])) [(.t 22)], none, []⟩,
    ⟨(some 24), .build [(.d (.int .i64 (0))), (.d (.int .i64 (0))), (.d (.int .i64 (0))), (.d (.str [])), (.d (.str [])), (.d (.str [])), (.d (.int .i64 (0))), (.d (.int .i64 (0))), (.d (.str [])), (.d (.vs true []))] [(0, 1, (.t 13)), (1, 1, (.t 15)), (2, 1, (.t 17)), (3, 1, (.t 19)), (4, 1, (.t 21)), (5, 1, (.t 23))], none, []⟩,
    ⟨(some 5), .box 10 (.c (.agg [(.d (.int .i64 (0))), (.d (.int .i64 (0))), (.d (.int .i64 (0))), (.d (.str [])), (.d (.str [])), (.d (.str [])), (.d (.int .i64 (0))), (.d (.int .i64 (0))), (.d (.str [])), (.d (.vs true []))])), none, []⟩,
    ⟨none, .store 10 (.t 5) (.t 24), none, []⟩] false)
  (.seq (.seq (.region 5 [
    ⟨(some 25), .faddr 1 (.t 5), none, []⟩,
    ⟨(some 26), .load 1 false (.t 25), none, []⟩,
    ⟨(some 27), .bin .eql (.t 26) (.c (.d (.int .i64 (4)))), none, []⟩] false)
  (.cond (.t 27)
    (.region 6 [
      ⟨(some 28), .mov (.t 4), none, []⟩,
      ⟨(some 29), .call (.c (.fn F_octet_In_Value [])) [(.t 28)], none, []⟩,
      ⟨(some 30), .faddr 6 (.t 5), none, []⟩,
      ⟨none, .store 4 (.t 30) (.t 29), none, []⟩] false)
    (.skip)))
  (.mask ⟨[2, 4, 5], []⟩ (.seq (.seq (.region 7 [
    ⟨(some 31), .mov (.t 4), none, []⟩,
    ⟨(some 32), .call (.c (.fn F_octet_In_Err [])) [(.t 31)], none, []⟩,
    ⟨(some 33), .bin .neq (.t 32) (.c (.d (.int .i64 (0)))), none, []⟩,
    ⟨(some 34), .mov (.t 33), none, []⟩,
    ⟨(some 35), .mov (.t 4), (some (34, false)), []⟩,
    ⟨(some 36), .call (.c (.fn F_octet_In_Left [])) [(.t 35)], (some (34, false)), []⟩,
    ⟨(some 37), .bin .gtr (.t 36) (.c (.d (.int .i64 (0)))), (some (34, false)), []⟩,
    ⟨(some 38), .pick (.t 34) (.c (.d (.bool true))) (.t 37), none, []⟩,
    ⟨(some 39), .mov (.t 38), none, []⟩,
    ⟨(some 40), .load 10 true (.t 5), (some (39, false)), []⟩,
    ⟨(some 41), .call (.c (.fn F_event_Check [])) [(.t 40)], (some (39, false)), []⟩,
    ⟨(some 42), .bin .neq (.t 41) (.c (.d (.int .i64 (0)))), (some (39, false)), []⟩,
    ⟨(some 43), .pick (.t 39) (.c (.d (.bool true))) (.t 42), none, []⟩] false)
  (.mask ⟨[2, 5, 43], []⟩ (.cond (.t 43)
    (.seq (.region 8 [
      ⟨(some 44), .build [(.d (.int .i64 (0))), (.d (.int .i64 (0))), (.d (.int .i64 (0))), (.d (.str [])), (.d (.str [])), (.d (.str [])), (.d (.int .i64 (0))), (.d (.int .i64 (0))), (.d (.str [])), (.d (.vs true []))] [], none, []⟩,
      ⟨none, .store 10 (.t 2) (.t 44), none, []⟩,
      ⟨(some 3), .mov (.c (.d (.int .i64 (16)))), none, []⟩] false)
    (.mask ⟨[2, 3], []⟩ (.ret)))
    (.skip))))
  (.mask ⟨[2, 5], []⟩ (.seq (.region 9 [
    ⟨(some 45), .load 10 true (.t 5), none, []⟩,
    ⟨none, .store 10 (.t 2) (.t 45), none, []⟩,
    ⟨(some 3), .mov (.c (.d (.int .i64 (0)))), none, []⟩] false)
  (.mask ⟨[2, 3], []⟩ (.ret)))))))))))⟩
/-- beadle/beadleref23.Read -/
def code_ref23_Read : AFunc := ⟨79, [.cell 2 10 true, .tmp 3],
  .seq (.region 0 [
    ⟨(some 2), .box 10 (.c (.agg [(.d (.int .i64 (0))), (.d (.int .i64 (0))), (.d (.int .i64 (0))), (.d (.str [])), (.d (.str [])), (.d (.str [])), (.d (.int .i64 (0))), (.d (.int .i64 (0))), (.d (.str [])), (.d (.vs true []))])), none, []⟩,
    ⟨(some 3), .mov (.c (.d (.int .i64 (0)))), none, []⟩] false)
  (.seq (.seq (.region 1 [
    ⟨(some 13), .mov (.t 0), none, []⟩,
    ⟨(some 14), .len .sl (.t 13), none, []⟩,
    ⟨(some 15), .bin .gtr (.t 14) (.c (.d (.int .i64 (512)))), none, []⟩] false)
  (.cond (.t 15)
    (.seq (.region 2 [
      ⟨(some 16), .build [(.d (.int .i64 (0))), (.d (.int .i64 (0))), (.d (.int .i64 (0))), (.d (.str [])), (.d (.str [])), (.d (.str [])), (.d (.int .i64 (0))), (.d (.int .i64 (0))), (.d (.str [])), (.d (.vs true []))] [], none, []⟩,
      ⟨none, .store 10 (.t 2) (.t 16), none, []⟩,
      ⟨(some 3), .mov (.c (.d (.int .i64 (5)))), none, []⟩] false)
    (.mask ⟨[2, 3], []⟩ (.ret)))
    (.skip)))
  (.mask ⟨[0, 2], []⟩ (.seq (.region 3 [
    ⟨(some 17), .mov (.t 0), none, []⟩,
    ⟨(some 18), .build [(.d (.vs true [])), (.d (.int .i64 (0))), (.d (.bool false))] [(0, 1, (.t 17))], none, []⟩,
    ⟨(some 4), .box 3 (.c (.agg [(.d (.vs true [])), (.d (.int .i64 (0))), (.d (.bool false))])), none, []⟩,
    ⟨none, .store 3 (.t 4) (.t 18), none, []⟩] false)
  (.seq (.region 4 [
    ⟨(some 5), .mov (.c (.d (.int .i64 (0)))), none, []⟩,
    ⟨(some 6), .mov (.c (.d (.int .i64 (0)))), none, []⟩,
    ⟨(some 7), .mov (.c (.d (.int .i64 (0)))), none, []⟩,
    ⟨(some 8), .mov (.c (.d (.str []))), none, []⟩,
    ⟨(some 9), .mov (.c (.d (.str []))), none, []⟩,
    ⟨(some 10), .mov (.c (.d (.str []))), none, []⟩] false)
  (.seq (.region 5 [
    ⟨(some 20), .load 3 true (.t 4), none, []⟩,
    ⟨(some 21), .call (.c (.fn F_ref04_Number [])) [(.t 20)], none, []⟩,
    ⟨(some 19), .mov (.t 21), none, []⟩,
    ⟨(some 22), .extract (.t 19) 0, none, []⟩,
    ⟨(some 23), .extract (.t 19) 1, none, []⟩,
    ⟨(some 5), .mov (.t 22), none, []⟩,
    ⟨none, .store 3 (.t 4) (.t 23), none, []⟩] false)
  (.seq (.region 6 [
    ⟨(some 25), .load 3 true (.t 4), none, []⟩,
    ⟨(some 26), .call (.c (.fn F_ref04_Byte [])) [(.t 25)], none, []⟩,
    ⟨(some 24), .mov (.t 26), none, []⟩,
    ⟨(some 27), .extract (.t 24) 0, none, []⟩,
    ⟨(some 28), .extract (.t 24) 1, none, []⟩,
    ⟨(some 6), .mov (.t 27), none, []⟩,
    ⟨none, .store 3 (.t 4) (.t 28), none, []⟩] false)
  (.seq (.region 7 [
    ⟨(some 30), .load 3 true (.t 4), none, []⟩,
    ⟨(some 31), .call (.c (.fn F_ref04_Byte [])) [(.t 30)], none, []⟩,
    ⟨(some 29), .mov (.t 31), none, []⟩,
    ⟨(some 32), .extract (.t 29) 0, none, []⟩,
    ⟨(some 33), .extract (.t 29) 1, none, []⟩,
    ⟨(some 7), .mov (.t 32), none, []⟩,
    ⟨none, .store 3 (.t 4) (.t 33), none, []⟩] false)
  (.seq (.region 8 [
    ⟨(some 35), .load 3 true (.t 4), none, []⟩,
    ⟨(some 36), .call (.c (.fn F_ref04_Words [])) [(.t 35)], none, []⟩,
    ⟨(some 34), .mov (.t 36), none, []⟩,
    ⟨(some 37), .extract (.t 34) 0, none, []⟩,
    ⟨(some 38), .extract (.t 34) 1, none, []⟩,
    ⟨(some 8), .mov (.t 37), none, []⟩,
    ⟨none, .store 3 (.t 4) (.t 38), none, []⟩] false)
  (.seq (.region 9 [
    ⟨(some 40), .load 3 true (.t 4), none, []⟩,
    ⟨(some 41), .call (.c (.fn F_ref04_Words [])) [(.t 40)], none, []⟩,
    ⟨(some 39), .mov (.t 41), none, []⟩,
    ⟨(some 42), .extract (.t 39) 0, none, []⟩,
    ⟨(some 43), .extract (.t 39) 1, none, []⟩,
    ⟨(some 9), .mov (.t 42), none, []⟩,
    ⟨none, .store 3 (.t 4) (.t 43), none, []⟩] false)
  (.seq (.region 10 [
    ⟨(some 45), .load 3 true (.t 4), none, []⟩,
    ⟨(some 46), .call (.c (.fn F_ref04_Words [])) [(.t 45)], none, []⟩,
    ⟨(some 44), .mov (.t 46), none, []⟩,
    ⟨(some 47), .extract (.t 44) 0, none, []⟩,
    ⟨(some 48), .extract (.t 44) 1, none, []⟩,
    ⟨(some 10), .mov (.t 47), none, []⟩,
    ⟨none, .store 3 (.t 4) (.t 48), none, []⟩] false)
  (.seq (.region 11 [
    ⟨(some 49), .mov (.t 5), none, []⟩,
    ⟨(some 50), .mov (.t 6), none, []⟩,
    ⟨(some 51), .mov (.t 7), none, []⟩,
    ⟨(some 52), .mov (.t 8), none, []⟩,
    ⟨(some 53), .mov (.t 9), none, []⟩,
    ⟨(some 54), .mov (.t 10), none, []⟩,
    ⟨(some 55), .build [(.d (.int .i64 (0))), (.d (.int .i64 (0))), (.d (.int .i64 (0))), (.d (.str [])), (.d (.str [])), (.d (.str [])), (.d (.int .i64 (0))), (.d (.int .i64 (0))), (.d (.str [])), (.d (.vs true []))] [(0, 1, (.t 49)), (1, 1, (.t 50)), (2, 1, (.t 51)), (3, 1, (.t 52)), (4, 1, (.t 53)), (5, 1, (.t 54))], none, []⟩,
    ⟨(some 11), .box 10 (.c (.agg [(.d (.int .i64 (0))), (.d (.int .i64 (0))), (.d (.int .i64 (0))), (.d (.str [])), (.d (.str [])), (.d (.str [])), (.d (.int .i64 (0))), (.d (.int .i64 (0))), (.d (.str [])), (.d (.vs true []))])), none, []⟩,
    ⟨none, .store 10 (.t 11) (.t 55), none, []⟩] false)
  (.seq (.seq (.region 12 [
    ⟨(some 56), .mov (.t 6), none, []⟩,
    ⟨(some 57), .bin .eql (.t 56) (.c (.d (.int .i64 (4)))), none, []⟩] false)
  (.cond (.t 57)
    (.seq (.region 13 [
      ⟨(some 12), .box 4 (.c (.agg [(.d (.int .i64 (0))), (.d (.int .i64 (0))), (.d (.str [])), (.d (.vs true []))])), none, []⟩] false)
    (.seq (.region 14 [
      ⟨(some 59), .load 3 true (.t 4), none, []⟩,
      ⟨(some 60), .call (.c (.fn F_ref04_Thing [])) [(.t 59)], none, []⟩,
      ⟨(some 58), .mov (.t 60), none, []⟩,
      ⟨(some 61), .extract (.t 58) 0, none, []⟩,
      ⟨(some 62), .extract (.t 58) 1, none, []⟩,
      ⟨none, .store 4 (.t 12) (.t 61), none, []⟩,
      ⟨none, .store 3 (.t 4) (.t 62), none, []⟩] false)
    (.region 15 [
      ⟨(some 63), .load 4 true (.t 12), none, []⟩,
      ⟨(some 64), .faddr 6 (.t 11), none, []⟩,
      ⟨none, .store 4 (.t 64) (.t 63), none, []⟩] false)))
    (.skip)))
  (.mask ⟨[2, 4, 11], []⟩ (.seq (.seq (.region 16 [
    ⟨(some 65), .faddr 2 (.t 4), none, []⟩,
    ⟨(some 66), .load 1 false (.t 65), none, []⟩,
    ⟨(some 67), .mov (.t 66), none, []⟩,
    ⟨(some 68), .load 3 true (.t 4), (some (67, false)), []⟩,
    ⟨(some 69), .call (.c (.fn F_ref04_Left [])) [(.t 68)], (some (67, false)), []⟩,
    ⟨(some 70), .bin .gtr (.t 69) (.c (.d (.int .i64 (0)))), (some (67, false)), []⟩,
    ⟨(some 71), .pick (.t 67) (.c (.d (.bool true))) (.t 70), none, []⟩,
    ⟨(some 72), .mov (.t 71), none, []⟩,
    ⟨(some 73), .load 10 true (.t 11), (some (72, false)), []⟩,
    ⟨(some 74), .call (.c (.fn F_ref23_Check [])) [(.t 73)], (some (72, false)), []⟩,
    ⟨(some 75), .bin .neq (.t 74) (.c (.d (.int .i64 (0)))), (some (72, false)), []⟩,
    ⟨(some 76), .pick (.t 72) (.c (.d (.bool true))) (.t 75), none, []⟩] false)
  (.mask ⟨[2, 11, 76], []⟩ (.cond (.t 76)
    (.seq (.region 17 [
      ⟨(some 77), .build [(.d (.int .i64 (0))), (.d (.int .i64 (0))), (.d (.int .i64 (0))), (.d (.str [])), (.d (.str [])), (.d (.str [])), (.d (.int .i64 (0))), (.d (.int .i64 (0))), (.d (.str [])), (.d (.vs true []))] [], none, []⟩,
      ⟨none, .store 10 (.t 2) (.t 77), none, []⟩,
      ⟨(some 3), .mov (.c (.d (.int .i64 (16)))), none, []⟩] false)
    (.mask ⟨[2, 3], []⟩ (.ret)))
    (.skip))))
  (.mask ⟨[2, 11], []⟩ (.seq (.region 18 [
    ⟨(some 78), .load 10 true (.t 11), none, []⟩,
    ⟨none, .store 10 (.t 2) (.t 78), none, []⟩,
    ⟨(some 3), .mov (.c (.d (.int .i64 (0)))), none, []⟩] false)
  (.mask ⟨[2, 3], []⟩ (.ret))))))))))))))))))⟩
/-- beadle/beadleplain.Event -/
def code_plain_Event : AFunc := ⟨52, [.tmp 4],
  .seq (.region 0 [
    ⟨(some 2), .box 10 (.t 0), none, []⟩,
    ⟨(some 3), .box 10 (.t 1), none, []⟩,
    ⟨(some 4), .mov (.c (.d (.bool false))), none, []⟩] false)
  (.seq (.region 1 [
    ⟨(some 5), .faddr 0 (.t 2), none, []⟩,
    ⟨(some 6), .load 1 false (.t 5), none, []⟩,
    ⟨(some 7), .faddr 0 (.t 3), none, []⟩,
    ⟨(some 8), .load 1 false (.t 7), none, []⟩,
    ⟨(some 9), .bin .eql (.t 6) (.t 8), none, []⟩,
    ⟨(some 10), .mov (.t 9), none, []⟩,
    ⟨(some 11), .faddr 1 (.t 2), (some (10, true)), []⟩,
    ⟨(some 12), .load 1 false (.t 11), (some (10, true)), []⟩,
    ⟨(some 13), .faddr 1 (.t 3), (some (10, true)), []⟩,
    ⟨(some 14), .load 1 false (.t 13), (some (10, true)), []⟩,
    ⟨(some 15), .bin .eql (.t 12) (.t 14), (some (10, true)), []⟩,
    ⟨(some 16), .pick (.t 10) (.t 15) (.c (.d (.bool false))), none, []⟩,
    ⟨(some 17), .mov (.t 16), none, []⟩,
    ⟨(some 18), .faddr 2 (.t 2), (some (17, true)), []⟩,
    ⟨(some 19), .load 1 false (.t 18), (some (17, true)), []⟩,
    ⟨(some 20), .faddr 2 (.t 3), (some (17, true)), []⟩,
    ⟨(some 21), .load 1 false (.t 20), (some (17, true)), []⟩,
    ⟨(some 22), .bin .eql (.t 19) (.t 21), (some (17, true)), []⟩,
    ⟨(some 23), .pick (.t 17) (.t 22) (.c (.d (.bool false))), none, []⟩,
    ⟨(some 24), .mov (.t 23), none, []⟩,
    ⟨(some 25), .faddr 3 (.t 2), (some (24, true)), []⟩,
    ⟨(some 26), .load 1 false (.t 25), (some (24, true)), []⟩,
    ⟨(some 27), .faddr 3 (.t 3), (some (24, true)), []⟩,
    ⟨(some 28), .load 1 false (.t 27), (some (24, true)), []⟩,
    ⟨(some 29), .bin .eql (.t 26) (.t 28), (some (24, true)), []⟩,
    ⟨(some 30), .pick (.t 24) (.t 29) (.c (.d (.bool false))), none, []⟩,
    ⟨(some 31), .mov (.t 30), none, []⟩,
    ⟨(some 32), .faddr 4 (.t 2), (some (31, true)), []⟩,
    ⟨(some 33), .load 1 false (.t 32), (some (31, true)), []⟩,
    ⟨(some 34), .faddr 4 (.t 3), (some (31, true)), []⟩,
    ⟨(some 35), .load 1 false (.t 34), (some (31, true)), []⟩,
    ⟨(some 36), .bin .eql (.t 33) (.t 35), (some (31, true)), []⟩,
    ⟨(some 37), .pick (.t 31) (.t 36) (.c (.d (.bool false))), none, []⟩,
    ⟨(some 38), .mov (.t 37), none, []⟩,
    ⟨(some 39), .faddr 5 (.t 2), (some (38, true)), []⟩,
    ⟨(some 40), .load 1 false (.t 39), (some (38, true)), []⟩,
    ⟨(some 41), .faddr 5 (.t 3), (some (38, true)), []⟩,
    ⟨(some 42), .load 1 false (.t 41), (some (38, true)), []⟩,
    ⟨(some 43), .bin .eql (.t 40) (.t 42), (some (38, true)), []⟩,
    ⟨(some 44), .pick (.t 38) (.t 43) (.c (.d (.bool false))), none, []⟩,
    ⟨(some 45), .mov (.t 44), none, []⟩,
    ⟨(some 46), .faddr 6 (.t 2), (some (45, true)), []⟩,
    ⟨(some 47), .load 4 true (.t 46), (some (45, true)), []⟩,
    ⟨(some 48), .faddr 6 (.t 3), (some (45, true)), []⟩,
    ⟨(some 49), .load 4 true (.t 48), (some (45, true)), []⟩,
    ⟨(some 50), .call (.c (.fn F_plain_Value [])) [(.t 47), (.t 49)], (some (45, true)), []⟩,
    ⟨(some 51), .pick (.t 45) (.t 50) (.c (.d (.bool false))), none, []⟩,
    ⟨(some 4), .mov (.t 51), none, []⟩] false)
  (.mask ⟨[4], []⟩ (.ret)))⟩
/-- beadle/event.Put -/
def code_event_Put : AFunc := ⟨48, [.tmp 2, .tmp 3],
  .seq (.region 0 [
    ⟨(some 1), .box 10 (.t 0), none, []⟩,
    ⟨(some 2), .mov (.c (.d (.vs true []))), none, []⟩,
    ⟨(some 3), .mov (.c (.d (.int .i64 (0)))), none, []⟩] false)
  (.seq (.seq (.region 1 [
    ⟨(some 6), .load 10 true (.t 1), none, []⟩,
    ⟨(some 7), .call (.c (.fn F_event_Check [])) [(.t 6)], none, []⟩,
    ⟨(some 4), .mov (.t 7), none, []⟩] false)
  (.seq (.region 2 [
    ⟨(some 8), .mov (.t 4), none, []⟩,
    ⟨(some 9), .bin .neq (.t 8) (.c (.d (.int .i64 (0)))), none, []⟩] false)
  (.cond (.t 9)
    (.seq (.region 3 [
      ⟨(some 10), .mov (.t 4), none, []⟩,
      ⟨(some 2), .mov (.c (.d (.vs true []))), none, []⟩,
      ⟨(some 3), .mov (.t 10), none, []⟩] false)
    (.mask ⟨[2, 3], []⟩ (.ret)))
    (.skip))))
  (.mask ⟨[1], []⟩ (.seq (.region 4 [
    ⟨(some 11), .build [(.d (.vs true [])), (.d (.int .i64 (0)))] [], none, []⟩,
    ⟨(some 12), .box 2 (.t 11), none, []⟩,
    ⟨(some 5), .mov (.t 12), none, []⟩] false)
  (.seq (.region 5 [
    ⟨(some 13), .mov (.t 5), none, []⟩,
    ⟨(some 14), .faddr 0 (.t 1), none, []⟩,
    ⟨(some 15), .load 1 false (.t 14), none, []⟩,
    ⟨(some 16), .call (.c (.fn F_octet_Out_Int [])) [(.t 13), (.t 15)], none, []⟩] false)
  (.seq (.region 6 [
    ⟨(some 17), .mov (.t 5), none, []⟩,
    ⟨(some 18), .faddr 1 (.t 1), none, []⟩,
    ⟨(some 19), .load 1 false (.t 18), none, []⟩,
    ⟨(some 20), .call (.c (.fn F_octet_Out_Byte [])) [(.t 17), (.t 19)], none, []⟩] false)
  (.seq (.region 7 [
    ⟨(some 21), .mov (.t 5), none, []⟩,
    ⟨(some 22), .faddr 2 (.t 1), none, []⟩,
    ⟨(some 23), .load 1 false (.t 22), none, []⟩,
    ⟨(some 24), .call (.c (.fn F_octet_Out_Byte [])) [(.t 21), (.t 23)], none, []⟩] false)
  (.seq (.region 8 [
    ⟨(some 25), .mov (.t 5), none, []⟩,
    ⟨(some 26), .faddr 3 (.t 1), none, []⟩,
    ⟨(some 27), .load 1 false (.t 26), none, []⟩,
    ⟨(some 28), .call (.c (.fn F_octet_Out_Text [])) [(.t 25), (.t 27)], none, []⟩] false)
  (.seq (.region 9 [
    ⟨(some 29), .mov (.t 5), none, []⟩,
    ⟨(some 30), .faddr 4 (.t 1), none, []⟩,
    ⟨(some 31), .load 1 false (.t 30), none, []⟩,
    ⟨(some 32), .call (.c (.fn F_octet_Out_Text [])) [(.t 29), (.t 31)], none, []⟩] false)
  (.seq (.region 10 [
    ⟨(some 33), .mov (.t 5), none, []⟩,
    ⟨(some 34), .faddr 5 (.t 1), none, []⟩,
    ⟨(some 35), .load 1 false (.t 34), none, []⟩,
    ⟨(some 36), .call (.c (.fn F_octet_Out_Text [])) [(.t 33), (.t 35)], none, []⟩] false)
  (.seq (.seq (.region 11 [
    ⟨(some 37), .faddr 1 (.t 1), none, []⟩,
    ⟨(some 38), .load 1 false (.t 37), none, []⟩,
    ⟨(some 39), .bin .eql (.t 38) (.c (.d (.int .i64 (4)))), none, []⟩] false)
  (.cond (.t 39)
    (.region 12 [
      ⟨(some 40), .mov (.t 5), none, []⟩,
      ⟨(some 41), .faddr 6 (.t 1), none, []⟩,
      ⟨(some 42), .load 4 true (.t 41), none, []⟩,
      ⟨(some 43), .call (.c (.fn F_octet_Out_Value [])) [(.t 40), (.t 42)], none, []⟩] false)
    (.skip)))
  (.mask ⟨[5], []⟩ (.seq (.region 13 [
    ⟨(some 44), .mov (.t 5), none, []⟩,
    ⟨(some 45), .call (.c (.fn F_octet_Out_Done [])) [(.t 44)], none, []⟩,
    ⟨(some 46), .extract (.t 45) 0, none, []⟩,
    ⟨(some 47), .extract (.t 45) 1, none, []⟩,
    ⟨(some 2), .mov (.t 46), none, []⟩,
    ⟨(some 3), .mov (.t 47), none, []⟩] false)
  (.mask ⟨[2, 3], []⟩ (.ret))))))))))))))⟩
/-- beadle/beadleref23.Check -/
def code_ref23_Check : AFunc := ⟨125, [.tmp 2],
  .seq (.region 0 [
    ⟨(some 1), .box 10 (.t 0), none, []⟩,
    ⟨(some 2), .mov (.c (.d (.int .i64 (0)))), none, []⟩] false)
  (.seq (.seq (.region 1 [
    ⟨(some 8), .faddr 1 (.t 1), none, []⟩,
    ⟨(some 9), .load 1 false (.t 8), none, []⟩,
    ⟨(some 10), .bin .lss (.t 9) (.c (.d (.int .i64 (1)))), none, []⟩,
    ⟨(some 11), .mov (.t 10), none, []⟩,
    ⟨(some 12), .faddr 1 (.t 1), (some (11, false)), []⟩,
    ⟨(some 13), .load 1 false (.t 12), (some (11, false)), []⟩,
    ⟨(some 14), .bin .gtr (.t 13) (.c (.d (.int .i64 (5)))), (some (11, false)), []⟩,
    ⟨(some 15), .pick (.t 11) (.c (.d (.bool true))) (.t 14), none, []⟩] false)
  (.mask ⟨[1, 15], []⟩ (.cond (.t 15)
    (.seq (.region 2 [
      ⟨(some 2), .mov (.c (.d (.int .i64 (12)))), none, []⟩] false)
    (.mask ⟨[2], []⟩ (.ret)))
    (.skip))))
  (.mask ⟨[1], []⟩ (.seq (.seq (.region 3 [
    ⟨(some 16), .faddr 0 (.t 1), none, []⟩,
    ⟨(some 17), .load 1 false (.t 16), none, []⟩,
    ⟨(some 18), .bin .lss (.t 17) (.c (.d (.int .i64 (0)))), none, []⟩,
    ⟨(some 19), .mov (.t 18), none, []⟩,
    ⟨(some 20), .faddr 2 (.t 1), (some (19, false)), []⟩,
    ⟨(some 21), .load 1 false (.t 20), (some (19, false)), []⟩,
    ⟨(some 22), .bin .lss (.t 21) (.c (.d (.int .i64 (0)))), (some (19, false)), []⟩,
    ⟨(some 23), .pick (.t 19) (.c (.d (.bool true))) (.t 22), none, []⟩,
    ⟨(some 24), .mov (.t 23), none, []⟩,
    ⟨(some 25), .faddr 2 (.t 1), (some (24, false)), []⟩,
    ⟨(some 26), .load 1 false (.t 25), (some (24, false)), []⟩,
    ⟨(some 27), .bin .gtr (.t 26) (.c (.d (.int .i64 (63)))), (some (24, false)), []⟩,
    ⟨(some 28), .pick (.t 24) (.c (.d (.bool true))) (.t 27), none, []⟩] false)
  (.mask ⟨[1, 28], []⟩ (.cond (.t 28)
    (.seq (.region 4 [
      ⟨(some 2), .mov (.c (.d (.int .i64 (4)))), none, []⟩] false)
    (.mask ⟨[2], []⟩ (.ret)))
    (.skip))))
  (.mask ⟨[1], []⟩ (.seq (.region 5 [
    ⟨(some 29), .faddr 1 (.t 1), none, []⟩,
    ⟨(some 30), .load 1 false (.t 29), none, [0]⟩,
    ⟨(some 31), .bin .leq (.t 30) (.c (.d (.int .i64 (3)))), none, [0, 1]⟩,
    ⟨(some 32), .faddr 1 (.t 1), none, []⟩,
    ⟨(some 33), .load 1 false (.t 32), none, [3]⟩,
    ⟨(some 34), .bin .eql (.t 33) (.c (.d (.int .i64 (1)))), none, [3, 4]⟩,
    ⟨(some 35), .mov (.t 34), none, [3, 4, 5]⟩,
    ⟨(some 36), .faddr 1 (.t 1), (some (35, false)), [3, 4, 5, 6]⟩,
    ⟨(some 37), .load 1 false (.t 36), (some (35, false)), [3, 4, 5, 6, 7]⟩,
    ⟨(some 38), .bin .eql (.t 37) (.c (.d (.int .i64 (4)))), (some (35, false)), [3, 4, 5, 6, 7, 8]⟩,
    ⟨(some 39), .pick (.t 35) (.c (.d (.bool true))) (.t 38), none, [3, 4, 5, 6, 7, 8, 9]⟩,
    ⟨(some 40), .faddr 1 (.t 1), none, []⟩,
    ⟨(some 41), .load 1 false (.t 40), none, [11]⟩,
    ⟨(some 42), .bin .eql (.t 41) (.c (.d (.int .i64 (1)))), none, [11, 12]⟩,
    ⟨(some 43), .faddr 1 (.t 1), none, []⟩,
    ⟨(some 44), .load 1 false (.t 43), none, [14]⟩,
    ⟨(some 45), .bin .eql (.t 44) (.c (.d (.int .i64 (1)))), none, [14, 15]⟩,
    ⟨(some 46), .mov (.t 45), none, [3, 4, 5, 6, 14, 15, 16]⟩,
    ⟨(some 47), .faddr 1 (.t 1), (some (46, false)), [3, 4, 5, 6, 14, 15, 16, 17]⟩,
    ⟨(some 48), .load 1 false (.t 47), (some (46, false)), [3, 4, 5, 6, 14, 15, 16, 17, 18]⟩,
    ⟨(some 49), .bin .eql (.t 48) (.c (.d (.int .i64 (2)))), (some (46, false)), [3, 4, 5, 6, 14, 15, 16, 17, 18, 19]⟩,
    ⟨(some 50), .pick (.t 46) (.c (.d (.bool true))) (.t 49), none, [3, 4, 5, 6, 14, 15, 16, 17, 18, 19, 20]⟩,
    ⟨(some 51), .mov (.t 50), none, [3, 4, 5, 6, 14, 15, 16, 17, 18, 19, 20, 21]⟩,
    ⟨(some 52), .faddr 1 (.t 1), (some (51, false)), [3, 4, 5, 6, 14, 15, 16, 17, 18, 19, 20, 21, 22]⟩,
    ⟨(some 53), .load 1 false (.t 52), (some (51, false)), [3, 4, 5, 6, 14, 15, 16, 17, 18, 19, 20, 21, 22, 23]⟩,
    ⟨(some 54), .bin .eql (.t 53) (.c (.d (.int .i64 (4)))), (some (51, false)), [3, 4, 5, 6, 14, 15, 16, 17, 18, 19, 20, 21, 22, 23, 24]⟩,
    ⟨(some 55), .pick (.t 51) (.c (.d (.bool true))) (.t 54), none, [3, 4, 5, 6, 14, 15, 16, 17, 18, 19, 20, 21, 22, 23, 24, 25]⟩,
    ⟨(some 56), .faddr 1 (.t 1), none, []⟩,
    ⟨(some 57), .load 1 false (.t 56), none, [27]⟩,
    ⟨(some 58), .bin .eql (.t 57) (.c (.d (.int .i64 (4)))), none, [27, 28]⟩,
    ⟨(some 3), .mov (.t 31), none, [0, 1, 2, 3, 4, 5, 6, 14, 15, 16, 17, 18, 19, 20, 21, 22]⟩,
    ⟨(some 4), .mov (.t 39), none, [0, 1, 2, 3, 4, 5, 6, 7, 8, 9, 10, 14, 15, 16, 17, 18, 19, 20, 21, 22, 30]⟩,
    ⟨(some 5), .mov (.t 42), none, [0, 1, 2, 3, 4, 5, 6, 7, 8, 9, 10, 11, 12, 13, 14, 15, 16, 17, 18, 19, 20, 21, 22, 30, 31]⟩,
    ⟨(some 6), .mov (.t 55), none, [0, 1, 2, 3, 4, 5, 6, 7, 8, 9, 10, 11, 12, 13, 14, 15, 16, 17, 18, 19, 20, 21, 22, 23, 24, 25, 26, 30, 31, 32]⟩,
    ⟨(some 7), .mov (.t 58), none, [0, 1, 2, 3, 4, 5, 6, 7, 8, 9, 10, 11, 12, 13, 14, 15, 16, 17, 18, 19, 20, 21, 22, 23, 24, 25, 26, 27, 28, 29, 30, 31, 32, 33]⟩] true)
  (.mask ⟨[1, 3, 4, 5, 6, 7], []⟩ (.seq (.seq (.region 6 [
    ⟨(some 59), .mov (.t 3), none, []⟩,
    ⟨(some 60), .un .not (.t 59), none, []⟩,
    ⟨(some 61), .mov (.t 60), none, []⟩,
    ⟨(some 62), .faddr 2 (.t 1), (some (61, true)), []⟩,
    ⟨(some 63), .load 1 false (.t 62), (some (61, true)), []⟩,
    ⟨(some 64), .bin .neq (.t 63) (.c (.d (.int .i64 (0)))), (some (61, true)), []⟩,
    ⟨(some 65), .pick (.t 61) (.t 64) (.c (.d (.bool false))), none, []⟩] false)
  (.mask ⟨[1, 4, 5, 6, 7, 65], []⟩ (.cond (.t 65)
    (.seq (.region 7 [
      ⟨(some 2), .mov (.c (.d (.int .i64 (16)))), none, []⟩] false)
    (.mask ⟨[2], []⟩ (.ret)))
    (.skip))))
  (.mask ⟨[1, 4, 5, 6, 7], []⟩ (.seq (.seq (.region 8 [
    ⟨(some 66), .mov (.t 4), none, []⟩,
    ⟨(some 67), .faddr 3 (.t 1), none, []⟩,
    ⟨(some 68), .load 1 false (.t 67), none, []⟩,
    ⟨(some 69), .call (.c (.fn F_ref06_Name [])) [(.t 68)], none, []⟩,
    ⟨(some 70), .binb true (.t 66) (.t 69), none, []⟩,
    ⟨(some 71), .mov (.t 70), none, []⟩,
    ⟨(some 72), .mov (.t 4), (some (71, false)), []⟩,
    ⟨(some 73), .un .not (.t 72), (some (71, false)), []⟩,
    ⟨(some 74), .mov (.t 73), (some (71, false)), []⟩,
    ⟨(some 75), .faddr 3 (.t 1), (some (74, true)), []⟩,
    ⟨(some 76), .load 1 false (.t 75), (some (74, true)), []⟩,
    ⟨(some 77), .bin .neq (.t 76) (.c (.d (.str []))), (some (74, true)), []⟩,
    ⟨(some 78), .pick (.t 74) (.t 77) (.c (.d (.bool false))), (some (71, false)), []⟩,
    ⟨(some 79), .pick (.t 71) (.c (.d (.bool true))) (.t 78), none, []⟩] false)
  (.mask ⟨[1, 5, 6, 7, 79], []⟩ (.cond (.t 79)
    (.seq (.region 9 [
      ⟨(some 2), .mov (.c (.d (.int .i64 (16)))), none, []⟩] false)
    (.mask ⟨[2], []⟩ (.ret)))
    (.skip))))
  (.mask ⟨[1, 5, 6, 7], []⟩ (.seq (.seq (.region 10 [
    ⟨(some 80), .mov (.t 5), none, []⟩,
    ⟨(some 81), .faddr 4 (.t 1), none, []⟩,
    ⟨(some 82), .load 1 false (.t 81), none, []⟩,
    ⟨(some 83), .call (.c (.fn F_ref06_Name [])) [(.t 82)], none, []⟩,
    ⟨(some 84), .binb true (.t 80) (.t 83), none, []⟩,
    ⟨(some 85), .mov (.t 84), none, []⟩,
    ⟨(some 86), .mov (.t 5), (some (85, false)), []⟩,
    ⟨(some 87), .un .not (.t 86), (some (85, false)), []⟩,
    ⟨(some 88), .mov (.t 87), (some (85, false)), []⟩,
    ⟨(some 89), .faddr 4 (.t 1), (some (88, true)), []⟩,
    ⟨(some 90), .load 1 false (.t 89), (some (88, true)), []⟩,
    ⟨(some 91), .bin .neq (.t 90) (.c (.d (.str []))), (some (88, true)), []⟩,
    ⟨(some 92), .pick (.t 88) (.t 91) (.c (.d (.bool false))), (some (85, false)), []⟩,
    ⟨(some 93), .pick (.t 85) (.c (.d (.bool true))) (.t 92), none, []⟩] false)
  (.mask ⟨[1, 6, 7, 93], []⟩ (.cond (.t 93)
    (.seq (.region 11 [
      ⟨(some 2), .mov (.c (.d (.int .i64 (16)))), none, []⟩] false)
    (.mask ⟨[2], []⟩ (.ret)))
    (.skip))))
  (.mask ⟨[1, 6, 7], []⟩ (.seq (.seq (.region 12 [
    ⟨(some 94), .mov (.t 6), none, []⟩,
    ⟨(some 95), .faddr 5 (.t 1), none, []⟩,
    ⟨(some 96), .load 1 false (.t 95), none, []⟩,
    ⟨(some 97), .call (.c (.fn F_ref06_Name [])) [(.t 96)], none, []⟩,
    ⟨(some 98), .binb true (.t 94) (.t 97), none, []⟩,
    ⟨(some 99), .mov (.t 98), none, []⟩,
    ⟨(some 100), .mov (.t 6), (some (99, false)), []⟩,
    ⟨(some 101), .un .not (.t 100), (some (99, false)), []⟩,
    ⟨(some 102), .mov (.t 101), (some (99, false)), []⟩,
    ⟨(some 103), .faddr 5 (.t 1), (some (102, true)), []⟩,
    ⟨(some 104), .load 1 false (.t 103), (some (102, true)), []⟩,
    ⟨(some 105), .bin .neq (.t 104) (.c (.d (.str []))), (some (102, true)), []⟩,
    ⟨(some 106), .pick (.t 102) (.t 105) (.c (.d (.bool false))), (some (99, false)), []⟩,
    ⟨(some 107), .pick (.t 99) (.c (.d (.bool true))) (.t 106), none, []⟩] false)
  (.mask ⟨[1, 7, 107], []⟩ (.cond (.t 107)
    (.seq (.region 13 [
      ⟨(some 2), .mov (.c (.d (.int .i64 (16)))), none, []⟩] false)
    (.mask ⟨[2], []⟩ (.ret)))
    (.skip))))
  (.mask ⟨[1, 7], []⟩ (.seq (.seq (.region 14 [
    ⟨(some 108), .mov (.t 7), none, []⟩,
    ⟨(some 109), .mov (.t 108), none, []⟩,
    ⟨(some 110), .faddr 6 (.t 1), (some (109, true)), []⟩,
    ⟨(some 111), .load 4 true (.t 110), (some (109, true)), []⟩,
    ⟨(some 112), .call (.c (.fn F_ref02_Check [])) [(.t 111)], (some (109, true)), []⟩,
    ⟨(some 113), .bin .neq (.t 112) (.c (.d (.int .i64 (0)))), (some (109, true)), []⟩,
    ⟨(some 114), .pick (.t 109) (.t 113) (.c (.d (.bool false))), none, []⟩,
    ⟨(some 115), .mov (.t 114), none, []⟩,
    ⟨(some 116), .mov (.t 7), (some (115, false)), []⟩,
    ⟨(some 117), .un .not (.t 116), (some (115, false)), []⟩,
    ⟨(some 118), .mov (.t 117), (some (115, false)), []⟩,
    ⟨(some 119), .faddr 6 (.t 1), (some (118, true)), []⟩,
    ⟨(some 120), .load 4 true (.t 119), (some (118, true)), []⟩,
    ⟨(some 121), .call (.c (.fn F_ref23_empty [])) [(.t 120)], (some (118, true)), []⟩,
    ⟨(some 122), .un .not (.t 121), (some (118, true)), []⟩,
    ⟨(some 123), .pick (.t 118) (.t 122) (.c (.d (.bool false))), (some (115, false)), []⟩,
    ⟨(some 124), .pick (.t 115) (.c (.d (.bool true))) (.t 123), none, []⟩] false)
  (.mask ⟨[124], []⟩ (.cond (.t 124)
    (.seq (.region 15 [
      ⟨(some 2), .mov (.c (.d (.int .i64 (16)))), none, []⟩] false)
    (.mask ⟨[2], []⟩ (.ret)))
    (.skip))))
  (.mask ⟨[], []⟩ (.seq (.region 16 [
    ⟨(some 2), .mov (.c (.d (.int .i64 (0)))), none, []⟩] false)
  (.mask ⟨[2], []⟩ (.ret)))))))))))))))))))⟩
/-- beadle/beadlelaw23.tick -/
def code_law23_tick : AFunc := ⟨5, [.cell 2 10 true],
  .seq (.region 0 [
    ⟨(some 2), .box 10 (.c (.agg [(.d (.int .i64 (0))), (.d (.int .i64 (0))), (.d (.int .i64 (0))), (.d (.str [])), (.d (.str [])), (.d (.str [])), (.d (.int .i64 (0))), (.d (.int .i64 (0))), (.d (.str [])), (.d (.vs true []))])), none, []⟩] false)
  (.seq (.region 1 [
    ⟨(some 3), .mov (.t 0), none, []⟩,
    ⟨(some 4), .build [(.d (.int .i64 (0))), (.d (.int .i64 (0))), (.d (.int .i64 (0))), (.d (.str [])), (.d (.str [])), (.d (.str [])), (.d (.int .i64 (0))), (.d (.int .i64 (0))), (.d (.str [])), (.d (.vs true []))] [(0, 1, (.t 3)), (1, 1, (.c (.d (.int .i64 (5)))))], none, []⟩,
    ⟨none, .store 10 (.t 2) (.t 4), none, []⟩] false)
  (.mask ⟨[2], []⟩ (.ret)))⟩
/-- beadle/event.Check -/
def code_event_Check : AFunc := ⟨35, [.tmp 2],
  .seq (.region 0 [
    ⟨(some 1), .box 10 (.t 0), none, []⟩,
    ⟨(some 2), .mov (.c (.d (.int .i64 (0)))), none, []⟩] false)
  (.seq (.block 0 (.seq (.region 1 [
    ⟨(some 4), .faddr 1 (.t 1), none, []⟩,
    ⟨(some 5), .load 1 false (.t 4), none, []⟩,
    ⟨(some 6), .bin .lss (.t 5) (.c (.d (.int .i64 (1)))), none, []⟩,
    ⟨(some 7), .mov (.t 6), none, []⟩,
    ⟨(some 8), .faddr 1 (.t 1), (some (7, false)), []⟩,
    ⟨(some 9), .load 1 false (.t 8), (some (7, false)), []⟩,
    ⟨(some 10), .bin .gtr (.t 9) (.c (.d (.int .i64 (5)))), (some (7, false)), []⟩,
    ⟨(some 11), .pick (.t 7) (.c (.d (.bool true))) (.t 10), none, []⟩,
    ⟨(some 3), .mov (.t 11), none, []⟩] false)
  (.mask ⟨[1, 3], []⟩ (.cond (.t 3)
    (.seq (.region 2 [
      ⟨(some 2), .mov (.c (.d (.int .i64 (12)))), none, []⟩] false)
    (.mask ⟨[2], []⟩ (.ret)))
    (.seq (.region 3 [
      ⟨(some 13), .faddr 0 (.t 1), none, []⟩,
      ⟨(some 14), .load 1 false (.t 13), none, []⟩,
      ⟨(some 15), .bin .lss (.t 14) (.c (.d (.int .i64 (0)))), none, []⟩,
      ⟨(some 16), .mov (.t 15), none, []⟩,
      ⟨(some 17), .faddr 2 (.t 1), (some (16, false)), []⟩,
      ⟨(some 18), .load 1 false (.t 17), (some (16, false)), []⟩,
      ⟨(some 19), .bin .lss (.t 18) (.c (.d (.int .i64 (0)))), (some (16, false)), []⟩,
      ⟨(some 20), .pick (.t 16) (.c (.d (.bool true))) (.t 19), none, []⟩,
      ⟨(some 21), .mov (.t 20), none, []⟩,
      ⟨(some 22), .faddr 2 (.t 1), (some (21, false)), []⟩,
      ⟨(some 23), .load 1 false (.t 22), (some (21, false)), []⟩,
      ⟨(some 24), .bin .geq (.t 23) (.c (.d (.int .i64 (64)))), (some (21, false)), []⟩,
      ⟨(some 25), .pick (.t 21) (.c (.d (.bool true))) (.t 24), none, []⟩,
      ⟨(some 12), .mov (.t 25), none, []⟩] false)
    (.mask ⟨[1, 12], []⟩ (.cond (.t 12)
      (.seq (.region 4 [
        ⟨(some 2), .mov (.c (.d (.int .i64 (4)))), none, []⟩] false)
      (.mask ⟨[2], []⟩ (.ret)))
      (.seq (.region 5 [
        ⟨(some 27), .load 10 true (.t 1), none, []⟩,
        ⟨(some 28), .call (.c (.fn F_event_blank [])) [(.t 27)], none, []⟩,
        ⟨(some 29), .un .not (.t 28), none, []⟩,
        ⟨(some 30), .mov (.t 29), none, []⟩,
        ⟨(some 31), .load 10 true (.t 1), (some (30, false)), []⟩,
        ⟨(some 32), .call (.c (.fn F_event_named [])) [(.t 31)], (some (30, false)), []⟩,
        ⟨(some 33), .un .not (.t 32), (some (30, false)), []⟩,
        ⟨(some 34), .pick (.t 30) (.c (.d (.bool true))) (.t 33), none, []⟩,
        ⟨(some 26), .mov (.t 34), none, []⟩] false)
      (.mask ⟨[26], []⟩ (.cond (.t 26)
        (.seq (.region 6 [
          ⟨(some 2), .mov (.c (.d (.int .i64 (16)))), none, []⟩] false)
        (.mask ⟨[2], []⟩ (.ret)))
        (.skip)))))))))))
  (.mask ⟨[], []⟩ (.seq (.region 7 [
    ⟨(some 2), .mov (.c (.d (.int .i64 (0)))), none, []⟩] false)
  (.mask ⟨[2], []⟩ (.ret)))))⟩
/-- beadle/octet.Open -/
def code_octet_Open : AFunc := ⟨8, [.tmp 2],
  .seq (.region 0 [
    ⟨(some 2), .mov (.c (.d .nilp)), none, []⟩] false)
  (.mask ⟨[0], [.fcell 20040 0]⟩ (.seq (.region 1 [
    ⟨(some 3), .buildSl 1 [(.int .u8 (0))] 0 [], none, []⟩,
    ⟨(some 4), .mov (.t 0), none, []⟩,
    ⟨(some 5), .append 1 (.t 3) (.t 4), none, []⟩,
    ⟨(some 6), .build [(.d (.vs true [])), (.d (.bool false)), (.d (.int .i64 (0)))] [(0, 1, (.t 5)), (1, 1, (.c (.d (.bool true))))], none, []⟩,
    ⟨(some 7), .box 3 (.t 6), none, []⟩,
    ⟨(some 2), .mov (.t 7), none, []⟩] false)
  (.mask ⟨[2], [.fcell 20040 0]⟩ (.ret))))⟩
def mask_octet_In_Int_0 : Mask := ⟨[3, 7, 8, 9], []⟩
def body_octet_In_Int_0 : ACode :=
  .seq (.region 3 [
    ⟨(some 10), .bin .lss (.t 9) (.t 8), none, []⟩] false)
  (.seq (.cond (.t 10)
    (.skip)
    (.mask ⟨[3], []⟩ (.exit 0)))
  (.mask ⟨[3, 7, 8, 9], []⟩ (.seq (.block 1 (.seq (.region 4 [
    ⟨(some 11), .iaddr 1 (.t 7) (.t 9), none, []⟩,
    ⟨(some 12), .load 1 false (.t 11), none, []⟩,
    ⟨(some 5), .mov (.t 12), none, []⟩] false)
  (.region 5 [
    ⟨(some 13), .mov (.t 3), none, []⟩,
    ⟨(some 14), .bin .shl (.t 13) (.c (.d (.int .u64 (8)))), none, []⟩,
    ⟨(some 15), .mov (.t 5), none, []⟩,
    ⟨(some 16), .toInt .u64 (.t 15), none, []⟩,
    ⟨(some 17), .bin .or (.t 14) (.t 16), none, []⟩,
    ⟨(some 3), .mov (.t 17), none, []⟩] false)))
  (.mask ⟨[3, 7, 8, 9], []⟩ (.region 6 [
    ⟨(some 18), .bin .add (.t 9) (.c (.d (.int .i64 (1)))), none, []⟩,
    ⟨(some 9), .mov (.t 18), none, []⟩] false)))))
/-- (*beadle/octet.In).Int -/
def code_octet_In_Int : AFunc := ⟨21, [.tmp 2],
  .seq (.region 0 [
    ⟨(some 2), .mov (.c (.d (.int .i64 (0)))), none, []⟩] false)
  (.seq (.region 1 [
    ⟨(some 3), .mov (.c (.d (.int .u64 (0)))), none, []⟩] false)
  (.seq (.seq (.region 2 [
    ⟨(some 6), .mov (.t 0), none, []⟩,
    ⟨(some 7), .call (.c (.fn F_octet_In_take [])) [(.t 6), (.c (.d (.int .i64 (8))))], none, []⟩,
    ⟨(some 8), .len .sl (.t 7), none, []⟩,
    ⟨(some 9), .mov (.c (.d (.int .i64 (0)))), none, []⟩] false)
  (.block 0 (.loop mask_octet_In_Int_0 body_octet_In_Int_0)))
  (.mask ⟨[3], []⟩ (.seq (.region 7 [
    ⟨(some 19), .mov (.t 3), none, []⟩,
    ⟨(some 20), .toInt .i64 (.t 19), none, []⟩,
    ⟨(some 2), .mov (.t 20), none, []⟩] false)
  (.mask ⟨[2], []⟩ (.ret))))))⟩
def mask_octet_In_Byte_0 : Mask := ⟨[6, 7, 8], []⟩
def body_octet_In_Byte_0 : ACode :=
  .seq (.region 2 [
    ⟨(some 9), .bin .lss (.t 8) (.t 7), none, []⟩] false)
  (.seq (.cond (.t 9)
    (.skip)
    (.mask ⟨[], []⟩ (.exit 0)))
  (.mask ⟨[6, 8], []⟩ (.seq (.block 1 (.seq (.region 3 [
    ⟨(some 10), .iaddr 1 (.t 6) (.t 8), none, []⟩,
    ⟨(some 11), .load 1 false (.t 10), none, []⟩,
    ⟨(some 4), .mov (.t 11), none, []⟩] false)
  (.seq (.region 4 [
    ⟨(some 12), .mov (.t 4), none, []⟩,
    ⟨(some 13), .toInt .i64 (.t 12), none, []⟩,
    ⟨(some 2), .mov (.t 13), none, []⟩] false)
  (.mask ⟨[2], []⟩ (.ret)))))
  (.mask ⟨[6, 7, 8], []⟩ (.region 5 [
    ⟨(some 14), .bin .add (.t 8) (.c (.d (.int .i64 (1)))), none, []⟩,
    ⟨(some 8), .mov (.t 14), none, []⟩] false)))))
/-- (*beadle/octet.In).Byte -/
def code_octet_In_Byte : AFunc := ⟨15, [.tmp 2],
  .seq (.region 0 [
    ⟨(some 2), .mov (.c (.d (.int .i64 (0)))), none, []⟩] false)
  (.seq (.seq (.region 1 [
    ⟨(some 5), .mov (.t 0), none, []⟩,
    ⟨(some 6), .call (.c (.fn F_octet_In_take [])) [(.t 5), (.c (.d (.int .i64 (1))))], none, []⟩,
    ⟨(some 7), .len .sl (.t 6), none, []⟩,
    ⟨(some 8), .mov (.c (.d (.int .i64 (0)))), none, []⟩] false)
  (.block 0 (.loop mask_octet_In_Byte_0 body_octet_In_Byte_0)))
  (.mask ⟨[], []⟩ (.seq (.region 6 [
    ⟨(some 2), .mov (.c (.d (.int .i64 (0)))), none, []⟩] false)
  (.mask ⟨[2], []⟩ (.ret)))))⟩
/-- (*beadle/octet.In).Text -/
def code_octet_In_Text : AFunc := ⟨8, [.tmp 2],
  .seq (.region 0 [
    ⟨(some 2), .mov (.c (.d (.str []))), none, []⟩] false)
  (.seq (.region 1 [
    ⟨(some 3), .mov (.t 0), none, []⟩,
    ⟨(some 4), .mov (.t 0), none, []⟩,
    ⟨(some 5), .call (.c (.fn F_octet_In_Byte [])) [(.t 4)], none, []⟩,
    ⟨(some 6), .call (.c (.fn F_octet_In_take [])) [(.t 3), (.t 5)], none, []⟩,
    ⟨(some 7), .toStr (.t 6), none, []⟩,
    ⟨(some 2), .mov (.t 7), none, []⟩] false)
  (.mask ⟨[2], []⟩ (.ret)))⟩
/-- (*beadle/octet.In).Value -/
def code_octet_In_Value : AFunc := ⟨23, [.cell 2 4 true],
  .seq (.region 0 [
    ⟨(some 2), .box 4 (.c (.agg [(.d (.int .i64 (0))), (.d (.int .i64 (0))), (.d (.str [])), (.d (.vs true []))])), none, []⟩] false)
  (.seq (.region 1 [
    ⟨(some 4), .mov (.t 0), none, []⟩,
    ⟨(some 5), .mov (.t 0), none, []⟩,
    ⟨(some 6), .call (.c (.fn F_octet_In_Byte [])) [(.t 5)], none, []⟩,
    ⟨(some 7), .call (.c (.fn F_octet_In_body [])) [(.t 4), (.t 6)], none, []⟩,
    ⟨(some 3), .box 4 (.c (.agg [(.d (.int .i64 (0))), (.d (.int .i64 (0))), (.d (.str [])), (.d (.vs true []))])), none, []⟩,
    ⟨none, .store 4 (.t 3) (.t 7), none, []⟩] false)
  (.seq (.seq (.region 2 [
    ⟨(some 8), .mov (.t 0), none, []⟩,
    ⟨(some 9), .call (.c (.fn F_octet_In_Err [])) [(.t 8)], none, []⟩,
    ⟨(some 10), .bin .eql (.t 9) (.c (.d (.int .i64 (0)))), none, []⟩,
    ⟨(some 11), .mov (.t 10), none, []⟩,
    ⟨(some 12), .load 4 true (.t 3), (some (11, true)), []⟩,
    ⟨(some 13), .call (.c (.fn F_value_Check [])) [(.t 12)], (some (11, true)), []⟩,
    ⟨(some 14), .bin .neq (.t 13) (.c (.d (.int .i64 (0)))), (some (11, true)), []⟩,
    ⟨(some 15), .pick (.t 11) (.t 14) (.c (.d (.bool false))), none, []⟩] false)
  (.mask ⟨[0, 2, 3, 15], []⟩ (.cond (.t 15)
    (.region 3 [
      ⟨(some 16), .mov (.t 0), none, []⟩,
      ⟨(some 17), .call (.c (.fn F_octet_In_bad [])) [(.t 16)], none, []⟩] false)
    (.skip))))
  (.mask ⟨[0, 2, 3], []⟩ (.seq (.seq (.region 4 [
    ⟨(some 18), .mov (.t 0), none, []⟩,
    ⟨(some 19), .call (.c (.fn F_octet_In_Err [])) [(.t 18)], none, []⟩,
    ⟨(some 20), .bin .neq (.t 19) (.c (.d (.int .i64 (0)))), none, []⟩] false)
  (.cond (.t 20)
    (.seq (.region 5 [
      ⟨(some 21), .build [(.d (.int .i64 (0))), (.d (.int .i64 (0))), (.d (.str [])), (.d (.vs true []))] [], none, []⟩,
      ⟨none, .store 4 (.t 2) (.t 21), none, []⟩] false)
    (.mask ⟨[2], []⟩ (.ret)))
    (.skip)))
  (.mask ⟨[2, 3], []⟩ (.seq (.region 6 [
    ⟨(some 22), .load 4 true (.t 3), none, []⟩,
    ⟨none, .store 4 (.t 2) (.t 22), none, []⟩] false)
  (.mask ⟨[2], []⟩ (.ret))))))))⟩
/-- (*beadle/octet.In).Err -/
def code_octet_In_Err : AFunc := ⟨16, [.tmp 2],
  .seq (.region 0 [
    ⟨(some 2), .mov (.c (.d (.int .i64 (0)))), none, []⟩] false)
  (.seq (.seq (.region 1 [
    ⟨(some 3), .mov (.t 0), none, []⟩,
    ⟨(some 4), .isnil .p false (.t 3), none, []⟩,
    ⟨(some 5), .mov (.t 4), none, []⟩,
    ⟨(some 6), .mov (.t 0), (some (5, false)), []⟩,
    ⟨(some 7), .nilchk (.t 6), (some (5, false)), []⟩,
    ⟨(some 8), .faddr 1 (.t 7), (some (5, false)), []⟩,
    ⟨(some 9), .load 1 false (.t 8), (some (5, false)), []⟩,
    ⟨(some 10), .un .not (.t 9), (some (5, false)), []⟩,
    ⟨(some 11), .pick (.t 5) (.c (.d (.bool true))) (.t 10), none, []⟩] false)
  (.mask ⟨[0, 11], []⟩ (.cond (.t 11)
    (.seq (.region 2 [
      ⟨(some 2), .mov (.c (.d (.int .i64 (9)))), none, []⟩] false)
    (.mask ⟨[2], []⟩ (.ret)))
    (.skip))))
  (.mask ⟨[0], []⟩ (.seq (.region 3 [
    ⟨(some 12), .mov (.t 0), none, []⟩,
    ⟨(some 13), .nilchk (.t 12), none, []⟩,
    ⟨(some 14), .faddr 2 (.t 13), none, []⟩,
    ⟨(some 15), .load 1 false (.t 14), none, []⟩,
    ⟨(some 2), .mov (.t 15), none, []⟩] false)
  (.mask ⟨[2], []⟩ (.ret)))))⟩
/-- (*beadle/octet.In).Left -/
def code_octet_In_Left : AFunc := ⟨10, [.tmp 2],
  .seq (.region 0 [
    ⟨(some 2), .mov (.c (.d (.int .i64 (0)))), none, []⟩] false)
  (.seq (.seq (.region 1 [
    ⟨(some 3), .mov (.t 0), none, []⟩,
    ⟨(some 4), .isnil .p false (.t 3), none, []⟩] false)
  (.cond (.t 4)
    (.seq (.region 2 [
      ⟨(some 2), .mov (.c (.d (.int .i64 (0)))), none, []⟩] false)
    (.mask ⟨[2], []⟩ (.ret)))
    (.skip)))
  (.mask ⟨[0], []⟩ (.seq (.region 3 [
    ⟨(some 5), .mov (.t 0), none, []⟩,
    ⟨(some 6), .nilchk (.t 5), none, []⟩,
    ⟨(some 7), .faddr 0 (.t 6), none, []⟩,
    ⟨(some 8), .load 1 false (.t 7), none, []⟩,
    ⟨(some 9), .len .sl (.t 8), none, []⟩,
    ⟨(some 2), .mov (.t 9), none, []⟩] false)
  (.mask ⟨[2], []⟩ (.ret)))))⟩
def mask_ref04_Number_0 : Mask := ⟨[1, 3, 4, 5, 6, 7], []⟩
def body_ref04_Number_0 : ACode :=
  .seq (.seq (.region 6 [
    ⟨(some 23), .mov (.t 7), none, []⟩,
    ⟨(some 24), .bin .lss (.t 23) (.c (.d (.int .i64 (8)))), none, []⟩] false)
  (.cond (.t 24)
    (.skip)
    (.mask ⟨[3, 5, 6], []⟩ (.exit 0))))
  (.mask ⟨[1, 3, 4, 5, 6, 7], []⟩ (.seq (.block 1 (.region 8 [
    ⟨(some 27), .mov (.t 6), none, []⟩,
    ⟨(some 28), .bin .mul (.t 27) (.c (.d (.int .i64 (256)))), none, []⟩,
    ⟨(some 29), .faddr 0 (.t 1), none, []⟩,
    ⟨(some 30), .load 1 false (.t 29), none, []⟩,
    ⟨(some 31), .mov (.t 4), none, []⟩,
    ⟨(some 32), .mov (.t 7), none, []⟩,
    ⟨(some 33), .bin .add (.t 31) (.t 32), none, []⟩,
    ⟨(some 34), .iaddr 1 (.t 30) (.t 33), none, []⟩,
    ⟨(some 35), .load 1 false (.t 34), none, []⟩,
    ⟨(some 36), .toInt .i64 (.t 35), none, []⟩,
    ⟨(some 37), .bin .add (.t 28) (.t 36), none, []⟩,
    ⟨(some 6), .mov (.t 37), none, []⟩] false))
  (.mask ⟨[1, 3, 4, 5, 6, 7], []⟩ (.region 7 [
    ⟨(some 25), .mov (.t 7), none, []⟩,
    ⟨(some 26), .bin .add (.t 25) (.c (.d (.int .i64 (1)))), none, []⟩,
    ⟨(some 7), .mov (.t 26), none, []⟩] false))))
/-- beadle/beadleref04.Number -/
def code_ref04_Number : AFunc := ⟨40, [.tmp 2, .cell 3 3 true],
  .seq (.region 0 [
    ⟨(some 1), .box 3 (.t 0), none, []⟩,
    ⟨(some 2), .mov (.c (.d (.int .i64 (0)))), none, []⟩,
    ⟨(some 3), .box 3 (.c (.agg [(.d (.vs true [])), (.d (.int .i64 (0))), (.d (.bool false))])), none, []⟩] false)
  (.seq (.region 1 [
    ⟨(some 9), .load 3 true (.t 1), none, []⟩,
    ⟨(some 10), .call (.c (.fn F_ref04_take [])) [(.t 9), (.c (.d (.int .i64 (8))))], none, []⟩,
    ⟨(some 8), .mov (.t 10), none, []⟩,
    ⟨(some 11), .extract (.t 8) 0, none, []⟩,
    ⟨(some 12), .extract (.t 8) 1, none, []⟩,
    ⟨(some 5), .box 3 (.c (.agg [(.d (.vs true [])), (.d (.int .i64 (0))), (.d (.bool false))])), none, []⟩,
    ⟨(some 4), .mov (.t 11), none, []⟩,
    ⟨none, .store 3 (.t 5) (.t 12), none, []⟩] false)
  (.seq (.seq (.region 2 [
    ⟨(some 13), .faddr 2 (.t 5), none, []⟩,
    ⟨(some 14), .load 1 false (.t 13), none, []⟩] false)
  (.cond (.t 14)
    (.seq (.region 3 [
      ⟨(some 15), .load 3 true (.t 5), none, []⟩,
      ⟨(some 2), .mov (.c (.d (.int .i64 (0)))), none, []⟩,
      ⟨none, .store 3 (.t 3) (.t 15), none, [0, 1]⟩] true)
    (.mask ⟨[2, 3], []⟩ (.ret)))
    (.skip)))
  (.mask ⟨[1, 3, 4, 5], []⟩ (.seq (.region 4 [
    ⟨(some 16), .faddr 0 (.t 1), none, []⟩,
    ⟨(some 17), .load 1 false (.t 16), none, []⟩,
    ⟨(some 18), .mov (.t 4), none, []⟩,
    ⟨(some 19), .iaddr 1 (.t 17) (.t 18), none, []⟩,
    ⟨(some 20), .load 1 false (.t 19), none, []⟩,
    ⟨(some 21), .toInt .i8 (.t 20), none, []⟩,
    ⟨(some 22), .toInt .i64 (.t 21), none, []⟩,
    ⟨(some 6), .mov (.t 22), none, []⟩] false)
  (.seq (.seq (.region 5 [
    ⟨(some 7), .mov (.c (.d (.int .i64 (1)))), none, []⟩] false)
  (.block 0 (.loop mask_ref04_Number_0 body_ref04_Number_0)))
  (.mask ⟨[3, 5, 6], []⟩ (.seq (.region 9 [
    ⟨(some 38), .mov (.t 6), none, []⟩,
    ⟨(some 39), .load 3 true (.t 5), none, []⟩,
    ⟨(some 2), .mov (.t 38), none, [0]⟩,
    ⟨none, .store 3 (.t 3) (.t 39), none, [0, 1, 2]⟩] true)
  (.mask ⟨[2, 3], []⟩ (.ret)))))))))⟩
/-- beadle/beadleref04.Byte -/
def code_ref04_Byte : AFunc := ⟨21, [.tmp 2, .cell 3 3 true],
  .seq (.region 0 [
    ⟨(some 1), .box 3 (.t 0), none, []⟩,
    ⟨(some 2), .mov (.c (.d (.int .i64 (0)))), none, []⟩,
    ⟨(some 3), .box 3 (.c (.agg [(.d (.vs true [])), (.d (.int .i64 (0))), (.d (.bool false))])), none, []⟩] false)
  (.seq (.region 1 [
    ⟨(some 7), .load 3 true (.t 1), none, []⟩,
    ⟨(some 8), .call (.c (.fn F_ref04_take [])) [(.t 7), (.c (.d (.int .i64 (1))))], none, []⟩,
    ⟨(some 6), .mov (.t 8), none, []⟩,
    ⟨(some 9), .extract (.t 6) 0, none, []⟩,
    ⟨(some 10), .extract (.t 6) 1, none, []⟩,
    ⟨(some 5), .box 3 (.c (.agg [(.d (.vs true [])), (.d (.int .i64 (0))), (.d (.bool false))])), none, []⟩,
    ⟨(some 4), .mov (.t 9), none, []⟩,
    ⟨none, .store 3 (.t 5) (.t 10), none, []⟩] false)
  (.seq (.seq (.region 2 [
    ⟨(some 11), .faddr 2 (.t 5), none, []⟩,
    ⟨(some 12), .load 1 false (.t 11), none, []⟩] false)
  (.cond (.t 12)
    (.seq (.region 3 [
      ⟨(some 13), .load 3 true (.t 5), none, []⟩,
      ⟨(some 2), .mov (.c (.d (.int .i64 (0)))), none, []⟩,
      ⟨none, .store 3 (.t 3) (.t 13), none, [0, 1]⟩] true)
    (.mask ⟨[2, 3], []⟩ (.ret)))
    (.skip)))
  (.mask ⟨[1, 3, 4, 5], []⟩ (.seq (.region 4 [
    ⟨(some 14), .faddr 0 (.t 1), none, []⟩,
    ⟨(some 15), .load 1 false (.t 14), none, [0]⟩,
    ⟨(some 16), .mov (.t 4), none, []⟩,
    ⟨(some 17), .iaddr 1 (.t 15) (.t 16), none, [0, 1, 2]⟩,
    ⟨(some 18), .load 1 false (.t 17), none, [0, 1, 2, 3]⟩,
    ⟨(some 19), .toInt .i64 (.t 18), none, [0, 1, 2, 3, 4]⟩,
    ⟨(some 20), .load 3 true (.t 5), none, []⟩,
    ⟨(some 2), .mov (.t 19), none, [0, 1, 2, 3, 4, 5]⟩,
    ⟨none, .store 3 (.t 3) (.t 20), none, [0, 1, 2, 3, 4, 5, 6, 7]⟩] true)
  (.mask ⟨[2, 3], []⟩ (.ret))))))⟩
/-- beadle/beadleref04.Words -/
def code_ref04_Words : AFunc := ⟨31, [.tmp 2, .cell 3 3 true],
  .seq (.region 0 [
    ⟨(some 1), .box 3 (.t 0), none, []⟩,
    ⟨(some 2), .mov (.c (.d (.str []))), none, []⟩,
    ⟨(some 3), .box 3 (.c (.agg [(.d (.vs true [])), (.d (.int .i64 (0))), (.d (.bool false))])), none, []⟩] false)
  (.seq (.region 1 [
    ⟨(some 9), .load 3 true (.t 1), none, []⟩,
    ⟨(some 10), .call (.c (.fn F_ref04_Byte [])) [(.t 9)], none, []⟩,
    ⟨(some 8), .mov (.t 10), none, []⟩,
    ⟨(some 11), .extract (.t 8) 0, none, []⟩,
    ⟨(some 12), .extract (.t 8) 1, none, []⟩,
    ⟨(some 5), .box 3 (.c (.agg [(.d (.vs true [])), (.d (.int .i64 (0))), (.d (.bool false))])), none, []⟩,
    ⟨(some 4), .mov (.t 11), none, []⟩,
    ⟨none, .store 3 (.t 5) (.t 12), none, []⟩] false)
  (.seq (.region 2 [
    ⟨(some 14), .load 3 true (.t 5), none, []⟩,
    ⟨(some 15), .mov (.t 4), none, []⟩,
    ⟨(some 16), .call (.c (.fn F_ref04_take [])) [(.t 14), (.t 15)], none, []⟩,
    ⟨(some 13), .mov (.t 16), none, []⟩,
    ⟨(some 17), .extract (.t 13) 0, none, []⟩,
    ⟨(some 18), .extract (.t 13) 1, none, []⟩,
    ⟨(some 7), .box 3 (.c (.agg [(.d (.vs true [])), (.d (.int .i64 (0))), (.d (.bool false))])), none, []⟩,
    ⟨(some 6), .mov (.t 17), none, []⟩,
    ⟨none, .store 3 (.t 7) (.t 18), none, []⟩] false)
  (.seq (.seq (.region 3 [
    ⟨(some 19), .faddr 2 (.t 7), none, []⟩,
    ⟨(some 20), .load 1 false (.t 19), none, []⟩] false)
  (.cond (.t 20)
    (.seq (.region 4 [
      ⟨(some 21), .load 3 true (.t 7), none, []⟩,
      ⟨(some 2), .mov (.c (.d (.str []))), none, []⟩,
      ⟨none, .store 3 (.t 3) (.t 21), none, [0, 1]⟩] true)
    (.mask ⟨[2, 3], []⟩ (.ret)))
    (.skip)))
  (.mask ⟨[1, 3, 4, 6, 7], []⟩ (.seq (.region 5 [
    ⟨(some 22), .faddr 0 (.t 1), none, []⟩,
    ⟨(some 23), .load 1 false (.t 22), none, [0]⟩,
    ⟨(some 24), .mov (.t 6), none, []⟩,
    ⟨(some 25), .mov (.t 6), none, []⟩,
    ⟨(some 26), .mov (.t 4), none, []⟩,
    ⟨(some 27), .bin .add (.t 25) (.t 26), none, [3, 4]⟩,
    ⟨(some 28), .slice 1 (.t 23) (some (.t 24)) (some (.t 27)) none, none, [0, 1, 2, 3, 4, 5]⟩,
    ⟨(some 29), .toStr (.t 28), none, [0, 1, 2, 3, 4, 5, 6]⟩,
    ⟨(some 30), .load 3 true (.t 7), none, []⟩,
    ⟨(some 2), .mov (.t 29), none, [0, 1, 2, 3, 4, 5, 6, 7]⟩,
    ⟨none, .store 3 (.t 3) (.t 30), none, [0, 1, 2, 3, 4, 5, 6, 7, 8, 9]⟩] true)
  (.mask ⟨[2, 3], []⟩ (.ret)))))))⟩
def mask_ref04_Thing_0 : Mask := ⟨[1, 2, 3, 6, 8, 9], [.cell 40020 3 24002030 1]⟩
def body_ref04_Thing_0 : ACode :=
  .seq (.seq (.region 16 [
    ⟨(some 51), .mov (.t 9), none, []⟩,
    ⟨(some 52), .mov (.t 6), none, []⟩,
    ⟨(some 53), .bin .lss (.t 51) (.t 52), none, []⟩,
    ⟨(some 54), .mov (.t 53), none, []⟩,
    ⟨(some 55), .faddr 2 (.t 1), (some (54, true)), []⟩,
    ⟨(some 56), .load 1 false (.t 55), (some (54, true)), []⟩,
    ⟨(some 57), .un .not (.t 56), (some (54, true)), []⟩,
    ⟨(some 58), .pick (.t 54) (.t 57) (.c (.d (.bool false))), none, []⟩] false)
  (.mask ⟨[1, 2, 3, 6, 8, 9, 58], [.cell 40020 3 24002030 1]⟩ (.cond (.t 58)
    (.skip)
    (.mask ⟨[1, 2, 3, 8], [.cell 40020 3 24002030 1]⟩ (.exit 0)))))
  (.mask ⟨[1, 2, 3, 6, 8, 9], [.cell 40020 3 24002030 1]⟩ (.seq (.block 1 (.seq (.region 18 [
    ⟨(some 62), .load 3 true (.t 1), none, []⟩,
    ⟨(some 63), .call (.c (.fn F_ref04_Words [])) [(.t 62)], none, []⟩,
    ⟨(some 61), .mov (.t 63), none, []⟩,
    ⟨(some 64), .extract (.t 61) 0, none, []⟩,
    ⟨(some 65), .extract (.t 61) 1, none, []⟩,
    ⟨(some 7), .mov (.t 64), none, []⟩,
    ⟨none, .store 3 (.t 1) (.t 65), none, []⟩] false)
  (.region 19 [
    ⟨(some 66), .faddr 3 (.t 8), none, []⟩,
    ⟨(some 67), .load 1 false (.t 66), none, []⟩,
    ⟨(some 68), .mov (.t 7), none, []⟩,
    ⟨(some 69), .buildSl 1 [(.str [])] 1 [(0, (.t 68))], none, []⟩,
    ⟨(some 70), .append 1 (.t 67) (.t 69), none, []⟩,
    ⟨(some 71), .faddr 3 (.t 8), none, []⟩,
    ⟨none, .store 1 (.t 71) (.t 70), none, []⟩] false)))
  (.mask ⟨[1, 2, 3, 6, 8, 9], [.cell 40020 3 24002030 1]⟩ (.region 17 [
    ⟨(some 59), .mov (.t 9), none, []⟩,
    ⟨(some 60), .bin .add (.t 59) (.c (.d (.int .i64 (1)))), none, []⟩,
    ⟨(some 9), .mov (.t 60), none, []⟩] false))))
/-- beadle/beadleref04.Thing -/
def code_ref04_Thing : AFunc := ⟨84, [.cell 2 4 true, .cell 3 3 true],
  .seq (.region 0 [
    ⟨(some 1), .box 3 (.t 0), none, []⟩,
    ⟨(some 2), .box 4 (.c (.agg [(.d (.int .i64 (0))), (.d (.int .i64 (0))), (.d (.str [])), (.d (.vs true []))])), none, []⟩,
    ⟨(some 3), .box 3 (.c (.agg [(.d (.vs true [])), (.d (.int .i64 (0))), (.d (.bool false))])), none, []⟩] false)
  (.seq (.region 1 [
    ⟨(some 4), .mov (.c (.d (.int .i64 (0)))), none, []⟩,
    ⟨(some 5), .mov (.c (.d (.int .i64 (0)))), none, []⟩,
    ⟨(some 6), .mov (.c (.d (.int .i64 (0)))), none, []⟩,
    ⟨(some 7), .mov (.c (.d (.str []))), none, []⟩] false)
  (.seq (.region 2 [
    ⟨(some 11), .load 3 true (.t 1), none, []⟩,
    ⟨(some 12), .call (.c (.fn F_ref04_Byte [])) [(.t 11)], none, []⟩,
    ⟨(some 10), .mov (.t 12), none, []⟩,
    ⟨(some 13), .extract (.t 10) 0, none, []⟩,
    ⟨(some 14), .extract (.t 10) 1, none, []⟩,
    ⟨(some 4), .mov (.t 13), none, []⟩,
    ⟨none, .store 3 (.t 1) (.t 14), none, []⟩] false)
  (.seq (.region 3 [
    ⟨(some 15), .mov (.t 4), none, []⟩,
    ⟨(some 16), .build [(.d (.int .i64 (0))), (.d (.int .i64 (0))), (.d (.str [])), (.d (.vs true []))] [(0, 1, (.t 15))], none, []⟩,
    ⟨(some 8), .box 4 (.c (.agg [(.d (.int .i64 (0))), (.d (.int .i64 (0))), (.d (.str [])), (.d (.vs true []))])), none, []⟩,
    ⟨none, .store 4 (.t 8) (.t 16), none, []⟩] false)
  (.seq (.seq (.region 4 [
    ⟨(some 17), .mov (.t 4), none, []⟩,
    ⟨(some 18), .bin .eql (.t 17) (.c (.d (.int .i64 (1)))), none, []⟩] false)
  (.cond (.t 18)
    (.seq (.region 5 [
      ⟨(some 20), .load 3 true (.t 1), none, []⟩,
      ⟨(some 21), .call (.c (.fn F_ref04_Number [])) [(.t 20)], none, []⟩,
      ⟨(some 19), .mov (.t 21), none, []⟩,
      ⟨(some 22), .extract (.t 19) 0, none, []⟩,
      ⟨(some 23), .extract (.t 19) 1, none, []⟩,
      ⟨(some 5), .mov (.t 22), none, []⟩,
      ⟨none, .store 3 (.t 1) (.t 23), none, []⟩] false)
    (.region 6 [
      ⟨(some 24), .mov (.t 5), none, []⟩,
      ⟨(some 25), .faddr 1 (.t 8), none, []⟩,
      ⟨none, .store 1 (.t 25) (.t 24), none, []⟩] false))
    (.skip)))
  (.mask ⟨[1, 2, 3, 4, 8], [.cell 40020 3 24002030 1]⟩ (.seq (.seq (.region 7 [
    ⟨(some 26), .mov (.t 4), none, []⟩,
    ⟨(some 27), .bin .eql (.t 26) (.c (.d (.int .i64 (2)))), none, []⟩] false)
  (.cond (.t 27)
    (.seq (.region 8 [
      ⟨(some 29), .load 3 true (.t 1), none, []⟩,
      ⟨(some 30), .call (.c (.fn F_ref04_Byte [])) [(.t 29)], none, []⟩,
      ⟨(some 28), .mov (.t 30), none, []⟩,
      ⟨(some 31), .extract (.t 28) 0, none, []⟩,
      ⟨(some 32), .extract (.t 28) 1, none, []⟩,
      ⟨(some 6), .mov (.t 31), none, []⟩,
      ⟨none, .store 3 (.t 1) (.t 32), none, []⟩] false)
    (.region 9 [
      ⟨(some 33), .mov (.t 6), none, []⟩,
      ⟨(some 34), .faddr 1 (.t 8), none, []⟩,
      ⟨none, .store 1 (.t 34) (.t 33), none, []⟩] false))
    (.skip)))
  (.mask ⟨[1, 2, 3, 4, 8], [.cell 40020 3 24002030 1]⟩ (.seq (.seq (.region 10 [
    ⟨(some 35), .mov (.t 4), none, []⟩,
    ⟨(some 36), .bin .eql (.t 35) (.c (.d (.int .i64 (3)))), none, []⟩] false)
  (.cond (.t 36)
    (.seq (.region 11 [
      ⟨(some 38), .load 3 true (.t 1), none, []⟩,
      ⟨(some 39), .call (.c (.fn F_ref04_Words [])) [(.t 38)], none, []⟩,
      ⟨(some 37), .mov (.t 39), none, []⟩,
      ⟨(some 40), .extract (.t 37) 0, none, []⟩,
      ⟨(some 41), .extract (.t 37) 1, none, []⟩,
      ⟨(some 7), .mov (.t 40), none, []⟩,
      ⟨none, .store 3 (.t 1) (.t 41), none, []⟩] false)
    (.region 12 [
      ⟨(some 42), .mov (.t 7), none, []⟩,
      ⟨(some 43), .faddr 2 (.t 8), none, []⟩,
      ⟨none, .store 1 (.t 43) (.t 42), none, []⟩] false))
    (.skip)))
  (.mask ⟨[1, 2, 3, 4, 8], [.cell 40020 3 24002030 1]⟩ (.seq (.seq (.region 13 [
    ⟨(some 44), .mov (.t 4), none, []⟩,
    ⟨(some 45), .bin .eql (.t 44) (.c (.d (.int .i64 (4)))), none, []⟩] false)
  (.cond (.t 45)
    (.seq (.region 14 [
      ⟨(some 47), .load 3 true (.t 1), none, []⟩,
      ⟨(some 48), .call (.c (.fn F_ref04_Byte [])) [(.t 47)], none, []⟩,
      ⟨(some 46), .mov (.t 48), none, []⟩,
      ⟨(some 49), .extract (.t 46) 0, none, []⟩,
      ⟨(some 50), .extract (.t 46) 1, none, []⟩,
      ⟨(some 6), .mov (.t 49), none, []⟩,
      ⟨none, .store 3 (.t 1) (.t 50), none, []⟩] false)
    (.seq (.region 15 [
      ⟨(some 9), .mov (.c (.d (.int .i64 (0)))), none, []⟩] false)
    (.block 0 (.loop mask_ref04_Thing_0 body_ref04_Thing_0))))
    (.skip)))
  (.mask ⟨[1, 2, 3, 8], [.cell 40020 3 24002030 1]⟩ (.seq (.seq (.region 20 [
    ⟨(some 72), .faddr 2 (.t 1), none, []⟩,
    ⟨(some 73), .load 1 false (.t 72), none, []⟩,
    ⟨(some 74), .mov (.t 73), none, []⟩,
    ⟨(some 75), .load 4 true (.t 8), (some (74, false)), []⟩,
    ⟨(some 76), .call (.c (.fn F_ref02_Check [])) [(.t 75)], (some (74, false)), []⟩,
    ⟨(some 77), .bin .neq (.t 76) (.c (.d (.int .i64 (0)))), (some (74, false)), []⟩,
    ⟨(some 78), .pick (.t 74) (.c (.d (.bool true))) (.t 77), none, []⟩] false)
  (.mask ⟨[1, 2, 3, 8, 78], [.cell 40020 3 24002030 1]⟩ (.cond (.t 78)
    (.seq (.region 21 [
      ⟨(some 79), .faddr 2 (.t 1), none, []⟩,
      ⟨none, .store 1 (.t 79) (.c (.d (.bool true))), none, []⟩] false)
    (.seq (.region 22 [
      ⟨(some 80), .build [(.d (.int .i64 (0))), (.d (.int .i64 (0))), (.d (.str [])), (.d (.vs true []))] [], none, []⟩,
      ⟨(some 81), .load 3 true (.t 1), none, []⟩,
      ⟨none, .store 4 (.t 2) (.t 80), none, [0]⟩,
      ⟨none, .store 3 (.t 3) (.t 81), none, [0, 1, 2]⟩] true)
    (.mask ⟨[2, 3], [.cell 40020 3 24002030 1]⟩ (.ret))))
    (.skip))))
  (.mask ⟨[1, 2, 3, 8], [.cell 40020 3 24002030 1]⟩ (.seq (.region 23 [
    ⟨(some 82), .load 4 true (.t 8), none, []⟩,
    ⟨(some 83), .load 3 true (.t 1), none, []⟩,
    ⟨none, .store 4 (.t 2) (.t 82), none, [0]⟩,
    ⟨none, .store 3 (.t 3) (.t 83), none, [0, 1, 2]⟩] true)
  (.mask ⟨[2, 3], [.cell 40020 3 24002030 1]⟩ (.ret))))))))))))))))⟩
/-- beadle/beadleref04.Left -/
def code_ref04_Left : AFunc := ⟨11, [.tmp 2],
  .seq (.region 0 [
    ⟨(some 1), .box 3 (.t 0), none, []⟩,
    ⟨(some 2), .mov (.c (.d (.int .i64 (0)))), none, []⟩] false)
  (.seq (.seq (.region 1 [
    ⟨(some 3), .faddr 2 (.t 1), none, []⟩,
    ⟨(some 4), .load 1 false (.t 3), none, []⟩] false)
  (.cond (.t 4)
    (.seq (.region 2 [
      ⟨(some 2), .mov (.c (.d (.int .i64 (0)))), none, []⟩] false)
    (.mask ⟨[2], []⟩ (.ret)))
    (.skip)))
  (.mask ⟨[1], []⟩ (.seq (.region 3 [
    ⟨(some 5), .faddr 0 (.t 1), none, []⟩,
    ⟨(some 6), .load 1 false (.t 5), none, []⟩,
    ⟨(some 7), .len .sl (.t 6), none, []⟩,
    ⟨(some 8), .faddr 1 (.t 1), none, []⟩,
    ⟨(some 9), .load 1 false (.t 8), none, []⟩,
    ⟨(some 10), .bin .sub (.t 7) (.t 9), none, []⟩,
    ⟨(some 2), .mov (.t 10), none, []⟩] false)
  (.mask ⟨[2], []⟩ (.ret)))))⟩
/-- beadle/beadleplain.Value -/
def code_plain_Value : AFunc := ⟨31, [.tmp 4],
  .seq (.region 0 [
    ⟨(some 2), .box 4 (.t 0), none, []⟩,
    ⟨(some 3), .box 4 (.t 1), none, []⟩,
    ⟨(some 4), .mov (.c (.d (.bool false))), none, []⟩] false)
  (.seq (.region 1 [
    ⟨(some 5), .faddr 0 (.t 2), none, []⟩,
    ⟨(some 6), .load 1 false (.t 5), none, []⟩,
    ⟨(some 7), .faddr 0 (.t 3), none, []⟩,
    ⟨(some 8), .load 1 false (.t 7), none, []⟩,
    ⟨(some 9), .bin .eql (.t 6) (.t 8), none, []⟩,
    ⟨(some 10), .mov (.t 9), none, []⟩,
    ⟨(some 11), .faddr 1 (.t 2), (some (10, true)), []⟩,
    ⟨(some 12), .load 1 false (.t 11), (some (10, true)), []⟩,
    ⟨(some 13), .faddr 1 (.t 3), (some (10, true)), []⟩,
    ⟨(some 14), .load 1 false (.t 13), (some (10, true)), []⟩,
    ⟨(some 15), .bin .eql (.t 12) (.t 14), (some (10, true)), []⟩,
    ⟨(some 16), .pick (.t 10) (.t 15) (.c (.d (.bool false))), none, []⟩,
    ⟨(some 17), .mov (.t 16), none, []⟩,
    ⟨(some 18), .faddr 2 (.t 2), (some (17, true)), []⟩,
    ⟨(some 19), .load 1 false (.t 18), (some (17, true)), []⟩,
    ⟨(some 20), .faddr 2 (.t 3), (some (17, true)), []⟩,
    ⟨(some 21), .load 1 false (.t 20), (some (17, true)), []⟩,
    ⟨(some 22), .bin .eql (.t 19) (.t 21), (some (17, true)), []⟩,
    ⟨(some 23), .pick (.t 17) (.t 22) (.c (.d (.bool false))), none, []⟩,
    ⟨(some 24), .mov (.t 23), none, []⟩,
    ⟨(some 25), .faddr 3 (.t 2), (some (24, true)), []⟩,
    ⟨(some 26), .load 1 false (.t 25), (some (24, true)), []⟩,
    ⟨(some 27), .faddr 3 (.t 3), (some (24, true)), []⟩,
    ⟨(some 28), .load 1 false (.t 27), (some (24, true)), []⟩,
    ⟨(some 29), .call (.c (.fn F_plain_Texts [])) [(.t 26), (.t 28)], (some (24, true)), []⟩,
    ⟨(some 30), .pick (.t 24) (.t 29) (.c (.d (.bool false))), none, []⟩,
    ⟨(some 4), .mov (.t 30), none, []⟩] false)
  (.mask ⟨[4], []⟩ (.ret)))⟩
def mask_octet_Out_Int_0 : Mask := ⟨[0, 1, 4], [.cell 0 0 20000000 1]⟩
def body_octet_Out_Int_0 : ACode :=
  .seq (.seq (.region 2 [
    ⟨(some 7), .mov (.t 4), none, []⟩,
    ⟨(some 8), .bin .geq (.t 7) (.c (.d (.int .i64 (0)))), none, []⟩] false)
  (.mask ⟨[0, 1, 4, 8], [.cell 0 0 20000000 1]⟩ (.cond (.t 8)
    (.skip)
    (.mask ⟨[], [.cell 0 0 20000000 1]⟩ (.exit 0)))))
  (.mask ⟨[0, 1, 4], [.cell 0 0 20000000 1]⟩ (.seq (.block 1 (.region 4 [
    ⟨(some 11), .mov (.t 0), none, []⟩,
    ⟨(some 12), .mov (.t 0), none, []⟩,
    ⟨(some 13), .nilchk (.t 12), none, [1]⟩,
    ⟨(some 14), .faddr 0 (.t 13), none, [1, 2]⟩,
    ⟨(some 15), .load 1 false (.t 14), none, [1, 2, 3]⟩,
    ⟨(some 16), .mov (.t 1), none, []⟩,
    ⟨(some 17), .mov (.t 4), none, []⟩,
    ⟨(some 18), .bin .shr (.t 16) (.t 17), none, [5, 6]⟩,
    ⟨(some 19), .toInt .u8 (.t 18), none, [5, 6, 7]⟩,
    ⟨(some 20), .buildSl 1 [(.int .u8 (0))] 1 [(0, (.t 19))], none, [5, 6, 7, 8]⟩,
    ⟨(some 21), .append 1 (.t 15) (.t 20), none, [1, 2, 3, 4, 5, 6, 7, 8, 9]⟩,
    ⟨(some 22), .nilchk (.t 11), none, [0, 1, 2, 3, 4, 5, 6, 7, 8, 9, 10]⟩,
    ⟨(some 23), .faddr 0 (.t 22), none, [0, 1, 2, 3, 4, 5, 6, 7, 8, 9, 10, 11]⟩,
    ⟨none, .store 1 (.t 23) (.t 21), none, [0, 1, 2, 3, 4, 5, 6, 7, 8, 9, 10, 11, 12]⟩] true))
  (.mask ⟨[0, 1, 4], [.cell 0 0 20000000 1]⟩ (.region 3 [
    ⟨(some 9), .mov (.t 4), none, []⟩,
    ⟨(some 10), .bin .sub (.t 9) (.c (.d (.int .i64 (8)))), none, []⟩,
    ⟨(some 4), .mov (.t 10), none, []⟩] false))))
/-- (*beadle/octet.Out).Int -/
def code_octet_Out_Int : AFunc := ⟨24, [],
  .seq (.seq (.region 0 [
    ⟨(some 5), .mov (.t 0), none, []⟩,
    ⟨(some 6), .call (.c (.fn F_octet_Out_fail [])) [(.t 5), (.c (.d (.int .i64 (0))))], none, []⟩] false)
  (.mask ⟨[0, 1, 6], [.cell 0 0 20000000 1]⟩ (.cond (.t 6)
    (.mask ⟨[], [.cell 0 0 20000000 1]⟩ (.ret))
    (.skip))))
  (.mask ⟨[0, 1], [.cell 0 0 20000000 1]⟩ (.seq (.region 1 [
    ⟨(some 4), .mov (.c (.d (.int .i64 (56)))), none, []⟩] false)
  (.mask ⟨[0, 1, 4], [.cell 0 0 20000000 1]⟩ (.block 0 (.loop mask_octet_Out_Int_0 body_octet_Out_Int_0)))))⟩
/-- (*beadle/octet.Out).Byte -/
def code_octet_Out_Byte : AFunc := ⟨26, [],
  .seq (.region 0 [
    ⟨(some 4), .mov (.c (.d (.int .i64 (0)))), none, []⟩] false)
  (.seq (.seq (.region 1 [
    ⟨(some 5), .mov (.t 1), none, []⟩,
    ⟨(some 6), .bin .lss (.t 5) (.c (.d (.int .i64 (0)))), none, []⟩,
    ⟨(some 7), .mov (.t 6), none, []⟩,
    ⟨(some 8), .mov (.t 1), (some (7, false)), []⟩,
    ⟨(some 9), .bin .gtr (.t 8) (.c (.d (.int .i64 (255)))), (some (7, false)), []⟩,
    ⟨(some 10), .pick (.t 7) (.c (.d (.bool true))) (.t 9), none, []⟩] false)
  (.mask ⟨[0, 1, 4, 10], []⟩ (.cond (.t 10)
    (.region 2 [
      ⟨(some 4), .mov (.c (.d (.int .i64 (4)))), none, []⟩] false)
    (.skip))))
  (.mask ⟨[0, 1, 4], []⟩ (.seq (.region 3 [
    ⟨(some 11), .mov (.t 0), none, []⟩,
    ⟨(some 12), .mov (.t 4), none, []⟩,
    ⟨(some 13), .call (.c (.fn F_octet_Out_fail [])) [(.t 11), (.t 12)], none, []⟩,
    ⟨(some 14), .un .not (.t 13), none, []⟩] false)
  (.cond (.t 14)
    (.region 4 [
      ⟨(some 15), .mov (.t 0), none, []⟩,
      ⟨(some 16), .mov (.t 0), none, []⟩,
      ⟨(some 17), .nilchk (.t 16), none, []⟩,
      ⟨(some 18), .faddr 0 (.t 17), none, []⟩,
      ⟨(some 19), .load 1 false (.t 18), none, []⟩,
      ⟨(some 20), .mov (.t 1), none, []⟩,
      ⟨(some 21), .toInt .u8 (.t 20), none, []⟩,
      ⟨(some 22), .buildSl 1 [(.int .u8 (0))] 1 [(0, (.t 21))], none, []⟩,
      ⟨(some 23), .append 1 (.t 19) (.t 22), none, []⟩,
      ⟨(some 24), .nilchk (.t 15), none, []⟩,
      ⟨(some 25), .faddr 0 (.t 24), none, []⟩,
      ⟨none, .store 1 (.t 25) (.t 23), none, []⟩] false)
    (.skip)))))⟩
/-- (*beadle/octet.Out).Text -/
def code_octet_Out_Text : AFunc := ⟨26, [],
  .seq (.region 0 [
    ⟨(some 4), .mov (.c (.d (.int .i64 (0)))), none, []⟩] false)
  (.seq (.seq (.region 1 [
    ⟨(some 5), .mov (.t 1), none, []⟩,
    ⟨(some 6), .len .str (.t 5), none, []⟩,
    ⟨(some 7), .bin .gtr (.t 6) (.c (.d (.int .i64 (255)))), none, []⟩] false)
  (.cond (.t 7)
    (.region 2 [
      ⟨(some 4), .mov (.c (.d (.int .i64 (5)))), none, []⟩] false)
    (.skip)))
  (.mask ⟨[0, 1, 4], []⟩ (.seq (.region 3 [
    ⟨(some 8), .mov (.t 0), none, []⟩,
    ⟨(some 9), .mov (.t 4), none, []⟩,
    ⟨(some 10), .call (.c (.fn F_octet_Out_fail [])) [(.t 8), (.t 9)], none, []⟩,
    ⟨(some 11), .un .not (.t 10), none, []⟩] false)
  (.cond (.t 11)
    (.region 4 [
      ⟨(some 12), .mov (.t 0), none, []⟩,
      ⟨(some 13), .mov (.t 0), none, []⟩,
      ⟨(some 14), .nilchk (.t 13), none, []⟩,
      ⟨(some 15), .faddr 0 (.t 14), none, []⟩,
      ⟨(some 16), .load 1 false (.t 15), none, []⟩,
      ⟨(some 17), .mov (.t 1), none, []⟩,
      ⟨(some 18), .len .str (.t 17), none, []⟩,
      ⟨(some 19), .toInt .u8 (.t 18), none, []⟩,
      ⟨(some 20), .buildSl 1 [(.int .u8 (0))] 1 [(0, (.t 19))], none, []⟩,
      ⟨(some 21), .append 1 (.t 16) (.t 20), none, []⟩,
      ⟨(some 22), .mov (.t 1), none, []⟩,
      ⟨(some 23), .append 1 (.t 21) (.t 22), none, []⟩,
      ⟨(some 24), .nilchk (.t 12), none, []⟩,
      ⟨(some 25), .faddr 0 (.t 24), none, []⟩,
      ⟨none, .store 1 (.t 25) (.t 23), none, []⟩] false)
    (.skip)))))⟩
def mask_octet_Out_Value_0 : Mask := ⟨[0, 42, 43, 44], []⟩
def body_octet_Out_Value_0 : ACode :=
  .seq (.region 13 [
    ⟨(some 45), .bin .lss (.t 44) (.t 43), none, []⟩] false)
  (.seq (.cond (.t 45)
    (.skip)
    (.mask ⟨[], []⟩ (.exit 1)))
  (.mask ⟨[0, 42, 43, 44], []⟩ (.seq (.block 2 (.seq (.region 14 [
    ⟨(some 46), .iaddr 1 (.t 42) (.t 44), none, []⟩,
    ⟨(some 47), .load 1 false (.t 46), none, []⟩,
    ⟨(some 5), .mov (.t 47), none, []⟩] false)
  (.region 15 [
    ⟨(some 48), .mov (.t 0), none, []⟩,
    ⟨(some 49), .mov (.t 5), none, []⟩,
    ⟨(some 50), .call (.c (.fn F_octet_Out_Text [])) [(.t 48), (.t 49)], none, []⟩] false)))
  (.mask ⟨[0, 42, 43, 44], []⟩ (.region 16 [
    ⟨(some 51), .bin .add (.t 44) (.c (.d (.int .i64 (1)))), none, []⟩,
    ⟨(some 44), .mov (.t 51), none, []⟩] false)))))
/-- (*beadle/octet.Out).Value -/
def code_octet_Out_Value : AFunc := ⟨52, [],
  .seq (.region 0 [
    ⟨(some 3), .box 4 (.t 1), none, []⟩] false)
  (.seq (.seq (.region 1 [
    ⟨(some 6), .mov (.t 0), none, []⟩,
    ⟨(some 7), .load 4 true (.t 3), none, []⟩,
    ⟨(some 8), .call (.c (.fn F_value_Check [])) [(.t 7)], none, []⟩,
    ⟨(some 9), .call (.c (.fn F_octet_Out_fail [])) [(.t 6), (.t 8)], none, []⟩] false)
  (.cond (.t 9)
    (.mask ⟨[], []⟩ (.ret))
    (.skip)))
  (.mask ⟨[0, 3], []⟩ (.seq (.region 2 [
    ⟨(some 10), .mov (.t 0), none, []⟩,
    ⟨(some 11), .faddr 0 (.t 3), none, []⟩,
    ⟨(some 12), .load 1 false (.t 11), none, []⟩,
    ⟨(some 13), .call (.c (.fn F_octet_Out_Byte [])) [(.t 10), (.t 12)], none, []⟩] false)
  (.seq (.region 3 [
    ⟨(some 14), .faddr 0 (.t 3), none, []⟩,
    ⟨(some 15), .load 1 false (.t 14), none, []⟩] false)
  (.block 0 (.seq (.region 4 [
    ⟨(some 17), .bin .eql (.t 15) (.c (.d (.int .i64 (1)))), none, []⟩,
    ⟨(some 16), .mov (.t 17), none, []⟩] false)
  (.cond (.t 16)
    (.region 5 [
      ⟨(some 18), .mov (.t 0), none, []⟩,
      ⟨(some 19), .faddr 1 (.t 3), none, []⟩,
      ⟨(some 20), .load 1 false (.t 19), none, []⟩,
      ⟨(some 21), .call (.c (.fn F_octet_Out_Int [])) [(.t 18), (.t 20)], none, []⟩] false)
    (.seq (.region 6 [
      ⟨(some 23), .bin .eql (.t 15) (.c (.d (.int .i64 (2)))), none, []⟩,
      ⟨(some 22), .mov (.t 23), none, []⟩] false)
    (.cond (.t 22)
      (.region 7 [
        ⟨(some 24), .mov (.t 0), none, []⟩,
        ⟨(some 25), .faddr 1 (.t 3), none, []⟩,
        ⟨(some 26), .load 1 false (.t 25), none, []⟩,
        ⟨(some 27), .call (.c (.fn F_octet_Out_Byte [])) [(.t 24), (.t 26)], none, []⟩] false)
      (.seq (.region 8 [
        ⟨(some 29), .bin .eql (.t 15) (.c (.d (.int .i64 (3)))), none, []⟩,
        ⟨(some 28), .mov (.t 29), none, []⟩] false)
      (.cond (.t 28)
        (.region 9 [
          ⟨(some 30), .mov (.t 0), none, []⟩,
          ⟨(some 31), .faddr 2 (.t 3), none, []⟩,
          ⟨(some 32), .load 1 false (.t 31), none, []⟩,
          ⟨(some 33), .call (.c (.fn F_octet_Out_Text [])) [(.t 30), (.t 32)], none, []⟩] false)
        (.seq (.region 10 [
          ⟨(some 35), .bin .eql (.t 15) (.c (.d (.int .i64 (4)))), none, []⟩,
          ⟨(some 34), .mov (.t 35), none, []⟩] false)
        (.cond (.t 34)
          (.seq (.region 11 [
            ⟨(some 36), .mov (.t 0), none, []⟩,
            ⟨(some 37), .faddr 3 (.t 3), none, []⟩,
            ⟨(some 38), .load 1 false (.t 37), none, []⟩,
            ⟨(some 39), .len .sl (.t 38), none, []⟩,
            ⟨(some 40), .call (.c (.fn F_octet_Out_Byte [])) [(.t 36), (.t 39)], none, []⟩] false)
          (.seq (.region 12 [
            ⟨(some 41), .faddr 3 (.t 3), none, []⟩,
            ⟨(some 42), .load 1 false (.t 41), none, []⟩,
            ⟨(some 43), .len .sl (.t 42), none, []⟩,
            ⟨(some 44), .mov (.c (.d (.int .i64 (0)))), none, []⟩] false)
          (.block 1 (.loop mask_octet_Out_Value_0 body_octet_Out_Value_0))))
          (.skip))))))))))))))⟩
/-- (*beadle/octet.Out).Done -/
def code_octet_Out_Done : AFunc := ⟨23, [.tmp 2, .tmp 3],
  .seq (.region 0 [
    ⟨(some 2), .mov (.c (.d (.vs true []))), none, []⟩,
    ⟨(some 3), .mov (.c (.d (.int .i64 (0)))), none, []⟩] false)
  (.seq (.block 0 (.seq (.region 1 [
    ⟨(some 5), .mov (.t 0), none, []⟩,
    ⟨(some 6), .isnil .p false (.t 5), none, []⟩,
    ⟨(some 4), .mov (.t 6), none, []⟩] false)
  (.cond (.t 4)
    (.seq (.region 2 [
      ⟨(some 2), .mov (.c (.d (.vs true []))), none, []⟩,
      ⟨(some 3), .mov (.c (.d (.int .i64 (9)))), none, []⟩] false)
    (.mask ⟨[2, 3], [.slot 2 10000020 1]⟩ (.ret)))
    (.seq (.region 3 [
      ⟨(some 8), .mov (.t 0), none, []⟩,
      ⟨(some 9), .nilchk (.t 8), none, []⟩,
      ⟨(some 10), .faddr 1 (.t 9), none, []⟩,
      ⟨(some 11), .load 1 false (.t 10), none, []⟩,
      ⟨(some 12), .bin .neq (.t 11) (.c (.d (.int .i64 (0)))), none, []⟩,
      ⟨(some 7), .mov (.t 12), none, []⟩] false)
    (.cond (.t 7)
      (.seq (.region 4 [
        ⟨(some 13), .mov (.t 0), none, []⟩,
        ⟨(some 14), .nilchk (.t 13), none, [0]⟩,
        ⟨(some 15), .faddr 1 (.t 14), none, [0, 1]⟩,
        ⟨(some 16), .load 1 false (.t 15), none, [0, 1, 2]⟩,
        ⟨(some 2), .mov (.c (.d (.vs true []))), none, []⟩,
        ⟨(some 3), .mov (.t 16), none, [0, 1, 2, 3, 4]⟩] true)
      (.mask ⟨[2, 3], [.slot 2 10000020 1]⟩ (.ret)))
      (.skip))))))
  (.mask ⟨[0], []⟩ (.seq (.region 5 [
    ⟨(some 17), .buildSl 1 [(.int .u8 (0))] 0 [], none, []⟩,
    ⟨(some 18), .mov (.t 0), none, []⟩,
    ⟨(some 19), .nilchk (.t 18), none, []⟩,
    ⟨(some 20), .faddr 0 (.t 19), none, []⟩,
    ⟨(some 21), .load 1 false (.t 20), none, []⟩,
    ⟨(some 22), .append 1 (.t 17) (.t 21), none, []⟩,
    ⟨(some 2), .mov (.t 22), none, []⟩,
    ⟨(some 3), .mov (.c (.d (.int .i64 (0)))), none, []⟩] false)
  (.mask ⟨[2, 3], [.slot 2 10000020 1]⟩ (.ret)))))⟩
def mask_ref06_Name_0 : Mask := ⟨[0, 3], []⟩
def body_ref06_Name_0 : ACode :=
  .seq (.seq (.region 4 [
    ⟨(some 17), .mov (.t 3), none, []⟩,
    ⟨(some 18), .mov (.t 0), none, []⟩,
    ⟨(some 19), .len .str (.t 18), none, []⟩,
    ⟨(some 20), .bin .lss (.t 17) (.t 19), none, []⟩] false)
  (.cond (.t 20)
    (.skip)
    (.mask ⟨[], []⟩ (.exit 0))))
  (.mask ⟨[0, 3], []⟩ (.seq (.block 1 (.seq (.region 6 [
    ⟨(some 23), .mov (.t 0), none, []⟩,
    ⟨(some 24), .mov (.t 3), none, []⟩,
    ⟨(some 25), .idx (.t 23) (.t 24), none, []⟩,
    ⟨(some 26), .call (.c (.fn F_ref06_tail [])) [(.t 25)], none, []⟩,
    ⟨(some 27), .un .not (.t 26), none, []⟩] false)
  (.cond (.t 27)
    (.seq (.region 7 [
      ⟨(some 2), .mov (.c (.d (.bool false))), none, []⟩] false)
    (.mask ⟨[2], []⟩ (.ret)))
    (.skip))))
  (.mask ⟨[0, 3], []⟩ (.region 5 [
    ⟨(some 21), .mov (.t 3), none, []⟩,
    ⟨(some 22), .bin .add (.t 21) (.c (.d (.int .i64 (1)))), none, []⟩,
    ⟨(some 3), .mov (.t 22), none, []⟩] false))))
/-- beadle/beadleref06.Name -/
def code_ref06_Name : AFunc := ⟨28, [.tmp 2],
  .seq (.region 0 [
    ⟨(some 2), .mov (.c (.d (.bool false))), none, []⟩] false)
  (.seq (.seq (.region 1 [
    ⟨(some 4), .mov (.t 0), none, []⟩,
    ⟨(some 5), .bin .eql (.t 4) (.c (.d (.str []))), none, []⟩,
    ⟨(some 6), .mov (.t 5), none, []⟩,
    ⟨(some 7), .mov (.t 0), (some (6, false)), []⟩,
    ⟨(some 8), .len .str (.t 7), (some (6, false)), []⟩,
    ⟨(some 9), .bin .gtr (.t 8) (.c (.d (.int .i64 (16)))), (some (6, false)), []⟩,
    ⟨(some 10), .pick (.t 6) (.c (.d (.bool true))) (.t 9), none, []⟩,
    ⟨(some 11), .mov (.t 10), none, []⟩,
    ⟨(some 12), .mov (.t 0), (some (11, false)), []⟩,
    ⟨(some 13), .idx (.t 12) (.c (.d (.int .i64 (0)))), (some (11, false)), []⟩,
    ⟨(some 14), .call (.c (.fn F_ref06_head [])) [(.t 13)], (some (11, false)), []⟩,
    ⟨(some 15), .un .not (.t 14), (some (11, false)), []⟩,
    ⟨(some 16), .pick (.t 11) (.c (.d (.bool true))) (.t 15), none, []⟩] false)
  (.mask ⟨[0, 16], []⟩ (.cond (.t 16)
    (.seq (.region 2 [
      ⟨(some 2), .mov (.c (.d (.bool false))), none, []⟩] false)
    (.mask ⟨[2], []⟩ (.ret)))
    (.skip))))
  (.mask ⟨[0], []⟩ (.seq (.seq (.region 3 [
    ⟨(some 3), .mov (.c (.d (.int .i64 (1)))), none, []⟩] false)
  (.block 0 (.loop mask_ref06_Name_0 body_ref06_Name_0)))
  (.mask ⟨[], []⟩ (.seq (.region 8 [
    ⟨(some 2), .mov (.c (.d (.bool true))), none, []⟩] false)
  (.mask ⟨[2], []⟩ (.ret)))))))⟩
/-- beadle/beadleref02.Check -/
def code_ref02_Check : AFunc := ⟨104, [.tmp 2],
  .seq (.region 0 [
    ⟨(some 1), .box 4 (.t 0), none, []⟩,
    ⟨(some 2), .mov (.c (.d (.int .i64 (0)))), none, []⟩] false)
  (.seq (.seq (.region 1 [
    ⟨(some 4), .faddr 0 (.t 1), none, []⟩,
    ⟨(some 5), .load 1 false (.t 4), none, []⟩,
    ⟨(some 6), .bin .neq (.t 5) (.c (.d (.int .i64 (1)))), none, []⟩,
    ⟨(some 7), .mov (.t 6), none, []⟩,
    ⟨(some 8), .faddr 0 (.t 1), (some (7, true)), []⟩,
    ⟨(some 9), .load 1 false (.t 8), (some (7, true)), []⟩,
    ⟨(some 10), .bin .neq (.t 9) (.c (.d (.int .i64 (2)))), (some (7, true)), []⟩,
    ⟨(some 11), .pick (.t 7) (.t 10) (.c (.d (.bool false))), none, []⟩,
    ⟨(some 12), .mov (.t 11), none, []⟩,
    ⟨(some 13), .faddr 0 (.t 1), (some (12, true)), []⟩,
    ⟨(some 14), .load 1 false (.t 13), (some (12, true)), []⟩,
    ⟨(some 15), .bin .neq (.t 14) (.c (.d (.int .i64 (3)))), (some (12, true)), []⟩,
    ⟨(some 16), .pick (.t 12) (.t 15) (.c (.d (.bool false))), none, []⟩,
    ⟨(some 17), .mov (.t 16), none, []⟩,
    ⟨(some 18), .faddr 0 (.t 1), (some (17, true)), []⟩,
    ⟨(some 19), .load 1 false (.t 18), (some (17, true)), []⟩,
    ⟨(some 20), .bin .neq (.t 19) (.c (.d (.int .i64 (4)))), (some (17, true)), []⟩,
    ⟨(some 21), .pick (.t 17) (.t 20) (.c (.d (.bool false))), none, []⟩] false)
  (.mask ⟨[1, 21], []⟩ (.cond (.t 21)
    (.seq (.region 2 [
      ⟨(some 2), .mov (.c (.d (.int .i64 (12)))), none, []⟩] false)
    (.mask ⟨[2], []⟩ (.ret)))
    (.skip))))
  (.mask ⟨[1], []⟩ (.seq (.region 3 [
    ⟨(some 22), .faddr 3 (.t 1), none, []⟩,
    ⟨(some 23), .load 1 false (.t 22), none, []⟩,
    ⟨(some 24), .call (.c (.fn F_ref02_bad [])) [(.t 23)], none, []⟩,
    ⟨(some 3), .mov (.t 24), none, []⟩] false)
  (.seq (.seq (.region 4 [
    ⟨(some 25), .faddr 2 (.t 1), none, []⟩,
    ⟨(some 26), .load 1 false (.t 25), none, []⟩,
    ⟨(some 27), .len .str (.t 26), none, []⟩,
    ⟨(some 28), .bin .gtr (.t 27) (.c (.d (.int .i64 (32)))), none, []⟩,
    ⟨(some 29), .mov (.t 28), none, []⟩,
    ⟨(some 30), .mov (.t 3), (some (29, false)), []⟩,
    ⟨(some 31), .bin .eql (.t 30) (.c (.d (.int .i64 (1)))), (some (29, false)), []⟩,
    ⟨(some 32), .pick (.t 29) (.c (.d (.bool true))) (.t 31), none, []⟩] false)
  (.mask ⟨[1, 3, 32], []⟩ (.cond (.t 32)
    (.seq (.region 5 [
      ⟨(some 2), .mov (.c (.d (.int .i64 (5)))), none, []⟩] false)
    (.mask ⟨[2], []⟩ (.ret)))
    (.skip))))
  (.mask ⟨[1, 3], []⟩ (.seq (.seq (.region 6 [
    ⟨(some 33), .faddr 3 (.t 1), none, []⟩,
    ⟨(some 34), .load 1 false (.t 33), none, []⟩,
    ⟨(some 35), .len .sl (.t 34), none, []⟩,
    ⟨(some 36), .bin .gtr (.t 35) (.c (.d (.int .i64 (8)))), none, []⟩] false)
  (.cond (.t 36)
    (.seq (.region 7 [
      ⟨(some 2), .mov (.c (.d (.int .i64 (3)))), none, []⟩] false)
    (.mask ⟨[2], []⟩ (.ret)))
    (.skip)))
  (.mask ⟨[1, 3], []⟩ (.seq (.seq (.region 8 [
    ⟨(some 37), .mov (.t 3), none, []⟩,
    ⟨(some 38), .bin .eql (.t 37) (.c (.d (.int .i64 (2)))), none, []⟩] false)
  (.cond (.t 38)
    (.seq (.region 9 [
      ⟨(some 2), .mov (.c (.d (.int .i64 (4)))), none, []⟩] false)
    (.mask ⟨[2], []⟩ (.ret)))
    (.skip)))
  (.mask ⟨[1], []⟩ (.seq (.seq (.region 10 [
    ⟨(some 39), .faddr 0 (.t 1), none, []⟩,
    ⟨(some 40), .load 1 false (.t 39), none, []⟩,
    ⟨(some 41), .bin .eql (.t 40) (.c (.d (.int .i64 (1)))), none, []⟩,
    ⟨(some 42), .mov (.t 41), none, []⟩,
    ⟨(some 43), .faddr 2 (.t 1), (some (42, true)), []⟩,
    ⟨(some 44), .load 1 false (.t 43), (some (42, true)), []⟩,
    ⟨(some 45), .bin .eql (.t 44) (.c (.d (.str []))), (some (42, true)), []⟩,
    ⟨(some 46), .pick (.t 42) (.t 45) (.c (.d (.bool false))), none, []⟩,
    ⟨(some 47), .mov (.t 46), none, []⟩,
    ⟨(some 48), .faddr 3 (.t 1), (some (47, true)), []⟩,
    ⟨(some 49), .load 1 false (.t 48), (some (47, true)), []⟩,
    ⟨(some 50), .len .sl (.t 49), (some (47, true)), []⟩,
    ⟨(some 51), .bin .eql (.t 50) (.c (.d (.int .i64 (0)))), (some (47, true)), []⟩,
    ⟨(some 52), .pick (.t 47) (.t 51) (.c (.d (.bool false))), none, []⟩] false)
  (.mask ⟨[1, 52], []⟩ (.cond (.t 52)
    (.seq (.region 11 [
      ⟨(some 2), .mov (.c (.d (.int .i64 (0)))), none, []⟩] false)
    (.mask ⟨[2], []⟩ (.ret)))
    (.skip))))
  (.mask ⟨[1], []⟩ (.seq (.seq (.region 12 [
    ⟨(some 53), .faddr 0 (.t 1), none, []⟩,
    ⟨(some 54), .load 1 false (.t 53), none, []⟩,
    ⟨(some 55), .bin .eql (.t 54) (.c (.d (.int .i64 (2)))), none, []⟩,
    ⟨(some 56), .mov (.t 55), none, []⟩,
    ⟨(some 57), .faddr 1 (.t 1), (some (56, true)), []⟩,
    ⟨(some 58), .load 1 false (.t 57), (some (56, true)), []⟩,
    ⟨(some 59), .bin .eql (.t 58) (.c (.d (.int .i64 (0)))), (some (56, true)), []⟩,
    ⟨(some 60), .mov (.t 59), (some (56, true)), []⟩,
    ⟨(some 61), .faddr 1 (.t 1), (some (60, false)), []⟩,
    ⟨(some 62), .load 1 false (.t 61), (some (60, false)), []⟩,
    ⟨(some 63), .bin .eql (.t 62) (.c (.d (.int .i64 (1)))), (some (60, false)), []⟩,
    ⟨(some 64), .pick (.t 60) (.c (.d (.bool true))) (.t 63), (some (56, true)), []⟩,
    ⟨(some 65), .pick (.t 56) (.t 64) (.c (.d (.bool false))), none, []⟩,
    ⟨(some 66), .mov (.t 65), none, []⟩,
    ⟨(some 67), .faddr 2 (.t 1), (some (66, true)), []⟩,
    ⟨(some 68), .load 1 false (.t 67), (some (66, true)), []⟩,
    ⟨(some 69), .bin .eql (.t 68) (.c (.d (.str []))), (some (66, true)), []⟩,
    ⟨(some 70), .pick (.t 66) (.t 69) (.c (.d (.bool false))), none, []⟩,
    ⟨(some 71), .mov (.t 70), none, []⟩,
    ⟨(some 72), .faddr 3 (.t 1), (some (71, true)), []⟩,
    ⟨(some 73), .load 1 false (.t 72), (some (71, true)), []⟩,
    ⟨(some 74), .len .sl (.t 73), (some (71, true)), []⟩,
    ⟨(some 75), .bin .eql (.t 74) (.c (.d (.int .i64 (0)))), (some (71, true)), []⟩,
    ⟨(some 76), .pick (.t 71) (.t 75) (.c (.d (.bool false))), none, []⟩] false)
  (.mask ⟨[1, 76], []⟩ (.cond (.t 76)
    (.seq (.region 13 [
      ⟨(some 2), .mov (.c (.d (.int .i64 (0)))), none, []⟩] false)
    (.mask ⟨[2], []⟩ (.ret)))
    (.skip))))
  (.mask ⟨[1], []⟩ (.seq (.seq (.region 14 [
    ⟨(some 77), .faddr 0 (.t 1), none, []⟩,
    ⟨(some 78), .load 1 false (.t 77), none, []⟩,
    ⟨(some 79), .bin .eql (.t 78) (.c (.d (.int .i64 (3)))), none, []⟩,
    ⟨(some 80), .mov (.t 79), none, []⟩,
    ⟨(some 81), .faddr 1 (.t 1), (some (80, true)), []⟩,
    ⟨(some 82), .load 1 false (.t 81), (some (80, true)), []⟩,
    ⟨(some 83), .bin .eql (.t 82) (.c (.d (.int .i64 (0)))), (some (80, true)), []⟩,
    ⟨(some 84), .pick (.t 80) (.t 83) (.c (.d (.bool false))), none, []⟩,
    ⟨(some 85), .mov (.t 84), none, []⟩,
    ⟨(some 86), .faddr 3 (.t 1), (some (85, true)), []⟩,
    ⟨(some 87), .load 1 false (.t 86), (some (85, true)), []⟩,
    ⟨(some 88), .len .sl (.t 87), (some (85, true)), []⟩,
    ⟨(some 89), .bin .eql (.t 88) (.c (.d (.int .i64 (0)))), (some (85, true)), []⟩,
    ⟨(some 90), .pick (.t 85) (.t 89) (.c (.d (.bool false))), none, []⟩] false)
  (.mask ⟨[1, 90], []⟩ (.cond (.t 90)
    (.seq (.region 15 [
      ⟨(some 2), .mov (.c (.d (.int .i64 (0)))), none, []⟩] false)
    (.mask ⟨[2], []⟩ (.ret)))
    (.skip))))
  (.mask ⟨[1], []⟩ (.seq (.seq (.region 16 [
    ⟨(some 91), .faddr 0 (.t 1), none, []⟩,
    ⟨(some 92), .load 1 false (.t 91), none, []⟩,
    ⟨(some 93), .bin .eql (.t 92) (.c (.d (.int .i64 (4)))), none, []⟩,
    ⟨(some 94), .mov (.t 93), none, []⟩,
    ⟨(some 95), .faddr 1 (.t 1), (some (94, true)), []⟩,
    ⟨(some 96), .load 1 false (.t 95), (some (94, true)), []⟩,
    ⟨(some 97), .bin .eql (.t 96) (.c (.d (.int .i64 (0)))), (some (94, true)), []⟩,
    ⟨(some 98), .pick (.t 94) (.t 97) (.c (.d (.bool false))), none, []⟩,
    ⟨(some 99), .mov (.t 98), none, []⟩,
    ⟨(some 100), .faddr 2 (.t 1), (some (99, true)), []⟩,
    ⟨(some 101), .load 1 false (.t 100), (some (99, true)), []⟩,
    ⟨(some 102), .bin .eql (.t 101) (.c (.d (.str []))), (some (99, true)), []⟩,
    ⟨(some 103), .pick (.t 99) (.t 102) (.c (.d (.bool false))), none, []⟩] false)
  (.mask ⟨[103], []⟩ (.cond (.t 103)
    (.seq (.region 17 [
      ⟨(some 2), .mov (.c (.d (.int .i64 (0)))), none, []⟩] false)
    (.mask ⟨[2], []⟩ (.ret)))
    (.skip))))
  (.mask ⟨[], []⟩ (.seq (.region 18 [
    ⟨(some 2), .mov (.c (.d (.int .i64 (4)))), none, []⟩] false)
  (.mask ⟨[2], []⟩ (.ret))))))))))))))))))))⟩
/-- beadle/beadleref23.empty -/
def code_ref23_empty : AFunc := ⟨22, [.tmp 2],
  .seq (.region 0 [
    ⟨(some 1), .box 4 (.t 0), none, []⟩,
    ⟨(some 2), .mov (.c (.d (.bool false))), none, []⟩] false)
  (.seq (.region 1 [
    ⟨(some 3), .faddr 0 (.t 1), none, []⟩,
    ⟨(some 4), .load 1 false (.t 3), none, []⟩,
    ⟨(some 5), .bin .eql (.t 4) (.c (.d (.int .i64 (0)))), none, []⟩,
    ⟨(some 6), .mov (.t 5), none, []⟩,
    ⟨(some 7), .faddr 1 (.t 1), (some (6, true)), []⟩,
    ⟨(some 8), .load 1 false (.t 7), (some (6, true)), []⟩,
    ⟨(some 9), .bin .eql (.t 8) (.c (.d (.int .i64 (0)))), (some (6, true)), []⟩,
    ⟨(some 10), .pick (.t 6) (.t 9) (.c (.d (.bool false))), none, []⟩,
    ⟨(some 11), .mov (.t 10), none, []⟩,
    ⟨(some 12), .faddr 2 (.t 1), (some (11, true)), []⟩,
    ⟨(some 13), .load 1 false (.t 12), (some (11, true)), []⟩,
    ⟨(some 14), .bin .eql (.t 13) (.c (.d (.str []))), (some (11, true)), []⟩,
    ⟨(some 15), .pick (.t 11) (.t 14) (.c (.d (.bool false))), none, []⟩,
    ⟨(some 16), .mov (.t 15), none, []⟩,
    ⟨(some 17), .faddr 3 (.t 1), (some (16, true)), []⟩,
    ⟨(some 18), .load 1 false (.t 17), (some (16, true)), []⟩,
    ⟨(some 19), .len .sl (.t 18), (some (16, true)), []⟩,
    ⟨(some 20), .bin .eql (.t 19) (.c (.d (.int .i64 (0)))), (some (16, true)), []⟩,
    ⟨(some 21), .pick (.t 16) (.t 20) (.c (.d (.bool false))), none, []⟩,
    ⟨(some 2), .mov (.t 21), none, []⟩] false)
  (.mask ⟨[2], []⟩ (.ret)))⟩
/-- beadle/event.blank -/
def code_event_blank : AFunc := ⟨63, [.tmp 2],
  .seq (.region 0 [
    ⟨(some 1), .box 10 (.t 0), none, []⟩,
    ⟨(some 2), .mov (.c (.d (.bool false))), none, []⟩] false)
  (.seq (.region 1 [
    ⟨(some 5), .faddr 3 (.t 1), none, []⟩,
    ⟨(some 6), .load 1 false (.t 5), none, []⟩,
    ⟨(some 7), .bin .eql (.t 6) (.c (.d (.str []))), none, []⟩,
    ⟨(some 8), .mov (.t 7), none, []⟩,
    ⟨(some 9), .faddr 4 (.t 1), (some (8, true)), []⟩,
    ⟨(some 10), .load 1 false (.t 9), (some (8, true)), []⟩,
    ⟨(some 11), .bin .eql (.t 10) (.c (.d (.str []))), (some (8, true)), []⟩,
    ⟨(some 12), .pick (.t 8) (.t 11) (.c (.d (.bool false))), none, []⟩,
    ⟨(some 3), .mov (.t 12), none, []⟩] false)
  (.mask ⟨[1, 3], []⟩ (.seq (.region 2 [
    ⟨(some 13), .faddr 6 (.t 1), none, []⟩,
    ⟨(some 14), .load 4 true (.t 13), none, []⟩,
    ⟨(some 15), .build [(.d (.int .i64 (0))), (.d (.int .i64 (0))), (.d (.str [])), (.d (.vs true []))] [], none, []⟩,
    ⟨(some 16), .call (.c (.fn F_value_Same [])) [(.t 14), (.t 15)], none, []⟩,
    ⟨(some 4), .mov (.t 16), none, []⟩] false)
  (.seq (.seq (.region 3 [
    ⟨(some 17), .faddr 1 (.t 1), none, []⟩,
    ⟨(some 18), .load 1 false (.t 17), none, []⟩] false)
  (.block 0 (.seq (.region 4 [
    ⟨(some 20), .bin .eql (.t 18) (.c (.d (.int .i64 (1)))), none, []⟩,
    ⟨(some 19), .mov (.t 20), none, []⟩] false)
  (.cond (.t 19)
    (.seq (.region 5 [
      ⟨(some 21), .mov (.t 4), none, []⟩,
      ⟨(some 2), .mov (.t 21), none, []⟩] false)
    (.mask ⟨[2], []⟩ (.ret)))
    (.seq (.region 6 [
      ⟨(some 23), .bin .eql (.t 18) (.c (.d (.int .i64 (2)))), none, []⟩,
      ⟨(some 22), .mov (.t 23), none, []⟩] false)
    (.cond (.t 22)
      (.seq (.region 7 [
        ⟨(some 24), .mov (.t 4), none, []⟩,
        ⟨(some 25), .mov (.t 24), none, []⟩,
        ⟨(some 26), .mov (.t 3), (some (25, true)), []⟩,
        ⟨(some 27), .pick (.t 25) (.t 26) (.c (.d (.bool false))), none, []⟩,
        ⟨(some 2), .mov (.t 27), none, []⟩] false)
      (.mask ⟨[2], []⟩ (.ret)))
      (.seq (.region 8 [
        ⟨(some 29), .bin .eql (.t 18) (.c (.d (.int .i64 (3)))), none, []⟩,
        ⟨(some 28), .mov (.t 29), none, []⟩] false)
      (.cond (.t 28)
        (.seq (.region 9 [
          ⟨(some 30), .mov (.t 4), none, []⟩,
          ⟨(some 31), .mov (.t 30), none, []⟩,
          ⟨(some 32), .mov (.t 3), (some (31, true)), []⟩,
          ⟨(some 33), .pick (.t 31) (.t 32) (.c (.d (.bool false))), none, []⟩,
          ⟨(some 34), .mov (.t 33), none, []⟩,
          ⟨(some 35), .faddr 5 (.t 1), (some (34, true)), []⟩,
          ⟨(some 36), .load 1 false (.t 35), (some (34, true)), []⟩,
          ⟨(some 37), .bin .eql (.t 36) (.c (.d (.str []))), (some (34, true)), []⟩,
          ⟨(some 38), .pick (.t 34) (.t 37) (.c (.d (.bool false))), none, []⟩,
          ⟨(some 2), .mov (.t 38), none, []⟩] false)
        (.mask ⟨[2], []⟩ (.ret)))
        (.seq (.region 10 [
          ⟨(some 40), .bin .eql (.t 18) (.c (.d (.int .i64 (4)))), none, []⟩,
          ⟨(some 39), .mov (.t 40), none, []⟩] false)
        (.cond (.t 39)
          (.seq (.region 11 [
            ⟨(some 41), .faddr 2 (.t 1), none, []⟩,
            ⟨(some 42), .load 1 false (.t 41), none, []⟩,
            ⟨(some 43), .bin .eql (.t 42) (.c (.d (.int .i64 (0)))), none, []⟩,
            ⟨(some 44), .mov (.t 43), none, []⟩,
            ⟨(some 45), .faddr 4 (.t 1), (some (44, true)), []⟩,
            ⟨(some 46), .load 1 false (.t 45), (some (44, true)), []⟩,
            ⟨(some 47), .bin .eql (.t 46) (.c (.d (.str []))), (some (44, true)), []⟩,
            ⟨(some 48), .pick (.t 44) (.t 47) (.c (.d (.bool false))), none, []⟩,
            ⟨(some 2), .mov (.t 48), none, []⟩] false)
          (.mask ⟨[2], []⟩ (.ret)))
          (.skip)))))))))))
  (.mask ⟨[1, 3, 4], []⟩ (.seq (.region 12 [
    ⟨(some 49), .mov (.t 4), none, []⟩,
    ⟨(some 50), .mov (.t 49), none, []⟩,
    ⟨(some 51), .mov (.t 3), (some (50, true)), []⟩,
    ⟨(some 52), .pick (.t 50) (.t 51) (.c (.d (.bool false))), none, []⟩,
    ⟨(some 53), .mov (.t 52), none, []⟩,
    ⟨(some 54), .faddr 5 (.t 1), (some (53, true)), []⟩,
    ⟨(some 55), .load 1 false (.t 54), (some (53, true)), []⟩,
    ⟨(some 56), .bin .eql (.t 55) (.c (.d (.str []))), (some (53, true)), []⟩,
    ⟨(some 57), .pick (.t 53) (.t 56) (.c (.d (.bool false))), none, []⟩,
    ⟨(some 58), .mov (.t 57), none, []⟩,
    ⟨(some 59), .faddr 2 (.t 1), (some (58, true)), []⟩,
    ⟨(some 60), .load 1 false (.t 59), (some (58, true)), []⟩,
    ⟨(some 61), .bin .eql (.t 60) (.c (.d (.int .i64 (0)))), (some (58, true)), []⟩,
    ⟨(some 62), .pick (.t 58) (.t 61) (.c (.d (.bool false))), none, []⟩,
    ⟨(some 2), .mov (.t 62), none, []⟩] false)
  (.mask ⟨[2], []⟩ (.ret))))))))⟩
/-- beadle/event.named -/
def code_event_named : AFunc := ⟨41, [.tmp 2],
  .seq (.region 0 [
    ⟨(some 1), .box 10 (.t 0), none, []⟩,
    ⟨(some 2), .mov (.c (.d (.bool false))), none, []⟩] false)
  (.seq (.seq (.region 1 [
    ⟨(some 3), .faddr 1 (.t 1), none, []⟩,
    ⟨(some 4), .load 1 false (.t 3), none, []⟩] false)
  (.block 0 (.seq (.region 2 [
    ⟨(some 6), .bin .eql (.t 4) (.c (.d (.int .i64 (1)))), none, []⟩,
    ⟨(some 5), .mov (.t 6), none, []⟩] false)
  (.cond (.t 5)
    (.seq (.region 3 [
      ⟨(some 7), .faddr 3 (.t 1), none, []⟩,
      ⟨(some 8), .load 1 false (.t 7), none, []⟩,
      ⟨(some 9), .call (.c (.fn F_lex_Name [])) [(.t 8)], none, []⟩,
      ⟨(some 10), .mov (.t 9), none, []⟩,
      ⟨(some 11), .faddr 4 (.t 1), (some (10, true)), []⟩,
      ⟨(some 12), .load 1 false (.t 11), (some (10, true)), []⟩,
      ⟨(some 13), .call (.c (.fn F_lex_Name [])) [(.t 12)], (some (10, true)), []⟩,
      ⟨(some 14), .pick (.t 10) (.t 13) (.c (.d (.bool false))), none, []⟩,
      ⟨(some 15), .mov (.t 14), none, []⟩,
      ⟨(some 16), .faddr 5 (.t 1), (some (15, true)), []⟩,
      ⟨(some 17), .load 1 false (.t 16), (some (15, true)), []⟩,
      ⟨(some 18), .call (.c (.fn F_lex_Name [])) [(.t 17)], (some (15, true)), []⟩,
      ⟨(some 19), .pick (.t 15) (.t 18) (.c (.d (.bool false))), none, []⟩,
      ⟨(some 2), .mov (.t 19), none, []⟩] false)
    (.mask ⟨[2], []⟩ (.ret)))
    (.seq (.region 4 [
      ⟨(some 21), .bin .eql (.t 4) (.c (.d (.int .i64 (2)))), none, []⟩,
      ⟨(some 20), .mov (.t 21), none, []⟩] false)
    (.cond (.t 20)
      (.seq (.region 5 [
        ⟨(some 22), .faddr 5 (.t 1), none, []⟩,
        ⟨(some 23), .load 1 false (.t 22), none, []⟩,
        ⟨(some 24), .call (.c (.fn F_lex_Name [])) [(.t 23)], none, []⟩,
        ⟨(some 2), .mov (.t 24), none, []⟩] false)
      (.mask ⟨[2], []⟩ (.ret)))
      (.seq (.region 6 [
        ⟨(some 26), .bin .eql (.t 4) (.c (.d (.int .i64 (4)))), none, []⟩,
        ⟨(some 25), .mov (.t 26), none, []⟩] false)
      (.cond (.t 25)
        (.seq (.region 7 [
          ⟨(some 27), .faddr 3 (.t 1), none, []⟩,
          ⟨(some 28), .load 1 false (.t 27), none, []⟩,
          ⟨(some 29), .call (.c (.fn F_lex_Name [])) [(.t 28)], none, []⟩,
          ⟨(some 30), .mov (.t 29), none, []⟩,
          ⟨(some 31), .faddr 5 (.t 1), (some (30, true)), []⟩,
          ⟨(some 32), .load 1 false (.t 31), (some (30, true)), []⟩,
          ⟨(some 33), .call (.c (.fn F_lex_Name [])) [(.t 32)], (some (30, true)), []⟩,
          ⟨(some 34), .pick (.t 30) (.t 33) (.c (.d (.bool false))), none, []⟩,
          ⟨(some 35), .mov (.t 34), none, []⟩,
          ⟨(some 36), .faddr 6 (.t 1), (some (35, true)), []⟩,
          ⟨(some 37), .load 4 true (.t 36), (some (35, true)), []⟩,
          ⟨(some 38), .call (.c (.fn F_value_Check [])) [(.t 37)], (some (35, true)), []⟩,
          ⟨(some 39), .bin .eql (.t 38) (.c (.d (.int .i64 (0)))), (some (35, true)), []⟩,
          ⟨(some 40), .pick (.t 35) (.t 39) (.c (.d (.bool false))), none, []⟩,
          ⟨(some 2), .mov (.t 40), none, []⟩] false)
        (.mask ⟨[2], []⟩ (.ret)))
        (.skip)))))))))
  (.mask ⟨[], []⟩ (.seq (.region 8 [
    ⟨(some 2), .mov (.c (.d (.bool true))), none, []⟩] false)
  (.mask ⟨[2], []⟩ (.ret)))))⟩
/-- (*beadle/octet.In).take -/
def code_octet_In_take : AFunc := ⟨48, [.tmp 4],
  .seq (.region 0 [
    ⟨(some 4), .mov (.c (.d (.vs true []))), none, []⟩] false)
  (.seq (.seq (.region 1 [
    ⟨(some 6), .mov (.t 0), none, []⟩,
    ⟨(some 7), .isnil .p false (.t 6), none, []⟩,
    ⟨(some 8), .mov (.t 7), none, []⟩,
    ⟨(some 9), .mov (.t 0), (some (8, false)), []⟩,
    ⟨(some 10), .nilchk (.t 9), (some (8, false)), []⟩,
    ⟨(some 11), .faddr 1 (.t 10), (some (8, false)), []⟩,
    ⟨(some 12), .load 1 false (.t 11), (some (8, false)), []⟩,
    ⟨(some 13), .un .not (.t 12), (some (8, false)), []⟩,
    ⟨(some 14), .pick (.t 8) (.c (.d (.bool true))) (.t 13), none, []⟩,
    ⟨(some 15), .mov (.t 14), none, []⟩,
    ⟨(some 16), .mov (.t 0), (some (15, false)), []⟩,
    ⟨(some 17), .nilchk (.t 16), (some (15, false)), []⟩,
    ⟨(some 18), .faddr 2 (.t 17), (some (15, false)), []⟩,
    ⟨(some 19), .load 1 false (.t 18), (some (15, false)), []⟩,
    ⟨(some 20), .bin .neq (.t 19) (.c (.d (.int .i64 (0)))), (some (15, false)), []⟩,
    ⟨(some 21), .pick (.t 15) (.c (.d (.bool true))) (.t 20), none, []⟩] false)
  (.mask ⟨[0, 1, 21], []⟩ (.cond (.t 21)
    (.seq (.region 2 [
      ⟨(some 4), .mov (.c (.d (.vs true []))), none, []⟩] false)
    (.mask ⟨[4], []⟩ (.ret)))
    (.skip))))
  (.mask ⟨[0, 1], []⟩ (.seq (.seq (.region 3 [
    ⟨(some 22), .mov (.t 1), none, []⟩,
    ⟨(some 23), .mov (.t 0), none, []⟩,
    ⟨(some 24), .nilchk (.t 23), none, []⟩,
    ⟨(some 25), .faddr 0 (.t 24), none, []⟩,
    ⟨(some 26), .load 1 false (.t 25), none, []⟩,
    ⟨(some 27), .len .sl (.t 26), none, []⟩,
    ⟨(some 28), .bin .gtr (.t 22) (.t 27), none, []⟩] false)
  (.cond (.t 28)
    (.seq (.region 4 [
      ⟨(some 29), .mov (.t 0), none, []⟩,
      ⟨(some 30), .call (.c (.fn F_octet_In_bad [])) [(.t 29)], none, []⟩] false)
    (.seq (.region 5 [
      ⟨(some 4), .mov (.c (.d (.vs true []))), none, []⟩] false)
    (.mask ⟨[4], []⟩ (.ret))))
    (.skip)))
  (.mask ⟨[0, 1], []⟩ (.seq (.region 6 [
    ⟨(some 31), .mov (.t 0), none, []⟩,
    ⟨(some 32), .nilchk (.t 31), none, []⟩,
    ⟨(some 33), .faddr 0 (.t 32), none, []⟩,
    ⟨(some 34), .load 1 false (.t 33), none, []⟩,
    ⟨(some 35), .mov (.t 1), none, []⟩,
    ⟨(some 36), .mov (.t 1), none, []⟩,
    ⟨(some 37), .slice 1 (.t 34) none (some (.t 35)) (some (.t 36)), none, []⟩,
    ⟨(some 5), .mov (.t 37), none, []⟩] false)
  (.seq (.region 7 [
    ⟨(some 38), .mov (.t 0), none, []⟩,
    ⟨(some 39), .mov (.t 0), none, []⟩,
    ⟨(some 40), .nilchk (.t 39), none, []⟩,
    ⟨(some 41), .faddr 0 (.t 40), none, []⟩,
    ⟨(some 42), .load 1 false (.t 41), none, []⟩,
    ⟨(some 43), .mov (.t 1), none, []⟩,
    ⟨(some 44), .slice 1 (.t 42) (some (.t 43)) none none, none, []⟩,
    ⟨(some 45), .nilchk (.t 38), none, []⟩,
    ⟨(some 46), .faddr 0 (.t 45), none, []⟩,
    ⟨none, .store 1 (.t 46) (.t 44), none, []⟩] false)
  (.seq (.region 8 [
    ⟨(some 47), .mov (.t 5), none, []⟩,
    ⟨(some 4), .mov (.t 47), none, []⟩] false)
  (.mask ⟨[4], []⟩ (.ret)))))))))⟩
def mask_octet_In_body_0 : Mask := ⟨[0, 4, 5, 27, 28], [.cell 20020 3 22002030 1]⟩
def body_octet_In_body_0 : ACode :=
  .seq (.region 11 [
    ⟨(some 29), .bin .lss (.t 28) (.t 27), none, []⟩] false)
  (.seq (.cond (.t 29)
    (.skip)
    (.mask ⟨[4, 5], [.cell 20020 3 22002030 1]⟩ (.exit 1)))
  (.mask ⟨[0, 4, 5, 27, 28], [.cell 20020 3 22002030 1]⟩ (.seq (.block 2 (.region 12 [
    ⟨(some 30), .faddr 3 (.t 5), none, []⟩,
    ⟨(some 31), .load 1 false (.t 30), none, [0]⟩,
    ⟨(some 32), .mov (.t 0), none, []⟩,
    ⟨(some 33), .call (.c (.fn F_octet_In_Text [])) [(.t 32)], none, [2]⟩,
    ⟨(some 34), .buildSl 1 [(.str [])] 1 [(0, (.t 33))], none, [2, 3]⟩,
    ⟨(some 35), .append 1 (.t 31) (.t 34), none, [0, 1, 2, 3, 4]⟩,
    ⟨(some 36), .faddr 3 (.t 5), none, [0, 1, 2, 3, 4, 5]⟩,
    ⟨none, .store 1 (.t 36) (.t 35), none, [0, 1, 2, 3, 4, 5, 6]⟩] true))
  (.mask ⟨[0, 4, 5, 27, 28], [.cell 20020 3 22002030 1]⟩ (.region 13 [
    ⟨(some 37), .bin .add (.t 28) (.c (.d (.int .i64 (1)))), none, []⟩,
    ⟨(some 28), .mov (.t 37), none, []⟩] false)))))
/-- (*beadle/octet.In).body -/
def code_octet_In_body : AFunc := ⟨39, [.cell 4 4 true],
  .seq (.region 0 [
    ⟨(some 4), .box 4 (.c (.agg [(.d (.int .i64 (0))), (.d (.int .i64 (0))), (.d (.str [])), (.d (.vs true []))])), none, []⟩] false)
  (.seq (.region 1 [
    ⟨(some 6), .mov (.t 1), none, []⟩,
    ⟨(some 7), .build [(.d (.int .i64 (0))), (.d (.int .i64 (0))), (.d (.str [])), (.d (.vs true []))] [(0, 1, (.t 6))], none, []⟩,
    ⟨(some 5), .box 4 (.c (.agg [(.d (.int .i64 (0))), (.d (.int .i64 (0))), (.d (.str [])), (.d (.vs true []))])), none, []⟩,
    ⟨none, .store 4 (.t 5) (.t 7), none, []⟩] false)
  (.seq (.seq (.region 2 [
    ⟨(some 8), .mov (.t 1), none, []⟩] false)
  (.block 0 (.seq (.region 3 [
    ⟨(some 10), .bin .eql (.t 8) (.c (.d (.int .i64 (1)))), none, []⟩,
    ⟨(some 9), .mov (.t 10), none, []⟩] false)
  (.cond (.t 9)
    (.region 4 [
      ⟨(some 11), .mov (.t 0), none, []⟩,
      ⟨(some 12), .call (.c (.fn F_octet_In_Int [])) [(.t 11)], none, []⟩,
      ⟨(some 13), .faddr 1 (.t 5), none, []⟩,
      ⟨none, .store 1 (.t 13) (.t 12), none, []⟩] false)
    (.seq (.region 5 [
      ⟨(some 15), .bin .eql (.t 8) (.c (.d (.int .i64 (2)))), none, []⟩,
      ⟨(some 14), .mov (.t 15), none, []⟩] false)
    (.cond (.t 14)
      (.region 6 [
        ⟨(some 16), .mov (.t 0), none, []⟩,
        ⟨(some 17), .call (.c (.fn F_octet_In_Byte [])) [(.t 16)], none, []⟩,
        ⟨(some 18), .faddr 1 (.t 5), none, []⟩,
        ⟨none, .store 1 (.t 18) (.t 17), none, []⟩] false)
      (.seq (.region 7 [
        ⟨(some 20), .bin .eql (.t 8) (.c (.d (.int .i64 (3)))), none, []⟩,
        ⟨(some 19), .mov (.t 20), none, []⟩] false)
      (.cond (.t 19)
        (.region 8 [
          ⟨(some 21), .mov (.t 0), none, []⟩,
          ⟨(some 22), .call (.c (.fn F_octet_In_Text [])) [(.t 21)], none, []⟩,
          ⟨(some 23), .faddr 2 (.t 5), none, []⟩,
          ⟨none, .store 1 (.t 23) (.t 22), none, []⟩] false)
        (.seq (.region 9 [
          ⟨(some 25), .bin .eql (.t 8) (.c (.d (.int .i64 (4)))), none, []⟩,
          ⟨(some 24), .mov (.t 25), none, []⟩] false)
        (.cond (.t 24)
          (.seq (.region 10 [
            ⟨(some 26), .mov (.t 0), none, []⟩,
            ⟨(some 27), .call (.c (.fn F_octet_In_Byte [])) [(.t 26)], none, []⟩,
            ⟨(some 28), .mov (.c (.d (.int .i64 (0)))), none, []⟩] false)
          (.block 1 (.loop mask_octet_In_body_0 body_octet_In_body_0)))
          (.skip)))))))))))
  (.mask ⟨[4, 5], [.cell 20020 3 22002030 1]⟩ (.seq (.region 14 [
    ⟨(some 38), .load 4 true (.t 5), none, []⟩,
    ⟨none, .store 4 (.t 4) (.t 38), none, []⟩] false)
  (.mask ⟨[4], [.cell 20020 3 22002030 1]⟩ (.ret))))))⟩
/-- beadle/value.Check -/
def code_value_Check : AFunc := ⟨29, [.tmp 2],
  .seq (.region 0 [
    ⟨(some 1), .box 4 (.t 0), none, []⟩,
    ⟨(some 2), .mov (.c (.d (.int .i64 (0)))), none, []⟩] false)
  (.seq (.block 0 (.seq (.region 1 [
    ⟨(some 4), .faddr 0 (.t 1), none, []⟩,
    ⟨(some 5), .load 1 false (.t 4), none, []⟩,
    ⟨(some 6), .bin .lss (.t 5) (.c (.d (.int .i64 (1)))), none, []⟩,
    ⟨(some 7), .mov (.t 6), none, []⟩,
    ⟨(some 8), .faddr 0 (.t 1), (some (7, false)), []⟩,
    ⟨(some 9), .load 1 false (.t 8), (some (7, false)), []⟩,
    ⟨(some 10), .bin .gtr (.t 9) (.c (.d (.int .i64 (4)))), (some (7, false)), []⟩,
    ⟨(some 11), .pick (.t 7) (.c (.d (.bool true))) (.t 10), none, []⟩,
    ⟨(some 3), .mov (.t 11), none, []⟩] false)
  (.mask ⟨[1, 3], []⟩ (.cond (.t 3)
    (.seq (.region 2 [
      ⟨(some 2), .mov (.c (.d (.int .i64 (12)))), none, []⟩] false)
    (.mask ⟨[2], []⟩ (.ret)))
    (.seq (.region 3 [
      ⟨(some 13), .faddr 2 (.t 1), none, []⟩,
      ⟨(some 14), .load 1 false (.t 13), none, []⟩,
      ⟨(some 15), .call (.c (.fn F_value_long [])) [(.t 14)], none, []⟩,
      ⟨(some 16), .mov (.t 15), none, []⟩,
      ⟨(some 17), .faddr 3 (.t 1), (some (16, false)), []⟩,
      ⟨(some 18), .load 1 false (.t 17), (some (16, false)), []⟩,
      ⟨(some 19), .call (.c (.fn F_slices_ContainsFunc_string_string [])) [(.t 18), (.c (.fn F_value_long []))], (some (16, false)), []⟩,
      ⟨(some 20), .pick (.t 16) (.c (.d (.bool true))) (.t 19), none, []⟩,
      ⟨(some 12), .mov (.t 20), none, []⟩] false)
    (.mask ⟨[1, 12], []⟩ (.cond (.t 12)
      (.seq (.region 4 [
        ⟨(some 2), .mov (.c (.d (.int .i64 (5)))), none, []⟩] false)
      (.mask ⟨[2], []⟩ (.ret)))
      (.seq (.region 5 [
        ⟨(some 22), .faddr 3 (.t 1), none, []⟩,
        ⟨(some 23), .load 1 false (.t 22), none, []⟩,
        ⟨(some 24), .len .sl (.t 23), none, []⟩,
        ⟨(some 25), .bin .gtr (.t 24) (.c (.d (.int .i64 (8)))), none, []⟩,
        ⟨(some 21), .mov (.t 25), none, []⟩] false)
      (.cond (.t 21)
        (.seq (.region 6 [
          ⟨(some 2), .mov (.c (.d (.int .i64 (3)))), none, []⟩] false)
        (.mask ⟨[2], []⟩ (.ret)))
        (.seq (.region 7 [
          ⟨(some 27), .load 4 true (.t 1), none, []⟩,
          ⟨(some 28), .call (.c (.fn F_value_odd [])) [(.t 27)], none, []⟩,
          ⟨(some 26), .mov (.t 28), none, []⟩] false)
        (.cond (.t 26)
          (.seq (.region 8 [
            ⟨(some 2), .mov (.c (.d (.int .i64 (4)))), none, []⟩] false)
          (.mask ⟨[2], []⟩ (.ret)))
          (.skip))))))))))))
  (.mask ⟨[], []⟩ (.seq (.region 9 [
    ⟨(some 2), .mov (.c (.d (.int .i64 (0)))), none, []⟩] false)
  (.mask ⟨[2], []⟩ (.ret)))))⟩
/-- (*beadle/octet.In).bad -/
def code_octet_In_bad : AFunc := ⟨8, [],
  .region 0 [
    ⟨(some 2), .mov (.t 0), none, []⟩,
    ⟨(some 3), .mov (.t 0), none, []⟩,
    ⟨(some 4), .nilchk (.t 2), none, []⟩,
    ⟨(some 5), .faddr 0 (.t 4), none, []⟩,
    ⟨none, .store 1 (.t 5) (.c (.d (.vs true []))), none, []⟩,
    ⟨(some 6), .nilchk (.t 3), none, []⟩,
    ⟨(some 7), .faddr 2 (.t 6), none, []⟩,
    ⟨none, .store 1 (.t 7) (.c (.d (.int .i64 (16)))), none, []⟩] false⟩
/-- beadle/beadleref04.take -/
def code_ref04_take : AFunc := ⟨30, [.tmp 4, .cell 5 3 true],
  .seq (.region 0 [
    ⟨(some 2), .box 3 (.t 0), none, []⟩,
    ⟨(some 4), .mov (.c (.d (.int .i64 (0)))), none, []⟩,
    ⟨(some 5), .box 3 (.c (.agg [(.d (.vs true [])), (.d (.int .i64 (0))), (.d (.bool false))])), none, []⟩] false)
  (.seq (.seq (.region 1 [
    ⟨(some 7), .faddr 2 (.t 2), none, []⟩,
    ⟨(some 8), .load 1 false (.t 7), none, []⟩,
    ⟨(some 9), .mov (.t 8), none, []⟩,
    ⟨(some 10), .mov (.t 1), (some (9, false)), []⟩,
    ⟨(some 11), .faddr 0 (.t 2), (some (9, false)), []⟩,
    ⟨(some 12), .load 1 false (.t 11), (some (9, false)), []⟩,
    ⟨(some 13), .len .sl (.t 12), (some (9, false)), []⟩,
    ⟨(some 14), .faddr 1 (.t 2), (some (9, false)), []⟩,
    ⟨(some 15), .load 1 false (.t 14), (some (9, false)), []⟩,
    ⟨(some 16), .bin .sub (.t 13) (.t 15), (some (9, false)), []⟩,
    ⟨(some 17), .bin .gtr (.t 10) (.t 16), (some (9, false)), []⟩,
    ⟨(some 18), .pick (.t 9) (.c (.d (.bool true))) (.t 17), none, []⟩] false)
  (.mask ⟨[1, 2, 5, 18], []⟩ (.cond (.t 18)
    (.seq (.region 2 [
      ⟨(some 19), .faddr 2 (.t 2), none, []⟩,
      ⟨none, .store 1 (.t 19) (.c (.d (.bool true))), none, []⟩] false)
    (.seq (.region 3 [
      ⟨(some 20), .load 3 true (.t 2), none, []⟩,
      ⟨(some 4), .mov (.c (.d (.int .i64 (0)))), none, []⟩,
      ⟨none, .store 3 (.t 5) (.t 20), none, [0, 1]⟩] true)
    (.mask ⟨[4, 5], []⟩ (.ret))))
    (.skip))))
  (.mask ⟨[1, 2, 5], []⟩ (.seq (.region 4 [
    ⟨(some 21), .faddr 1 (.t 2), none, []⟩,
    ⟨(some 22), .load 1 false (.t 21), none, []⟩,
    ⟨(some 6), .mov (.t 22), none, []⟩] false)
  (.seq (.region 5 [
    ⟨(some 23), .faddr 1 (.t 2), none, []⟩,
    ⟨(some 24), .load 1 false (.t 23), none, []⟩,
    ⟨(some 25), .mov (.t 1), none, []⟩,
    ⟨(some 26), .bin .add (.t 24) (.t 25), none, []⟩,
    ⟨(some 27), .faddr 1 (.t 2), none, []⟩,
    ⟨none, .store 1 (.t 27) (.t 26), none, []⟩] false)
  (.seq (.region 6 [
    ⟨(some 28), .mov (.t 6), none, []⟩,
    ⟨(some 29), .load 3 true (.t 2), none, []⟩,
    ⟨(some 4), .mov (.t 28), none, [0]⟩,
    ⟨none, .store 3 (.t 5) (.t 29), none, [0, 1, 2]⟩] true)
  (.mask ⟨[4, 5], []⟩ (.ret)))))))⟩
def mask_plain_Texts_0 : Mask := ⟨[0, 1, 5], []⟩
def body_plain_Texts_0 : ACode :=
  .seq (.seq (.region 4 [
    ⟨(some 11), .mov (.t 5), none, []⟩,
    ⟨(some 12), .mov (.t 0), none, []⟩,
    ⟨(some 13), .len .sl (.t 12), none, []⟩,
    ⟨(some 14), .bin .lss (.t 11) (.t 13), none, []⟩] false)
  (.cond (.t 14)
    (.skip)
    (.mask ⟨[], []⟩ (.exit 0))))
  (.mask ⟨[0, 1, 5], []⟩ (.seq (.block 1 (.seq (.region 6 [
    ⟨(some 17), .mov (.t 0), none, []⟩,
    ⟨(some 18), .mov (.t 5), none, []⟩,
    ⟨(some 19), .iaddr 1 (.t 17) (.t 18), none, [0, 1]⟩,
    ⟨(some 20), .load 1 false (.t 19), none, [0, 1, 2]⟩,
    ⟨(some 21), .mov (.t 1), none, []⟩,
    ⟨(some 22), .mov (.t 5), none, []⟩,
    ⟨(some 23), .iaddr 1 (.t 21) (.t 22), none, [4, 5]⟩,
    ⟨(some 24), .load 1 false (.t 23), none, [4, 5, 6]⟩,
    ⟨(some 25), .bin .neq (.t 20) (.t 24), none, [0, 1, 2, 3, 4, 5, 6, 7]⟩] true)
  (.cond (.t 25)
    (.seq (.region 7 [
      ⟨(some 4), .mov (.c (.d (.bool false))), none, []⟩] false)
    (.mask ⟨[4], []⟩ (.ret)))
    (.skip))))
  (.mask ⟨[0, 1, 5], []⟩ (.region 5 [
    ⟨(some 15), .mov (.t 5), none, []⟩,
    ⟨(some 16), .bin .add (.t 15) (.c (.d (.int .i64 (1)))), none, []⟩,
    ⟨(some 5), .mov (.t 16), none, []⟩] false))))
/-- beadle/beadleplain.Texts -/
def code_plain_Texts : AFunc := ⟨26, [.tmp 4],
  .seq (.region 0 [
    ⟨(some 4), .mov (.c (.d (.bool false))), none, []⟩] false)
  (.seq (.seq (.region 1 [
    ⟨(some 6), .mov (.t 0), none, []⟩,
    ⟨(some 7), .len .sl (.t 6), none, []⟩,
    ⟨(some 8), .mov (.t 1), none, []⟩,
    ⟨(some 9), .len .sl (.t 8), none, []⟩,
    ⟨(some 10), .bin .neq (.t 7) (.t 9), none, []⟩] false)
  (.cond (.t 10)
    (.seq (.region 2 [
      ⟨(some 4), .mov (.c (.d (.bool false))), none, []⟩] false)
    (.mask ⟨[4], []⟩ (.ret)))
    (.skip)))
  (.mask ⟨[0, 1], []⟩ (.seq (.seq (.region 3 [
    ⟨(some 5), .mov (.c (.d (.int .i64 (0)))), none, []⟩] false)
  (.block 0 (.loop mask_plain_Texts_0 body_plain_Texts_0)))
  (.mask ⟨[], []⟩ (.seq (.region 8 [
    ⟨(some 4), .mov (.c (.d (.bool true))), none, []⟩] false)
  (.mask ⟨[4], []⟩ (.ret)))))))⟩
/-- (*beadle/octet.Out).fail -/
def code_octet_Out_fail : AFunc := ⟨21, [.tmp 4],
  .seq (.region 0 [
    ⟨(some 4), .mov (.c (.d (.bool false))), none, []⟩] false)
  (.seq (.seq (.region 1 [
    ⟨(some 5), .mov (.t 0), none, []⟩,
    ⟨(some 6), .isnil .p false (.t 5), none, []⟩] false)
  (.cond (.t 6)
    (.seq (.region 2 [
      ⟨(some 4), .mov (.c (.d (.bool true))), none, []⟩] false)
    (.mask ⟨[4], []⟩ (.ret)))
    (.skip)))
  (.mask ⟨[0, 1], []⟩ (.seq (.seq (.region 3 [
    ⟨(some 7), .mov (.t 0), none, []⟩,
    ⟨(some 8), .nilchk (.t 7), none, []⟩,
    ⟨(some 9), .faddr 1 (.t 8), none, []⟩,
    ⟨(some 10), .load 1 false (.t 9), none, []⟩,
    ⟨(some 11), .bin .eql (.t 10) (.c (.d (.int .i64 (0)))), none, []⟩] false)
  (.cond (.t 11)
    (.region 4 [
      ⟨(some 12), .mov (.t 0), none, []⟩,
      ⟨(some 13), .mov (.t 1), none, []⟩,
      ⟨(some 14), .nilchk (.t 12), none, []⟩,
      ⟨(some 15), .faddr 1 (.t 14), none, []⟩,
      ⟨none, .store 1 (.t 15) (.t 13), none, []⟩] false)
    (.skip)))
  (.mask ⟨[0], []⟩ (.seq (.region 5 [
    ⟨(some 16), .mov (.t 0), none, []⟩,
    ⟨(some 17), .nilchk (.t 16), none, []⟩,
    ⟨(some 18), .faddr 1 (.t 17), none, []⟩,
    ⟨(some 19), .load 1 false (.t 18), none, []⟩,
    ⟨(some 20), .bin .neq (.t 19) (.c (.d (.int .i64 (0)))), none, []⟩,
    ⟨(some 4), .mov (.t 20), none, []⟩] false)
  (.mask ⟨[4], []⟩ (.ret)))))))⟩
/-- beadle/beadleref06.head -/
def code_ref06_head : AFunc := ⟨21, [.tmp 2],
  .seq (.region 0 [
    ⟨(some 2), .mov (.c (.d (.bool false))), none, []⟩] false)
  (.seq (.region 1 [
    ⟨(some 3), .mov (.t 0), none, []⟩,
    ⟨(some 4), .bin .geq (.t 3) (.c (.d (.int .u8 (97)))), none, []⟩,
    ⟨(some 5), .mov (.t 4), none, []⟩,
    ⟨(some 6), .mov (.t 0), (some (5, true)), []⟩,
    ⟨(some 7), .bin .leq (.t 6) (.c (.d (.int .u8 (122)))), (some (5, true)), []⟩,
    ⟨(some 8), .pick (.t 5) (.t 7) (.c (.d (.bool false))), none, []⟩,
    ⟨(some 9), .mov (.t 8), none, []⟩,
    ⟨(some 10), .mov (.t 0), (some (9, false)), []⟩,
    ⟨(some 11), .bin .geq (.t 10) (.c (.d (.int .u8 (65)))), (some (9, false)), []⟩,
    ⟨(some 12), .mov (.t 11), (some (9, false)), []⟩,
    ⟨(some 13), .mov (.t 0), (some (12, true)), []⟩,
    ⟨(some 14), .bin .leq (.t 13) (.c (.d (.int .u8 (90)))), (some (12, true)), []⟩,
    ⟨(some 15), .pick (.t 12) (.t 14) (.c (.d (.bool false))), (some (9, false)), []⟩,
    ⟨(some 16), .pick (.t 9) (.c (.d (.bool true))) (.t 15), none, []⟩,
    ⟨(some 17), .mov (.t 16), none, []⟩,
    ⟨(some 18), .mov (.t 0), (some (17, false)), []⟩,
    ⟨(some 19), .bin .eql (.t 18) (.c (.d (.int .u8 (95)))), (some (17, false)), []⟩,
    ⟨(some 20), .pick (.t 17) (.c (.d (.bool true))) (.t 19), none, []⟩,
    ⟨(some 2), .mov (.t 20), none, []⟩] false)
  (.mask ⟨[2], []⟩ (.ret)))⟩
/-- beadle/beadleref06.tail -/
def code_ref06_tail : AFunc := ⟨13, [.tmp 2],
  .seq (.region 0 [
    ⟨(some 2), .mov (.c (.d (.bool false))), none, []⟩] false)
  (.seq (.region 1 [
    ⟨(some 3), .mov (.t 0), none, []⟩,
    ⟨(some 4), .call (.c (.fn F_ref06_head [])) [(.t 3)], none, []⟩,
    ⟨(some 5), .mov (.t 4), none, []⟩,
    ⟨(some 6), .mov (.t 0), (some (5, false)), []⟩,
    ⟨(some 7), .bin .geq (.t 6) (.c (.d (.int .u8 (48)))), (some (5, false)), []⟩,
    ⟨(some 8), .mov (.t 7), (some (5, false)), []⟩,
    ⟨(some 9), .mov (.t 0), (some (8, true)), []⟩,
    ⟨(some 10), .bin .leq (.t 9) (.c (.d (.int .u8 (57)))), (some (8, true)), []⟩,
    ⟨(some 11), .pick (.t 8) (.t 10) (.c (.d (.bool false))), (some (5, false)), []⟩,
    ⟨(some 12), .pick (.t 5) (.c (.d (.bool true))) (.t 11), none, []⟩,
    ⟨(some 2), .mov (.t 12), none, []⟩] false)
  (.mask ⟨[2], []⟩ (.ret)))⟩
def mask_ref02_bad_0 : Mask := ⟨[0, 3], []⟩
def body_ref02_bad_0 : ACode :=
  .seq (.seq (.region 2 [
    ⟨(some 5), .mov (.t 3), none, []⟩,
    ⟨(some 6), .mov (.t 0), none, []⟩,
    ⟨(some 7), .len .sl (.t 6), none, []⟩,
    ⟨(some 8), .bin .lss (.t 5) (.t 7), none, []⟩] false)
  (.cond (.t 8)
    (.skip)
    (.mask ⟨[0], []⟩ (.exit 0))))
  (.mask ⟨[0, 3], []⟩ (.seq (.block 1 (.seq (.region 4 [
    ⟨(some 11), .mov (.t 0), none, []⟩,
    ⟨(some 12), .mov (.t 3), none, []⟩,
    ⟨(some 13), .iaddr 1 (.t 11) (.t 12), none, []⟩,
    ⟨(some 14), .load 1 false (.t 13), none, []⟩,
    ⟨(some 15), .len .str (.t 14), none, []⟩,
    ⟨(some 16), .bin .gtr (.t 15) (.c (.d (.int .i64 (32)))), none, []⟩] false)
  (.cond (.t 16)
    (.seq (.region 5 [
      ⟨(some 2), .mov (.c (.d (.int .i64 (1)))), none, []⟩] false)
    (.mask ⟨[2], []⟩ (.ret)))
    (.skip))))
  (.mask ⟨[0, 3], []⟩ (.region 3 [
    ⟨(some 9), .mov (.t 3), none, []⟩,
    ⟨(some 10), .bin .add (.t 9) (.c (.d (.int .i64 (1)))), none, []⟩,
    ⟨(some 3), .mov (.t 10), none, []⟩] false))))
def mask_ref02_bad_1 : Mask := ⟨[0, 4], []⟩
def body_ref02_bad_1 : ACode :=
  .seq (.seq (.region 7 [
    ⟨(some 17), .mov (.t 4), none, []⟩,
    ⟨(some 18), .bin .add (.t 17) (.c (.d (.int .i64 (1)))), none, []⟩,
    ⟨(some 19), .mov (.t 0), none, []⟩,
    ⟨(some 20), .len .sl (.t 19), none, []⟩,
    ⟨(some 21), .bin .lss (.t 18) (.t 20), none, []⟩] false)
  (.cond (.t 21)
    (.skip)
    (.mask ⟨[], []⟩ (.exit 2))))
  (.mask ⟨[0, 4], []⟩ (.seq (.block 3 (.seq (.region 9 [
    ⟨(some 24), .mov (.t 0), none, []⟩,
    ⟨(some 25), .mov (.t 4), none, []⟩,
    ⟨(some 26), .iaddr 1 (.t 24) (.t 25), none, [0, 1]⟩,
    ⟨(some 27), .load 1 false (.t 26), none, [0, 1, 2]⟩,
    ⟨(some 28), .mov (.t 0), none, []⟩,
    ⟨(some 29), .mov (.t 4), none, []⟩,
    ⟨(some 30), .bin .add (.t 29) (.c (.d (.int .i64 (1)))), none, [5]⟩,
    ⟨(some 31), .iaddr 1 (.t 28) (.t 30), none, [4, 5, 6]⟩,
    ⟨(some 32), .load 1 false (.t 31), none, [4, 5, 6, 7]⟩,
    ⟨(some 33), .bin .geq (.t 27) (.t 32), none, [0, 1, 2, 3, 4, 5, 6, 7, 8]⟩] true)
  (.cond (.t 33)
    (.seq (.region 10 [
      ⟨(some 2), .mov (.c (.d (.int .i64 (2)))), none, []⟩] false)
    (.mask ⟨[2], []⟩ (.ret)))
    (.skip))))
  (.mask ⟨[0, 4], []⟩ (.region 8 [
    ⟨(some 22), .mov (.t 4), none, []⟩,
    ⟨(some 23), .bin .add (.t 22) (.c (.d (.int .i64 (1)))), none, []⟩,
    ⟨(some 4), .mov (.t 23), none, []⟩] false))))
/-- beadle/beadleref02.bad -/
def code_ref02_bad : AFunc := ⟨34, [.tmp 2],
  .seq (.region 0 [
    ⟨(some 2), .mov (.c (.d (.int .i64 (0)))), none, []⟩] false)
  (.seq (.seq (.region 1 [
    ⟨(some 3), .mov (.c (.d (.int .i64 (0)))), none, []⟩] false)
  (.block 0 (.loop mask_ref02_bad_0 body_ref02_bad_0)))
  (.mask ⟨[0], []⟩ (.seq (.seq (.region 6 [
    ⟨(some 4), .mov (.c (.d (.int .i64 (0)))), none, []⟩] false)
  (.block 2 (.loop mask_ref02_bad_1 body_ref02_bad_1)))
  (.mask ⟨[], []⟩ (.seq (.region 11 [
    ⟨(some 2), .mov (.c (.d (.int .i64 (0)))), none, []⟩] false)
  (.mask ⟨[2], []⟩ (.ret)))))))⟩
/-- beadle/value.Same -/
def code_value_Same : AFunc := ⟨9, [.tmp 4],
  .seq (.region 0 [
    ⟨(some 2), .box 4 (.t 0), none, []⟩,
    ⟨(some 3), .box 4 (.t 1), none, []⟩,
    ⟨(some 4), .mov (.c (.d (.bool false))), none, []⟩] false)
  (.seq (.region 1 [
    ⟨(some 5), .load 4 true (.t 2), none, []⟩,
    ⟨(some 6), .load 4 true (.t 3), none, []⟩,
    ⟨(some 7), .call (.c (.fn F_value_Cmp [])) [(.t 5), (.t 6)], none, []⟩,
    ⟨(some 8), .bin .eql (.t 7) (.c (.d (.int .i64 (0)))), none, []⟩,
    ⟨(some 4), .mov (.t 8), none, []⟩] false)
  (.mask ⟨[4], []⟩ (.ret)))⟩
def mask_lex_Name_0 : Mask := ⟨[0, 5, 6], []⟩
def body_lex_Name_0 : ACode :=
  .seq (.region 2 [
    ⟨(some 7), .bin .lss (.t 6) (.t 5), none, []⟩] false)
  (.seq (.cond (.t 7)
    (.skip)
    (.mask ⟨[0], []⟩ (.exit 0)))
  (.mask ⟨[0, 5, 6], []⟩ (.seq (.block 1 (.seq (.region 3 [
    ⟨(some 8), .mov (.t 6), none, []⟩,
    ⟨(some 3), .mov (.t 8), none, []⟩] false)
  (.seq (.region 4 [
    ⟨(some 9), .mov (.t 0), none, []⟩,
    ⟨(some 10), .mov (.t 3), none, []⟩,
    ⟨(some 11), .idx (.t 9) (.t 10), none, []⟩,
    ⟨(some 12), .call (.c (.fn F_lex_letter [])) [(.t 11)], none, []⟩,
    ⟨(some 13), .un .not (.t 12), none, []⟩,
    ⟨(some 14), .mov (.t 13), none, []⟩,
    ⟨(some 15), .mov (.t 3), (some (14, true)), []⟩,
    ⟨(some 16), .bin .eql (.t 15) (.c (.d (.int .i64 (0)))), (some (14, true)), []⟩,
    ⟨(some 17), .mov (.t 16), (some (14, true)), []⟩,
    ⟨(some 18), .mov (.t 0), (some (17, false)), []⟩,
    ⟨(some 19), .mov (.t 3), (some (17, false)), []⟩,
    ⟨(some 20), .idx (.t 18) (.t 19), (some (17, false)), []⟩,
    ⟨(some 21), .call (.c (.fn F_lex_digit [])) [(.t 20)], (some (17, false)), []⟩,
    ⟨(some 22), .un .not (.t 21), (some (17, false)), []⟩,
    ⟨(some 23), .pick (.t 17) (.c (.d (.bool true))) (.t 22), (some (14, true)), []⟩,
    ⟨(some 24), .pick (.t 14) (.t 23) (.c (.d (.bool false))), none, []⟩] false)
  (.mask ⟨[0, 5, 6, 24], []⟩ (.cond (.t 24)
    (.seq (.region 5 [
      ⟨(some 2), .mov (.c (.d (.bool false))), none, []⟩] false)
    (.mask ⟨[2], []⟩ (.ret)))
    (.skip))))))
  (.mask ⟨[0, 5, 6], []⟩ (.region 6 [
    ⟨(some 25), .bin .add (.t 6) (.c (.d (.int .i64 (1)))), none, []⟩,
    ⟨(some 6), .mov (.t 25), none, []⟩] false)))))
/-- beadle/lex.Name -/
def code_lex_Name : AFunc := ⟨33, [.tmp 2],
  .seq (.region 0 [
    ⟨(some 2), .mov (.c (.d (.bool false))), none, []⟩] false)
  (.seq (.seq (.region 1 [
    ⟨(some 4), .mov (.t 0), none, []⟩,
    ⟨(some 5), .len .str (.t 4), none, []⟩,
    ⟨(some 6), .mov (.c (.d (.int .i64 (0)))), none, []⟩] false)
  (.block 0 (.loop mask_lex_Name_0 body_lex_Name_0)))
  (.mask ⟨[0], []⟩ (.seq (.region 7 [
    ⟨(some 26), .mov (.t 0), none, []⟩,
    ⟨(some 27), .bin .neq (.t 26) (.c (.d (.str []))), none, []⟩,
    ⟨(some 28), .mov (.t 27), none, []⟩,
    ⟨(some 29), .mov (.t 0), (some (28, true)), []⟩,
    ⟨(some 30), .len .str (.t 29), (some (28, true)), []⟩,
    ⟨(some 31), .bin .leq (.t 30) (.c (.d (.int .i64 (16)))), (some (28, true)), []⟩,
    ⟨(some 32), .pick (.t 28) (.t 31) (.c (.d (.bool false))), none, []⟩,
    ⟨(some 2), .mov (.t 32), none, []⟩] false)
  (.mask ⟨[2], []⟩ (.ret)))))⟩
/-- beadle/value.long -/
def code_value_long : AFunc := ⟨6, [.tmp 2],
  .seq (.region 0 [
    ⟨(some 2), .mov (.c (.d (.bool false))), none, []⟩] false)
  (.seq (.region 1 [
    ⟨(some 3), .mov (.t 0), none, []⟩,
    ⟨(some 4), .len .str (.t 3), none, []⟩,
    ⟨(some 5), .bin .gtr (.t 4) (.c (.d (.int .i64 (32)))), none, []⟩,
    ⟨(some 2), .mov (.t 5), none, []⟩] false)
  (.mask ⟨[2], []⟩ (.ret)))⟩
/-- slices.ContainsFunc[[]string,string] -/
def code_slices_ContainsFunc_string_string : AFunc := ⟨9, [.tmp 4],
  .seq (.region 0 [
    ⟨(some 4), .mov (.c (.d (.bool false))), none, []⟩] false)
  (.seq (.region 1 [
    ⟨(some 5), .mov (.t 0), none, []⟩,
    ⟨(some 6), .mov (.t 1), none, []⟩,
    ⟨(some 7), .call (.c (.fn F_slices_IndexFunc_string_string [])) [(.t 5), (.t 6)], none, []⟩,
    ⟨(some 8), .bin .geq (.t 7) (.c (.d (.int .i64 (0)))), none, []⟩,
    ⟨(some 4), .mov (.t 8), none, []⟩] false)
  (.mask ⟨[4], []⟩ (.ret)))⟩
/-- beadle/value.odd -/
def code_value_odd : AFunc := ⟨56, [.tmp 2],
  .seq (.region 0 [
    ⟨(some 1), .box 4 (.t 0), none, []⟩,
    ⟨(some 2), .mov (.c (.d (.bool false))), none, []⟩] false)
  (.seq (.region 1 [
    ⟨(some 4), .faddr 0 (.t 1), none, []⟩,
    ⟨(some 5), .load 1 false (.t 4), none, []⟩,
    ⟨(some 6), .bin .eql (.t 5) (.c (.d (.int .i64 (1)))), none, []⟩,
    ⟨(some 7), .mov (.t 6), none, []⟩,
    ⟨(some 8), .faddr 0 (.t 1), (some (7, false)), []⟩,
    ⟨(some 9), .load 1 false (.t 8), (some (7, false)), []⟩,
    ⟨(some 10), .bin .eql (.t 9) (.c (.d (.int .i64 (2)))), (some (7, false)), []⟩,
    ⟨(some 11), .mov (.t 10), (some (7, false)), []⟩,
    ⟨(some 12), .faddr 1 (.t 1), (some (11, true)), []⟩,
    ⟨(some 13), .load 1 false (.t 12), (some (11, true)), []⟩,
    ⟨(some 14), .bin .eql (.t 13) (.c (.d (.int .i64 (0)))), (some (11, true)), []⟩,
    ⟨(some 15), .mov (.t 14), (some (11, true)), []⟩,
    ⟨(some 16), .faddr 1 (.t 1), (some (15, false)), []⟩,
    ⟨(some 17), .load 1 false (.t 16), (some (15, false)), []⟩,
    ⟨(some 18), .bin .eql (.t 17) (.c (.d (.int .i64 (1)))), (some (15, false)), []⟩,
    ⟨(some 19), .pick (.t 15) (.c (.d (.bool true))) (.t 18), (some (11, true)), []⟩,
    ⟨(some 20), .pick (.t 11) (.t 19) (.c (.d (.bool false))), (some (7, false)), []⟩,
    ⟨(some 21), .pick (.t 7) (.c (.d (.bool true))) (.t 20), none, []⟩,
    ⟨(some 3), .mov (.t 21), none, []⟩] false)
  (.mask ⟨[1, 3], []⟩ (.seq (.region 2 [
    ⟨(some 22), .mov (.t 3), none, []⟩,
    ⟨(some 23), .un .not (.t 22), none, []⟩,
    ⟨(some 24), .mov (.t 23), none, []⟩,
    ⟨(some 25), .faddr 1 (.t 1), (some (24, true)), []⟩,
    ⟨(some 26), .load 1 false (.t 25), (some (24, true)), []⟩,
    ⟨(some 27), .bin .neq (.t 26) (.c (.d (.int .i64 (0)))), (some (24, true)), []⟩,
    ⟨(some 28), .pick (.t 24) (.t 27) (.c (.d (.bool false))), none, []⟩,
    ⟨(some 29), .mov (.t 28), none, []⟩,
    ⟨(some 30), .faddr 0 (.t 1), (some (29, false)), []⟩,
    ⟨(some 31), .load 1 false (.t 30), (some (29, false)), []⟩,
    ⟨(some 32), .bin .neq (.t 31) (.c (.d (.int .i64 (3)))), (some (29, false)), []⟩,
    ⟨(some 33), .mov (.t 32), (some (29, false)), []⟩,
    ⟨(some 34), .faddr 2 (.t 1), (some (33, true)), []⟩,
    ⟨(some 35), .load 1 false (.t 34), (some (33, true)), []⟩,
    ⟨(some 36), .bin .neq (.t 35) (.c (.d (.str []))), (some (33, true)), []⟩,
    ⟨(some 37), .pick (.t 33) (.t 36) (.c (.d (.bool false))), (some (29, false)), []⟩,
    ⟨(some 38), .pick (.t 29) (.c (.d (.bool true))) (.t 37), none, []⟩,
    ⟨(some 39), .mov (.t 38), none, []⟩,
    ⟨(some 40), .faddr 0 (.t 1), (some (39, false)), []⟩,
    ⟨(some 41), .load 1 false (.t 40), (some (39, false)), []⟩,
    ⟨(some 42), .bin .neq (.t 41) (.c (.d (.int .i64 (4)))), (some (39, false)), []⟩,
    ⟨(some 43), .mov (.t 42), (some (39, false)), []⟩,
    ⟨(some 44), .faddr 3 (.t 1), (some (43, true)), []⟩,
    ⟨(some 45), .load 1 false (.t 44), (some (43, true)), []⟩,
    ⟨(some 46), .len .sl (.t 45), (some (43, true)), []⟩,
    ⟨(some 47), .bin .gtr (.t 46) (.c (.d (.int .i64 (0)))), (some (43, true)), []⟩,
    ⟨(some 48), .pick (.t 43) (.t 47) (.c (.d (.bool false))), (some (39, false)), []⟩,
    ⟨(some 49), .pick (.t 39) (.c (.d (.bool true))) (.t 48), none, []⟩,
    ⟨(some 50), .mov (.t 49), none, []⟩,
    ⟨(some 51), .faddr 3 (.t 1), (some (50, false)), []⟩,
    ⟨(some 52), .load 1 false (.t 51), (some (50, false)), []⟩,
    ⟨(some 53), .call (.c (.fn F_value_rises [])) [(.t 52)], (some (50, false)), []⟩,
    ⟨(some 54), .un .not (.t 53), (some (50, false)), []⟩,
    ⟨(some 55), .pick (.t 50) (.c (.d (.bool true))) (.t 54), none, []⟩,
    ⟨(some 2), .mov (.t 55), none, []⟩] false)
  (.mask ⟨[2], []⟩ (.ret)))))⟩
/-- beadle/value.Cmp -/
def code_value_Cmp : AFunc := ⟨27, [.tmp 4],
  .seq (.region 0 [
    ⟨(some 2), .box 4 (.t 0), none, []⟩,
    ⟨(some 3), .box 4 (.t 1), none, []⟩,
    ⟨(some 4), .mov (.c (.d (.int .i64 (0)))), none, []⟩] false)
  (.seq (.region 1 [
    ⟨(some 5), .faddr 0 (.t 2), none, []⟩,
    ⟨(some 6), .load 1 false (.t 5), none, [0]⟩,
    ⟨(some 7), .faddr 0 (.t 3), none, []⟩,
    ⟨(some 8), .load 1 false (.t 7), none, [2]⟩,
    ⟨(some 9), .call (.c (.fn F_cmp_Compare_int [])) [(.t 6), (.t 8)], none, [0, 1, 2, 3]⟩,
    ⟨(some 10), .faddr 1 (.t 2), none, []⟩,
    ⟨(some 11), .load 1 false (.t 10), none, [5]⟩,
    ⟨(some 12), .faddr 1 (.t 3), none, []⟩,
    ⟨(some 13), .load 1 false (.t 12), none, [7]⟩,
    ⟨(some 14), .call (.c (.fn F_cmp_Compare_int64 [])) [(.t 11), (.t 13)], none, [0, 1, 2, 3, 4, 5, 6, 7, 8]⟩,
    ⟨(some 15), .faddr 2 (.t 2), none, []⟩,
    ⟨(some 16), .load 1 false (.t 15), none, [10]⟩,
    ⟨(some 17), .faddr 2 (.t 3), none, []⟩,
    ⟨(some 18), .load 1 false (.t 17), none, [12]⟩,
    ⟨(some 19), .call (.c (.fn F_cmp_Compare_string [])) [(.t 16), (.t 18)], none, [0, 1, 2, 3, 4, 5, 6, 7, 8, 9, 10, 11, 12, 13]⟩,
    ⟨(some 20), .faddr 3 (.t 2), none, []⟩,
    ⟨(some 21), .load 1 false (.t 20), none, [15]⟩,
    ⟨(some 22), .faddr 3 (.t 3), none, []⟩,
    ⟨(some 23), .load 1 false (.t 22), none, [17]⟩,
    ⟨(some 24), .call (.c (.fn F_slices_Compare_string_string [])) [(.t 21), (.t 23)], none, [0, 1, 2, 3, 4, 5, 6, 7, 8, 9, 10, 11, 12, 13, 14, 15, 16, 17, 18]⟩,
    ⟨(some 25), .buildSl 1 [(.int .i64 (0))] 4 [(0, (.t 9)), (1, (.t 14)), (2, (.t 19)), (3, (.t 24))], none, [0, 1, 2, 3, 4, 5, 6, 7, 8, 9, 10, 11, 12, 13, 14, 15, 16, 17, 18, 19]⟩,
    ⟨(some 26), .call (.c (.fn F_cmp_Or_int [])) [(.t 25)], none, [0, 1, 2, 3, 4, 5, 6, 7, 8, 9, 10, 11, 12, 13, 14, 15, 16, 17, 18, 19, 20]⟩,
    ⟨(some 4), .mov (.t 26), none, [0, 1, 2, 3, 4, 5, 6, 7, 8, 9, 10, 11, 12, 13, 14, 15, 16, 17, 18, 19, 20, 21]⟩] true)
  (.mask ⟨[4], []⟩ (.ret)))⟩
/-- beadle/lex.letter -/
def code_lex_letter : AFunc := ⟨15, [.tmp 2],
  .seq (.region 0 [
    ⟨(some 2), .mov (.c (.d (.bool false))), none, []⟩] false)
  (.seq (.region 1 [
    ⟨(some 3), .mov (.t 0), none, []⟩,
    ⟨(some 4), .bin .or (.t 3) (.c (.d (.int .u8 (32)))), none, []⟩,
    ⟨(some 5), .bin .geq (.t 4) (.c (.d (.int .u8 (97)))), none, []⟩,
    ⟨(some 6), .mov (.t 5), none, []⟩,
    ⟨(some 7), .mov (.t 0), (some (6, true)), []⟩,
    ⟨(some 8), .bin .or (.t 7) (.c (.d (.int .u8 (32)))), (some (6, true)), []⟩,
    ⟨(some 9), .bin .leq (.t 8) (.c (.d (.int .u8 (122)))), (some (6, true)), []⟩,
    ⟨(some 10), .pick (.t 6) (.t 9) (.c (.d (.bool false))), none, []⟩,
    ⟨(some 11), .mov (.t 10), none, []⟩,
    ⟨(some 12), .mov (.t 0), (some (11, false)), []⟩,
    ⟨(some 13), .bin .eql (.t 12) (.c (.d (.int .u8 (95)))), (some (11, false)), []⟩,
    ⟨(some 14), .pick (.t 11) (.c (.d (.bool true))) (.t 13), none, []⟩,
    ⟨(some 2), .mov (.t 14), none, []⟩] false)
  (.mask ⟨[2], []⟩ (.ret)))⟩
/-- beadle/lex.digit -/
def code_lex_digit : AFunc := ⟨9, [.tmp 2],
  .seq (.region 0 [
    ⟨(some 2), .mov (.c (.d (.bool false))), none, []⟩] false)
  (.seq (.region 1 [
    ⟨(some 3), .mov (.t 0), none, []⟩,
    ⟨(some 4), .bin .geq (.t 3) (.c (.d (.int .u8 (48)))), none, []⟩,
    ⟨(some 5), .mov (.t 4), none, []⟩,
    ⟨(some 6), .mov (.t 0), (some (5, true)), []⟩,
    ⟨(some 7), .bin .leq (.t 6) (.c (.d (.int .u8 (57)))), (some (5, true)), []⟩,
    ⟨(some 8), .pick (.t 5) (.t 7) (.c (.d (.bool false))), none, []⟩,
    ⟨(some 2), .mov (.t 8), none, []⟩] false)
  (.mask ⟨[2], []⟩ (.ret)))⟩
def mask_slices_IndexFunc_string_string_0 : Mask := ⟨[0, 1, 7, 8], []⟩
def body_slices_IndexFunc_string_string_0 : ACode :=
  .seq (.region 2 [
    ⟨(some 9), .bin .lss (.t 8) (.t 7), none, []⟩] false)
  (.seq (.cond (.t 9)
    (.skip)
    (.mask ⟨[], []⟩ (.exit 0)))
  (.mask ⟨[0, 1, 7, 8], []⟩ (.seq (.block 1 (.seq (.region 3 [
    ⟨(some 10), .mov (.t 8), none, []⟩,
    ⟨(some 5), .mov (.t 10), none, []⟩] false)
  (.seq (.region 4 [
    ⟨(some 11), .mov (.t 1), none, []⟩,
    ⟨(some 12), .mov (.t 0), none, []⟩,
    ⟨(some 13), .mov (.t 5), none, []⟩,
    ⟨(some 14), .iaddr 1 (.t 12) (.t 13), none, []⟩,
    ⟨(some 15), .load 1 false (.t 14), none, []⟩,
    ⟨(some 16), .call (.t 11) [(.t 15)], none, []⟩] false)
  (.cond (.t 16)
    (.seq (.region 5 [
      ⟨(some 17), .mov (.t 5), none, []⟩,
      ⟨(some 4), .mov (.t 17), none, []⟩] false)
    (.mask ⟨[4], []⟩ (.ret)))
    (.skip)))))
  (.mask ⟨[0, 1, 7, 8], []⟩ (.region 6 [
    ⟨(some 18), .bin .add (.t 8) (.c (.d (.int .i64 (1)))), none, []⟩,
    ⟨(some 8), .mov (.t 18), none, []⟩] false)))))
/-- slices.IndexFunc[[]string,string] -/
def code_slices_IndexFunc_string_string : AFunc := ⟨19, [.tmp 4],
  .seq (.region 0 [
    ⟨(some 4), .mov (.c (.d (.int .i64 (0)))), none, []⟩] false)
  (.seq (.seq (.region 1 [
    ⟨(some 6), .mov (.t 0), none, []⟩,
    ⟨(some 7), .len .sl (.t 6), none, []⟩,
    ⟨(some 8), .mov (.c (.d (.int .i64 (0)))), none, []⟩] false)
  (.block 0 (.loop mask_slices_IndexFunc_string_string_0 body_slices_IndexFunc_string_string_0)))
  (.mask ⟨[], []⟩ (.seq (.region 7 [
    ⟨(some 4), .mov (.c (.d (.int .i64 (-1)))), none, []⟩] false)
  (.mask ⟨[4], []⟩ (.ret)))))⟩
def mask_value_rises_0 : Mask := ⟨[0, 3], []⟩
def body_value_rises_0 : ACode :=
  .seq (.seq (.region 2 [
    ⟨(some 4), .mov (.t 3), none, []⟩,
    ⟨(some 5), .mov (.t 0), none, []⟩,
    ⟨(some 6), .len .sl (.t 5), none, []⟩,
    ⟨(some 7), .bin .lss (.t 4) (.t 6), none, []⟩] false)
  (.cond (.t 7)
    (.skip)
    (.mask ⟨[], []⟩ (.exit 0))))
  (.mask ⟨[0, 3], []⟩ (.seq (.block 1 (.seq (.region 4 [
    ⟨(some 10), .mov (.t 0), none, []⟩,
    ⟨(some 11), .mov (.t 3), none, []⟩,
    ⟨(some 12), .iaddr 1 (.t 10) (.t 11), none, [0, 1]⟩,
    ⟨(some 13), .load 1 false (.t 12), none, [0, 1, 2]⟩,
    ⟨(some 14), .mov (.t 0), none, []⟩,
    ⟨(some 15), .mov (.t 3), none, []⟩,
    ⟨(some 16), .bin .sub (.t 15) (.c (.d (.int .i64 (1)))), none, [5]⟩,
    ⟨(some 17), .iaddr 1 (.t 14) (.t 16), none, [4, 5, 6]⟩,
    ⟨(some 18), .load 1 false (.t 17), none, [4, 5, 6, 7]⟩,
    ⟨(some 19), .bin .leq (.t 13) (.t 18), none, [0, 1, 2, 3, 4, 5, 6, 7, 8]⟩] true)
  (.cond (.t 19)
    (.seq (.region 5 [
      ⟨(some 2), .mov (.c (.d (.bool false))), none, []⟩] false)
    (.mask ⟨[2], []⟩ (.ret)))
    (.skip))))
  (.mask ⟨[0, 3], []⟩ (.region 3 [
    ⟨(some 8), .mov (.t 3), none, []⟩,
    ⟨(some 9), .bin .add (.t 8) (.c (.d (.int .i64 (1)))), none, []⟩,
    ⟨(some 3), .mov (.t 9), none, []⟩] false))))
/-- beadle/value.rises -/
def code_value_rises : AFunc := ⟨20, [.tmp 2],
  .seq (.region 0 [
    ⟨(some 2), .mov (.c (.d (.bool false))), none, []⟩] false)
  (.seq (.seq (.region 1 [
    ⟨(some 3), .mov (.c (.d (.int .i64 (1)))), none, []⟩] false)
  (.block 0 (.loop mask_value_rises_0 body_value_rises_0)))
  (.mask ⟨[], []⟩ (.seq (.region 6 [
    ⟨(some 2), .mov (.c (.d (.bool true))), none, []⟩] false)
  (.mask ⟨[2], []⟩ (.ret)))))⟩
/-- cmp.Compare[int] -/
def code_cmp_Compare_int : AFunc := ⟨20, [.tmp 4],
  .seq (.region 0 [
    ⟨(some 4), .mov (.c (.d (.int .i64 (0)))), none, []⟩] false)
  (.seq (.region 1 [
    ⟨(some 7), .mov (.t 0), none, []⟩,
    ⟨(some 8), .call (.c (.fn F_cmp_isNaN_int [])) [(.t 7)], none, []⟩,
    ⟨(some 5), .mov (.t 8), none, []⟩] false)
  (.seq (.region 2 [
    ⟨(some 9), .mov (.t 1), none, []⟩,
    ⟨(some 10), .call (.c (.fn F_cmp_isNaN_int [])) [(.t 9)], none, []⟩,
    ⟨(some 6), .mov (.t 10), none, []⟩] false)
  (.seq (.seq (.region 3 [
    ⟨(some 11), .mov (.t 5), none, []⟩] false)
  (.cond (.t 11)
    (.seq (.seq (.region 4 [
      ⟨(some 12), .mov (.t 6), none, []⟩] false)
    (.cond (.t 12)
      (.seq (.region 5 [
        ⟨(some 4), .mov (.c (.d (.int .i64 (0)))), none, []⟩] false)
      (.mask ⟨[4], []⟩ (.ret)))
      (.skip)))
    (.mask ⟨[], []⟩ (.seq (.region 6 [
      ⟨(some 4), .mov (.c (.d (.int .i64 (-1)))), none, []⟩] false)
    (.mask ⟨[4], []⟩ (.ret)))))
    (.skip)))
  (.mask ⟨[0, 1, 6], []⟩ (.seq (.seq (.region 7 [
    ⟨(some 13), .mov (.t 6), none, []⟩] false)
  (.cond (.t 13)
    (.seq (.region 8 [
      ⟨(some 4), .mov (.c (.d (.int .i64 (1)))), none, []⟩] false)
    (.mask ⟨[4], []⟩ (.ret)))
    (.skip)))
  (.mask ⟨[0, 1], []⟩ (.seq (.seq (.region 9 [
    ⟨(some 14), .mov (.t 0), none, []⟩,
    ⟨(some 15), .mov (.t 1), none, []⟩,
    ⟨(some 16), .bin .lss (.t 14) (.t 15), none, []⟩] false)
  (.cond (.t 16)
    (.seq (.region 10 [
      ⟨(some 4), .mov (.c (.d (.int .i64 (-1)))), none, []⟩] false)
    (.mask ⟨[4], []⟩ (.ret)))
    (.skip)))
  (.mask ⟨[0, 1], []⟩ (.seq (.seq (.region 11 [
    ⟨(some 17), .mov (.t 0), none, []⟩,
    ⟨(some 18), .mov (.t 1), none, []⟩,
    ⟨(some 19), .bin .gtr (.t 17) (.t 18), none, []⟩] false)
  (.cond (.t 19)
    (.seq (.region 12 [
      ⟨(some 4), .mov (.c (.d (.int .i64 (1)))), none, []⟩] false)
    (.mask ⟨[4], []⟩ (.ret)))
    (.skip)))
  (.mask ⟨[], []⟩ (.seq (.region 13 [
    ⟨(some 4), .mov (.c (.d (.int .i64 (0)))), none, []⟩] false)
  (.mask ⟨[4], []⟩ (.ret)))))))))))))⟩
/-- cmp.Compare[int64] -/
def code_cmp_Compare_int64 : AFunc := ⟨20, [.tmp 4],
  .seq (.region 0 [
    ⟨(some 4), .mov (.c (.d (.int .i64 (0)))), none, []⟩] false)
  (.seq (.region 1 [
    ⟨(some 7), .mov (.t 0), none, []⟩,
    ⟨(some 8), .call (.c (.fn F_cmp_isNaN_int64 [])) [(.t 7)], none, []⟩,
    ⟨(some 5), .mov (.t 8), none, []⟩] false)
  (.seq (.region 2 [
    ⟨(some 9), .mov (.t 1), none, []⟩,
    ⟨(some 10), .call (.c (.fn F_cmp_isNaN_int64 [])) [(.t 9)], none, []⟩,
    ⟨(some 6), .mov (.t 10), none, []⟩] false)
  (.seq (.seq (.region 3 [
    ⟨(some 11), .mov (.t 5), none, []⟩] false)
  (.cond (.t 11)
    (.seq (.seq (.region 4 [
      ⟨(some 12), .mov (.t 6), none, []⟩] false)
    (.cond (.t 12)
      (.seq (.region 5 [
        ⟨(some 4), .mov (.c (.d (.int .i64 (0)))), none, []⟩] false)
      (.mask ⟨[4], []⟩ (.ret)))
      (.skip)))
    (.mask ⟨[], []⟩ (.seq (.region 6 [
      ⟨(some 4), .mov (.c (.d (.int .i64 (-1)))), none, []⟩] false)
    (.mask ⟨[4], []⟩ (.ret)))))
    (.skip)))
  (.mask ⟨[0, 1, 6], []⟩ (.seq (.seq (.region 7 [
    ⟨(some 13), .mov (.t 6), none, []⟩] false)
  (.cond (.t 13)
    (.seq (.region 8 [
      ⟨(some 4), .mov (.c (.d (.int .i64 (1)))), none, []⟩] false)
    (.mask ⟨[4], []⟩ (.ret)))
    (.skip)))
  (.mask ⟨[0, 1], []⟩ (.seq (.seq (.region 9 [
    ⟨(some 14), .mov (.t 0), none, []⟩,
    ⟨(some 15), .mov (.t 1), none, []⟩,
    ⟨(some 16), .bin .lss (.t 14) (.t 15), none, []⟩] false)
  (.cond (.t 16)
    (.seq (.region 10 [
      ⟨(some 4), .mov (.c (.d (.int .i64 (-1)))), none, []⟩] false)
    (.mask ⟨[4], []⟩ (.ret)))
    (.skip)))
  (.mask ⟨[0, 1], []⟩ (.seq (.seq (.region 11 [
    ⟨(some 17), .mov (.t 0), none, []⟩,
    ⟨(some 18), .mov (.t 1), none, []⟩,
    ⟨(some 19), .bin .gtr (.t 17) (.t 18), none, []⟩] false)
  (.cond (.t 19)
    (.seq (.region 12 [
      ⟨(some 4), .mov (.c (.d (.int .i64 (1)))), none, []⟩] false)
    (.mask ⟨[4], []⟩ (.ret)))
    (.skip)))
  (.mask ⟨[], []⟩ (.seq (.region 13 [
    ⟨(some 4), .mov (.c (.d (.int .i64 (0)))), none, []⟩] false)
  (.mask ⟨[4], []⟩ (.ret)))))))))))))⟩
/-- cmp.Compare[string] -/
def code_cmp_Compare_string : AFunc := ⟨20, [.tmp 4],
  .seq (.region 0 [
    ⟨(some 4), .mov (.c (.d (.int .i64 (0)))), none, []⟩] false)
  (.seq (.region 1 [
    ⟨(some 7), .mov (.t 0), none, []⟩,
    ⟨(some 8), .call (.c (.fn F_cmp_isNaN_string [])) [(.t 7)], none, []⟩,
    ⟨(some 5), .mov (.t 8), none, []⟩] false)
  (.seq (.region 2 [
    ⟨(some 9), .mov (.t 1), none, []⟩,
    ⟨(some 10), .call (.c (.fn F_cmp_isNaN_string [])) [(.t 9)], none, []⟩,
    ⟨(some 6), .mov (.t 10), none, []⟩] false)
  (.seq (.seq (.region 3 [
    ⟨(some 11), .mov (.t 5), none, []⟩] false)
  (.cond (.t 11)
    (.seq (.seq (.region 4 [
      ⟨(some 12), .mov (.t 6), none, []⟩] false)
    (.cond (.t 12)
      (.seq (.region 5 [
        ⟨(some 4), .mov (.c (.d (.int .i64 (0)))), none, []⟩] false)
      (.mask ⟨[4], []⟩ (.ret)))
      (.skip)))
    (.mask ⟨[], []⟩ (.seq (.region 6 [
      ⟨(some 4), .mov (.c (.d (.int .i64 (-1)))), none, []⟩] false)
    (.mask ⟨[4], []⟩ (.ret)))))
    (.skip)))
  (.mask ⟨[0, 1, 6], []⟩ (.seq (.seq (.region 7 [
    ⟨(some 13), .mov (.t 6), none, []⟩] false)
  (.cond (.t 13)
    (.seq (.region 8 [
      ⟨(some 4), .mov (.c (.d (.int .i64 (1)))), none, []⟩] false)
    (.mask ⟨[4], []⟩ (.ret)))
    (.skip)))
  (.mask ⟨[0, 1], []⟩ (.seq (.seq (.region 9 [
    ⟨(some 14), .mov (.t 0), none, []⟩,
    ⟨(some 15), .mov (.t 1), none, []⟩,
    ⟨(some 16), .bin .lss (.t 14) (.t 15), none, []⟩] false)
  (.cond (.t 16)
    (.seq (.region 10 [
      ⟨(some 4), .mov (.c (.d (.int .i64 (-1)))), none, []⟩] false)
    (.mask ⟨[4], []⟩ (.ret)))
    (.skip)))
  (.mask ⟨[0, 1], []⟩ (.seq (.seq (.region 11 [
    ⟨(some 17), .mov (.t 0), none, []⟩,
    ⟨(some 18), .mov (.t 1), none, []⟩,
    ⟨(some 19), .bin .gtr (.t 17) (.t 18), none, []⟩] false)
  (.cond (.t 19)
    (.seq (.region 12 [
      ⟨(some 4), .mov (.c (.d (.int .i64 (1)))), none, []⟩] false)
    (.mask ⟨[4], []⟩ (.ret)))
    (.skip)))
  (.mask ⟨[], []⟩ (.seq (.region 13 [
    ⟨(some 4), .mov (.c (.d (.int .i64 (0)))), none, []⟩] false)
  (.mask ⟨[4], []⟩ (.ret)))))))))))))⟩
def mask_slices_Compare_string_string_0 : Mask := ⟨[0, 1, 9, 10, 11], []⟩
def body_slices_Compare_string_string_0 : ACode :=
  .seq (.region 2 [
    ⟨(some 12), .bin .lss (.t 11) (.t 10), none, []⟩] false)
  (.seq (.cond (.t 12)
    (.skip)
    (.mask ⟨[0, 1], []⟩ (.exit 0)))
  (.mask ⟨[0, 1, 9, 10, 11], []⟩ (.seq (.block 1 (.seq (.region 3 [
    ⟨(some 13), .mov (.t 11), none, []⟩,
    ⟨(some 14), .iaddr 1 (.t 9) (.t 11), none, []⟩,
    ⟨(some 15), .load 1 false (.t 14), none, []⟩,
    ⟨(some 5), .mov (.t 13), none, []⟩,
    ⟨(some 6), .mov (.t 15), none, []⟩] false)
  (.seq (.seq (.region 4 [
    ⟨(some 16), .mov (.t 5), none, []⟩,
    ⟨(some 17), .mov (.t 1), none, []⟩,
    ⟨(some 18), .len .sl (.t 17), none, []⟩,
    ⟨(some 19), .bin .geq (.t 16) (.t 18), none, []⟩] false)
  (.cond (.t 19)
    (.seq (.region 5 [
      ⟨(some 4), .mov (.c (.d (.int .i64 (1)))), none, []⟩] false)
    (.mask ⟨[4], []⟩ (.ret)))
    (.skip)))
  (.mask ⟨[0, 1, 5, 6, 9, 10, 11], []⟩ (.seq (.region 6 [
    ⟨(some 20), .mov (.t 1), none, []⟩,
    ⟨(some 21), .mov (.t 5), none, []⟩,
    ⟨(some 22), .iaddr 1 (.t 20) (.t 21), none, []⟩,
    ⟨(some 23), .load 1 false (.t 22), none, []⟩,
    ⟨(some 7), .mov (.t 23), none, []⟩] false)
  (.seq (.region 7 [
    ⟨(some 24), .mov (.t 6), none, []⟩,
    ⟨(some 25), .mov (.t 7), none, []⟩,
    ⟨(some 26), .call (.c (.fn F_cmp_Compare_string [])) [(.t 24), (.t 25)], none, []⟩,
    ⟨(some 8), .mov (.t 26), none, []⟩] false)
  (.seq (.region 8 [
    ⟨(some 27), .mov (.t 8), none, []⟩,
    ⟨(some 28), .bin .neq (.t 27) (.c (.d (.int .i64 (0)))), none, []⟩] false)
  (.cond (.t 28)
    (.seq (.region 9 [
      ⟨(some 29), .mov (.t 8), none, []⟩,
      ⟨(some 4), .mov (.t 29), none, []⟩] false)
    (.mask ⟨[4], []⟩ (.ret)))
    (.skip)))))))))
  (.mask ⟨[0, 1, 9, 10, 11], []⟩ (.region 10 [
    ⟨(some 30), .bin .add (.t 11) (.c (.d (.int .i64 (1)))), none, []⟩,
    ⟨(some 11), .mov (.t 30), none, []⟩] false)))))
/-- slices.Compare[[]string,string] -/
def code_slices_Compare_string_string : AFunc := ⟨36, [.tmp 4],
  .seq (.region 0 [
    ⟨(some 4), .mov (.c (.d (.int .i64 (0)))), none, []⟩] false)
  (.seq (.seq (.region 1 [
    ⟨(some 9), .mov (.t 0), none, []⟩,
    ⟨(some 10), .len .sl (.t 9), none, []⟩,
    ⟨(some 11), .mov (.c (.d (.int .i64 (0)))), none, []⟩] false)
  (.block 0 (.loop mask_slices_Compare_string_string_0 body_slices_Compare_string_string_0)))
  (.mask ⟨[0, 1], []⟩ (.seq (.seq (.region 11 [
    ⟨(some 31), .mov (.t 0), none, []⟩,
    ⟨(some 32), .len .sl (.t 31), none, []⟩,
    ⟨(some 33), .mov (.t 1), none, []⟩,
    ⟨(some 34), .len .sl (.t 33), none, []⟩,
    ⟨(some 35), .bin .lss (.t 32) (.t 34), none, []⟩] false)
  (.cond (.t 35)
    (.seq (.region 12 [
      ⟨(some 4), .mov (.c (.d (.int .i64 (-1)))), none, []⟩] false)
    (.mask ⟨[4], []⟩ (.ret)))
    (.skip)))
  (.mask ⟨[], []⟩ (.seq (.region 13 [
    ⟨(some 4), .mov (.c (.d (.int .i64 (0)))), none, []⟩] false)
  (.mask ⟨[4], []⟩ (.ret)))))))⟩
def mask_cmp_Or_int_0 : Mask := ⟨[3, 6, 7, 8], []⟩
def body_cmp_Or_int_0 : ACode :=
  .seq (.region 3 [
    ⟨(some 9), .bin .lss (.t 8) (.t 7), none, []⟩] false)
  (.seq (.cond (.t 9)
    (.skip)
    (.mask ⟨[3], []⟩ (.exit 0)))
  (.mask ⟨[3, 6, 7, 8], []⟩ (.seq (.block 1 (.seq (.region 4 [
    ⟨(some 10), .iaddr 1 (.t 6) (.t 8), none, []⟩,
    ⟨(some 11), .load 1 false (.t 10), none, []⟩,
    ⟨(some 5), .mov (.t 11), none, []⟩] false)
  (.seq (.region 5 [
    ⟨(some 12), .mov (.t 5), none, []⟩,
    ⟨(some 13), .mov (.t 3), none, []⟩,
    ⟨(some 14), .bin .neq (.t 12) (.t 13), none, []⟩] false)
  (.cond (.t 14)
    (.seq (.region 6 [
      ⟨(some 15), .mov (.t 5), none, []⟩,
      ⟨(some 2), .mov (.t 15), none, []⟩] false)
    (.mask ⟨[2], []⟩ (.ret)))
    (.skip)))))
  (.mask ⟨[3, 6, 7, 8], []⟩ (.region 7 [
    ⟨(some 16), .bin .add (.t 8) (.c (.d (.int .i64 (1)))), none, []⟩,
    ⟨(some 8), .mov (.t 16), none, []⟩] false)))))
/-- cmp.Or[int] -/
def code_cmp_Or_int : AFunc := ⟨18, [.tmp 2],
  .seq (.region 0 [
    ⟨(some 2), .mov (.c (.d (.int .i64 (0)))), none, []⟩] false)
  (.seq (.region 1 [
    ⟨(some 3), .mov (.c (.d (.int .i64 (0)))), none, []⟩] false)
  (.seq (.seq (.region 2 [
    ⟨(some 6), .mov (.t 0), none, []⟩,
    ⟨(some 7), .len .sl (.t 6), none, []⟩,
    ⟨(some 8), .mov (.c (.d (.int .i64 (0)))), none, []⟩] false)
  (.block 0 (.loop mask_cmp_Or_int_0 body_cmp_Or_int_0)))
  (.mask ⟨[3], []⟩ (.seq (.region 8 [
    ⟨(some 17), .mov (.t 3), none, []⟩,
    ⟨(some 2), .mov (.t 17), none, []⟩] false)
  (.mask ⟨[2], []⟩ (.ret))))))⟩
/-- cmp.isNaN[int] -/
def code_cmp_isNaN_int : AFunc := ⟨6, [.tmp 2],
  .seq (.region 0 [
    ⟨(some 2), .mov (.c (.d (.bool false))), none, []⟩] false)
  (.seq (.region 1 [
    ⟨(some 3), .mov (.t 0), none, []⟩,
    ⟨(some 4), .mov (.t 0), none, []⟩,
    ⟨(some 5), .bin .neq (.t 3) (.t 4), none, []⟩,
    ⟨(some 2), .mov (.t 5), none, []⟩] false)
  (.mask ⟨[2], []⟩ (.ret)))⟩
/-- cmp.isNaN[int64] -/
def code_cmp_isNaN_int64 : AFunc := ⟨6, [.tmp 2],
  .seq (.region 0 [
    ⟨(some 2), .mov (.c (.d (.bool false))), none, []⟩] false)
  (.seq (.region 1 [
    ⟨(some 3), .mov (.t 0), none, []⟩,
    ⟨(some 4), .mov (.t 0), none, []⟩,
    ⟨(some 5), .bin .neq (.t 3) (.t 4), none, []⟩,
    ⟨(some 2), .mov (.t 5), none, []⟩] false)
  (.mask ⟨[2], []⟩ (.ret)))⟩
/-- cmp.isNaN[string] -/
def code_cmp_isNaN_string : AFunc := ⟨6, [.tmp 2],
  .seq (.region 0 [
    ⟨(some 2), .mov (.c (.d (.bool false))), none, []⟩] false)
  (.seq (.region 1 [
    ⟨(some 3), .mov (.t 0), none, []⟩,
    ⟨(some 4), .mov (.t 0), none, []⟩,
    ⟨(some 5), .bin .neq (.t 3) (.t 4), none, []⟩,
    ⟨(some 2), .mov (.t 5), none, []⟩] false)
  (.mask ⟨[2], []⟩ (.ret)))⟩
def codeL : List (Nat × AFunc) := [(F_law23_EventReads, code_law23_EventReads),
  (F_law23_EventBack, code_law23_EventBack),
  (F_law23_alive, code_law23_alive),
  (F_event_Read, code_event_Read),
  (F_ref23_Read, code_ref23_Read),
  (F_plain_Event, code_plain_Event),
  (F_event_Put, code_event_Put),
  (F_ref23_Check, code_ref23_Check),
  (F_law23_tick, code_law23_tick),
  (F_event_Check, code_event_Check),
  (F_octet_Open, code_octet_Open),
  (F_octet_In_Int, code_octet_In_Int),
  (F_octet_In_Byte, code_octet_In_Byte),
  (F_octet_In_Text, code_octet_In_Text),
  (F_octet_In_Value, code_octet_In_Value),
  (F_octet_In_Err, code_octet_In_Err),
  (F_octet_In_Left, code_octet_In_Left),
  (F_ref04_Number, code_ref04_Number),
  (F_ref04_Byte, code_ref04_Byte),
  (F_ref04_Words, code_ref04_Words),
  (F_ref04_Thing, code_ref04_Thing),
  (F_ref04_Left, code_ref04_Left),
  (F_plain_Value, code_plain_Value),
  (F_octet_Out_Int, code_octet_Out_Int),
  (F_octet_Out_Byte, code_octet_Out_Byte),
  (F_octet_Out_Text, code_octet_Out_Text),
  (F_octet_Out_Value, code_octet_Out_Value),
  (F_octet_Out_Done, code_octet_Out_Done),
  (F_ref06_Name, code_ref06_Name),
  (F_ref02_Check, code_ref02_Check),
  (F_ref23_empty, code_ref23_empty),
  (F_event_blank, code_event_blank),
  (F_event_named, code_event_named),
  (F_octet_In_take, code_octet_In_take),
  (F_octet_In_body, code_octet_In_body),
  (F_value_Check, code_value_Check),
  (F_octet_In_bad, code_octet_In_bad),
  (F_ref04_take, code_ref04_take),
  (F_plain_Texts, code_plain_Texts),
  (F_octet_Out_fail, code_octet_Out_fail),
  (F_ref06_head, code_ref06_head),
  (F_ref06_tail, code_ref06_tail),
  (F_ref02_bad, code_ref02_bad),
  (F_value_Same, code_value_Same),
  (F_lex_Name, code_lex_Name),
  (F_value_long, code_value_long),
  (F_slices_ContainsFunc_string_string, code_slices_ContainsFunc_string_string),
  (F_value_odd, code_value_odd),
  (F_value_Cmp, code_value_Cmp),
  (F_lex_letter, code_lex_letter),
  (F_lex_digit, code_lex_digit),
  (F_slices_IndexFunc_string_string, code_slices_IndexFunc_string_string),
  (F_value_rises, code_value_rises),
  (F_cmp_Compare_int, code_cmp_Compare_int),
  (F_cmp_Compare_int64, code_cmp_Compare_int64),
  (F_cmp_Compare_string, code_cmp_Compare_string),
  (F_slices_Compare_string_string, code_slices_Compare_string_string),
  (F_cmp_Or_int, code_cmp_Or_int),
  (F_cmp_isNaN_int, code_cmp_isNaN_int),
  (F_cmp_isNaN_int64, code_cmp_isNaN_int64),
  (F_cmp_isNaN_string, code_cmp_isNaN_string)]
def code : Nat → Option AFunc := tableAt codeL
theorem at_law23_EventReads : code F_law23_EventReads = some code_law23_EventReads := by kernel_rfl
theorem at_law23_EventBack : code F_law23_EventBack = some code_law23_EventBack := by kernel_rfl
theorem at_law23_alive : code F_law23_alive = some code_law23_alive := by kernel_rfl
theorem at_event_Read : code F_event_Read = some code_event_Read := by kernel_rfl
theorem at_ref23_Read : code F_ref23_Read = some code_ref23_Read := by kernel_rfl
theorem at_plain_Event : code F_plain_Event = some code_plain_Event := by kernel_rfl
theorem at_event_Put : code F_event_Put = some code_event_Put := by kernel_rfl
theorem at_ref23_Check : code F_ref23_Check = some code_ref23_Check := by kernel_rfl
theorem at_law23_tick : code F_law23_tick = some code_law23_tick := by kernel_rfl
theorem at_event_Check : code F_event_Check = some code_event_Check := by kernel_rfl
theorem at_octet_Open : code F_octet_Open = some code_octet_Open := by kernel_rfl
theorem at_octet_In_Int : code F_octet_In_Int = some code_octet_In_Int := by kernel_rfl
theorem at_octet_In_Byte : code F_octet_In_Byte = some code_octet_In_Byte := by kernel_rfl
theorem at_octet_In_Text : code F_octet_In_Text = some code_octet_In_Text := by kernel_rfl
theorem at_octet_In_Value : code F_octet_In_Value = some code_octet_In_Value := by kernel_rfl
theorem at_octet_In_Err : code F_octet_In_Err = some code_octet_In_Err := by kernel_rfl
theorem at_octet_In_Left : code F_octet_In_Left = some code_octet_In_Left := by kernel_rfl
theorem at_ref04_Number : code F_ref04_Number = some code_ref04_Number := by kernel_rfl
theorem at_ref04_Byte : code F_ref04_Byte = some code_ref04_Byte := by kernel_rfl
theorem at_ref04_Words : code F_ref04_Words = some code_ref04_Words := by kernel_rfl
theorem at_ref04_Thing : code F_ref04_Thing = some code_ref04_Thing := by kernel_rfl
theorem at_ref04_Left : code F_ref04_Left = some code_ref04_Left := by kernel_rfl
theorem at_plain_Value : code F_plain_Value = some code_plain_Value := by kernel_rfl
theorem at_octet_Out_Int : code F_octet_Out_Int = some code_octet_Out_Int := by kernel_rfl
theorem at_octet_Out_Byte : code F_octet_Out_Byte = some code_octet_Out_Byte := by kernel_rfl
theorem at_octet_Out_Text : code F_octet_Out_Text = some code_octet_Out_Text := by kernel_rfl
theorem at_octet_Out_Value : code F_octet_Out_Value = some code_octet_Out_Value := by kernel_rfl
theorem at_octet_Out_Done : code F_octet_Out_Done = some code_octet_Out_Done := by kernel_rfl
theorem at_ref06_Name : code F_ref06_Name = some code_ref06_Name := by kernel_rfl
theorem at_ref02_Check : code F_ref02_Check = some code_ref02_Check := by kernel_rfl
theorem at_ref23_empty : code F_ref23_empty = some code_ref23_empty := by kernel_rfl
theorem at_event_blank : code F_event_blank = some code_event_blank := by kernel_rfl
theorem at_event_named : code F_event_named = some code_event_named := by kernel_rfl
theorem at_octet_In_take : code F_octet_In_take = some code_octet_In_take := by kernel_rfl
theorem at_octet_In_body : code F_octet_In_body = some code_octet_In_body := by kernel_rfl
theorem at_value_Check : code F_value_Check = some code_value_Check := by kernel_rfl
theorem at_octet_In_bad : code F_octet_In_bad = some code_octet_In_bad := by kernel_rfl
theorem at_ref04_take : code F_ref04_take = some code_ref04_take := by kernel_rfl
theorem at_plain_Texts : code F_plain_Texts = some code_plain_Texts := by kernel_rfl
theorem at_octet_Out_fail : code F_octet_Out_fail = some code_octet_Out_fail := by kernel_rfl
theorem at_ref06_head : code F_ref06_head = some code_ref06_head := by kernel_rfl
theorem at_ref06_tail : code F_ref06_tail = some code_ref06_tail := by kernel_rfl
theorem at_ref02_bad : code F_ref02_bad = some code_ref02_bad := by kernel_rfl
theorem at_value_Same : code F_value_Same = some code_value_Same := by kernel_rfl
theorem at_lex_Name : code F_lex_Name = some code_lex_Name := by kernel_rfl
theorem at_value_long : code F_value_long = some code_value_long := by kernel_rfl
theorem at_slices_ContainsFunc_string_string : code F_slices_ContainsFunc_string_string = some code_slices_ContainsFunc_string_string := by kernel_rfl
theorem at_value_odd : code F_value_odd = some code_value_odd := by kernel_rfl
theorem at_value_Cmp : code F_value_Cmp = some code_value_Cmp := by kernel_rfl
theorem at_lex_letter : code F_lex_letter = some code_lex_letter := by kernel_rfl
theorem at_lex_digit : code F_lex_digit = some code_lex_digit := by kernel_rfl
theorem at_slices_IndexFunc_string_string : code F_slices_IndexFunc_string_string = some code_slices_IndexFunc_string_string := by kernel_rfl
theorem at_value_rises : code F_value_rises = some code_value_rises := by kernel_rfl
theorem at_cmp_Compare_int : code F_cmp_Compare_int = some code_cmp_Compare_int := by kernel_rfl
theorem at_cmp_Compare_int64 : code F_cmp_Compare_int64 = some code_cmp_Compare_int64 := by kernel_rfl
theorem at_cmp_Compare_string : code F_cmp_Compare_string = some code_cmp_Compare_string := by kernel_rfl
theorem at_slices_Compare_string_string : code F_slices_Compare_string_string = some code_slices_Compare_string_string := by kernel_rfl
theorem at_cmp_Or_int : code F_cmp_Or_int = some code_cmp_Or_int := by kernel_rfl
theorem at_cmp_isNaN_int : code F_cmp_isNaN_int = some code_cmp_isNaN_int := by kernel_rfl
theorem at_cmp_isNaN_int64 : code F_cmp_isNaN_int64 = some code_cmp_isNaN_int64 := by kernel_rfl
theorem at_cmp_isNaN_string : code F_cmp_isNaN_string = some code_cmp_isNaN_string := by kernel_rfl
end Bz.S
