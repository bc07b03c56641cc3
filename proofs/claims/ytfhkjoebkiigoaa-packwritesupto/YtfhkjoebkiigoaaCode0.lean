/- The code of functions, as the clean machine reads it (printed by a program of ours out of the seat's translation). -/
import Derived.Test.YtfhkjoebkiigoaaBz0
import Derived.KernelRfl
set_option linter.unusedSimpArgs false
set_option linter.unusedVariables false
set_option maxRecDepth 100000
namespace Bz.S
open Go Bz
def F_law14_PackWrites : Nat := 3
def F_law14_PackReads : Nat := 4
def F_law14_PackBack : Nat := 5
def F_law14_PackOnce : Nat := 6
def F_law14_alive : Nat := 7
def F_pack_Put : Nat := 8
def F_law14_rows : Nat := 10
def F_ref13_Back : Nat := 9
def F_ref13_Octets : Nat := 11
def F_pack_Expr : Nat := 12
def F_ref07_Check : Nat := 13
def F_ref13_Of : Nat := 14
def F_ref13_Read : Nat := 15
def F_pack_Read : Nat := 16
def F_pack_Back : Nat := 17
def F_plain_Expr : Nat := 18
def F_ref13_Same : Nat := 19
def F_table_Check : Nat := 20
def F_octet_Out_Byte : Nat := 21
def F_pack_row : Nat := 22
def F_octet_Out_Done : Nat := 23
def F_ref13_grow : Nat := 24
def F_ref04_Text : Nat := 25
def F_ref04_Int : Nat := 26
def F_ast_Check : Nat := 27
def F_table_Of : Nat := 28
def F_ref07_Depth : Nat := 29
def F_ref07_All : Nat := 30
def F_ref07_Kids : Nat := 31
def F_ref07_set : Nat := 32
def F_ref07_fits : Nat := 33
def F_ref04_Byte : Nat := 34
def F_ref13_row : Nat := 35
def F_ref04_Left : Nat := 36
def F_octet_Open : Nat := 37
def F_octet_In_Byte : Nat := 38
def F_pack_get : Nat := 39
def F_octet_In_Err : Nat := 40
def F_octet_In_Left : Nat := 41
def F_table_Back : Nat := 42
def F_octet_Out_fail : Nat := 43
def F_octet_Out_Text : Nat := 44
def F_octet_Out_Int : Nat := 45
def F_ast_Depth : Nat := 46
def F_ast_Size : Nat := 47
def F_ast_may : Nat := 48
def F_table_Of_1 : Nat := 49
def F_ref06_Plain : Nat := 51
def F_ref06_Name : Nat := 52
def F_ref04_take : Nat := 53
def F_ref04_Words : Nat := 54
def F_ref04_Number : Nat := 55
def F_octet_In_take : Nat := 56
def F_octet_In_Text : Nat := 57
def F_octet_In_Int : Nat := 58
def F_table_back : Nat := 59
def F_slices_EqualFunc_table_Row_table_Row_table_Row_table_Row : Nat := 60
def F_table_same : Nat := 61
def F_ast_Clone : Nat := 62
def F_ast_inner : Nat := 63
def F_ast_own : Nat := 64
def F_ast_texts : Nat := 65
def F_ast_Kids : Nat := 66
def F_slices_ContainsFunc_api_Expr_api_Expr : Nat := 67
def F_ast_may_1 : Nat := 68
def F_table_own : Nat := 50
def F_ref06_head : Nat := 69
def F_ref06_tail : Nat := 70
def F_octet_In_bad : Nat := 71
def F_slices_Equal_string_string : Nat := 72
def F_slices_Equal_int_int : Nat := 73
def F_lex_Plain : Nat := 74
def F_lex_Name : Nat := 75
def F_ast_span : Nat := 76
def F_slices_IndexFunc_api_Expr_api_Expr : Nat := 77
def F_strings_IndexByte : Nat := 78
def F_lex_letter : Nat := 79
def F_lex_digit : Nat := 80
def F_internal_stringslite_IndexByte : Nat := 81
def F_internal_bytealg_IndexByteString : Nat := 82
/-- beadle/beadlelaw14.PackWrites -/
def code_law14_PackWrites : AFunc := ⟨78, [.tmp 4],
  .seq (.region 0 [
    ⟨(some 3), .box 6 (.t 1), none, []⟩,
    ⟨(some 4), .mov (.c (.d (.bool false))), none, []⟩] false)
  (.seq (.seq (.region 1 [
    ⟨(some 12), .call (.c (.fn F_law14_alive [])) [], none, []⟩,
    ⟨(some 13), .un .not (.t 12), none, []⟩] false)
  (.cond (.t 13)
    (.seq (.region 2 [
      ⟨(some 4), .mov (.c (.d (.bool false))), none, []⟩] false)
    (.mask ⟨[4], []⟩ (.ret)))
    (.skip)))
  (.mask ⟨[0, 3], []⟩ (.seq (.region 3 [
    ⟨(some 15), .mov (.t 0), none, []⟩,
    ⟨(some 16), .call (.c (.fn F_pack_Put [])) [(.t 15)], none, []⟩,
    ⟨(some 14), .mov (.t 16), none, []⟩,
    ⟨(some 17), .extract (.t 14) 0, none, []⟩,
    ⟨(some 18), .extract (.t 14) 1, none, []⟩,
    ⟨(some 5), .mov (.t 17), none, []⟩,
    ⟨(some 6), .mov (.t 18), none, []⟩] false)
  (.seq (.region 4 [
    ⟨(some 20), .mov (.t 0), none, []⟩,
    ⟨(some 21), .call (.c (.fn F_law14_rows [])) [(.t 20)], none, []⟩,
    ⟨(some 22), .call (.c (.fn F_ref13_Back [])) [(.t 21)], none, []⟩,
    ⟨(some 19), .mov (.t 22), none, []⟩,
    ⟨(some 23), .extract (.t 19) 0, none, []⟩,
    ⟨(some 24), .extract (.t 19) 1, none, []⟩,
    ⟨(some 7), .box 6 (.c (.agg [(.d (.int .i64 (0))), (.d (.str [])), (.d (.int .i64 (0))), (.d (.int .i64 (0))), (.d (.int .i64 (0))), (.d (.vs true []))])), none, []⟩,
    ⟨none, .store 6 (.t 7) (.t 23), none, []⟩,
    ⟨(some 8), .mov (.t 24), none, []⟩] false)
  (.seq (.seq (.region 5 [
    ⟨(some 25), .mov (.t 8), none, []⟩,
    ⟨(some 26), .un .not (.t 25), none, []⟩,
    ⟨(some 27), .mov (.t 26), none, []⟩,
    ⟨(some 28), .mov (.t 6), (some (27, true)), []⟩,
    ⟨(some 29), .bin .neq (.t 28) (.c (.d (.int .i64 (16)))), (some (27, true)), []⟩,
    ⟨(some 30), .mov (.t 29), (some (27, true)), []⟩,
    ⟨(some 31), .mov (.t 5), (some (30, false)), []⟩,
    ⟨(some 32), .len .sl (.t 31), (some (30, false)), []⟩,
    ⟨(some 33), .bin .gtr (.t 32) (.c (.d (.int .i64 (0)))), (some (30, false)), []⟩,
    ⟨(some 34), .pick (.t 30) (.c (.d (.bool true))) (.t 33), (some (27, true)), []⟩,
    ⟨(some 35), .pick (.t 27) (.t 34) (.c (.d (.bool false))), none, []⟩] false)
  (.mask ⟨[0, 3, 5, 6, 8, 35], []⟩ (.cond (.t 35)
    (.seq (.region 6 [
      ⟨(some 4), .mov (.c (.d (.bool false))), none, []⟩] false)
    (.mask ⟨[4], []⟩ (.ret)))
    (.skip))))
  (.mask ⟨[0, 3, 5, 6, 8], []⟩ (.seq (.seq (.region 7 [
    ⟨(some 36), .mov (.t 8), none, []⟩,
    ⟨(some 37), .mov (.t 36), none, [0]⟩,
    ⟨(some 38), .mov (.t 6), (some (37, true)), [0, 1]⟩,
    ⟨(some 39), .bin .neq (.t 38) (.c (.d (.int .i64 (0)))), (some (37, true)), [0, 1, 2]⟩,
    ⟨(some 40), .mov (.t 39), (some (37, true)), [0, 1, 2, 3]⟩,
    ⟨(some 41), .mov (.t 5), (some (40, false)), [0, 1, 2, 3, 4]⟩,
    ⟨(some 42), .toStr (.t 41), (some (40, false)), [0, 1, 2, 3, 4, 5]⟩,
    ⟨(some 43), .mov (.t 0), (some (40, false)), [0, 1, 2, 3, 4]⟩,
    ⟨(some 44), .call (.c (.fn F_law14_rows [])) [(.t 43)], (some (40, false)), [0, 1, 2, 3, 4, 7]⟩,
    ⟨(some 45), .call (.c (.fn F_ref13_Octets [])) [(.t 44)], (some (40, false)), [0, 1, 2, 3, 4, 7, 8]⟩,
    ⟨(some 46), .toStr (.t 45), (some (40, false)), [0, 1, 2, 3, 4, 7, 8, 9]⟩,
    ⟨(some 47), .bin .neq (.t 42) (.t 46), (some (40, false)), [0, 1, 2, 3, 4, 5, 6, 7, 8, 9, 10]⟩,
    ⟨(some 48), .pick (.t 40) (.c (.d (.bool true))) (.t 47), (some (37, true)), [0, 1, 2, 3, 4, 5, 6, 7, 8, 9, 10, 11]⟩,
    ⟨(some 49), .pick (.t 37) (.t 48) (.c (.d (.bool false))), none, [0, 1, 2, 3, 4, 5, 6, 7, 8, 9, 10, 11, 12]⟩] true)
  (.mask ⟨[3, 49], []⟩ (.cond (.t 49)
    (.seq (.region 8 [
      ⟨(some 4), .mov (.c (.d (.bool false))), none, []⟩] false)
    (.mask ⟨[4], []⟩ (.ret)))
    (.skip))))
  (.mask ⟨[3], []⟩ (.seq (.region 9 [
    ⟨(some 51), .load 6 true (.t 3), none, []⟩,
    ⟨(some 52), .call (.c (.fn F_pack_Expr [])) [(.t 51)], none, []⟩,
    ⟨(some 50), .mov (.t 52), none, []⟩,
    ⟨(some 53), .extract (.t 50) 0, none, []⟩,
    ⟨(some 54), .extract (.t 50) 1, none, []⟩,
    ⟨(some 9), .mov (.t 53), none, []⟩,
    ⟨(some 10), .mov (.t 54), none, []⟩] false)
  (.seq (.seq (.region 10 [
    ⟨(some 55), .load 6 true (.t 3), none, []⟩,
    ⟨(some 56), .call (.c (.fn F_ref07_Check [])) [(.t 55)], none, []⟩,
    ⟨(some 11), .mov (.t 56), none, []⟩] false)
  (.seq (.region 11 [
    ⟨(some 57), .mov (.t 11), none, []⟩,
    ⟨(some 58), .bin .neq (.t 57) (.c (.d (.int .i64 (0)))), none, []⟩] false)
  (.cond (.t 58)
    (.seq (.region 12 [
      ⟨(some 59), .mov (.t 10), none, []⟩,
      ⟨(some 60), .mov (.t 11), none, []⟩,
      ⟨(some 61), .bin .eql (.t 59) (.t 60), none, []⟩,
      ⟨(some 62), .mov (.t 61), none, []⟩,
      ⟨(some 63), .mov (.t 9), (some (62, true)), []⟩,
      ⟨(some 64), .len .sl (.t 63), (some (62, true)), []⟩,
      ⟨(some 65), .bin .eql (.t 64) (.c (.d (.int .i64 (0)))), (some (62, true)), []⟩,
      ⟨(some 66), .pick (.t 62) (.t 65) (.c (.d (.bool false))), none, []⟩,
      ⟨(some 4), .mov (.t 66), none, []⟩] false)
    (.mask ⟨[4], []⟩ (.ret)))
    (.skip))))
  (.mask ⟨[3, 9, 10], []⟩ (.seq (.region 13 [
    ⟨(some 67), .mov (.t 10), none, []⟩,
    ⟨(some 68), .bin .eql (.t 67) (.c (.d (.int .i64 (0)))), none, [0]⟩,
    ⟨(some 69), .mov (.t 68), none, [0, 1]⟩,
    ⟨(some 70), .mov (.t 9), (some (69, true)), [0, 1, 2]⟩,
    ⟨(some 71), .toStr (.t 70), (some (69, true)), [0, 1, 2, 3]⟩,
    ⟨(some 72), .load 6 true (.t 3), (some (69, true)), [0, 1, 2]⟩,
    ⟨(some 73), .call (.c (.fn F_ref13_Of [])) [(.t 72), (.c (.d (.int .i64 (0))))], (some (69, true)), [0, 1, 2, 5]⟩,
    ⟨(some 74), .call (.c (.fn F_ref13_Octets [])) [(.t 73)], (some (69, true)), [0, 1, 2, 5, 6]⟩,
    ⟨(some 75), .toStr (.t 74), (some (69, true)), [0, 1, 2, 5, 6, 7]⟩,
    ⟨(some 76), .bin .eql (.t 71) (.t 75), (some (69, true)), [0, 1, 2, 3, 4, 5, 6, 7, 8]⟩,
    ⟨(some 77), .pick (.t 69) (.t 76) (.c (.d (.bool false))), none, [0, 1, 2, 3, 4, 5, 6, 7, 8, 9]⟩,
    ⟨(some 4), .mov (.t 77), none, [0, 1, 2, 3, 4, 5, 6, 7, 8, 9, 10]⟩] true)
  (.mask ⟨[4], []⟩ (.ret))))))))))))))⟩
/-- beadle/beadlelaw14.PackReads -/
def code_law14_PackReads : AFunc := ⟨68, [.tmp 2],
  .seq (.region 0 [
    ⟨(some 2), .mov (.c (.d (.bool false))), none, []⟩] false)
  (.seq (.seq (.region 1 [
    ⟨(some 11), .call (.c (.fn F_law14_alive [])) [], none, []⟩,
    ⟨(some 12), .un .not (.t 11), none, []⟩] false)
  (.cond (.t 12)
    (.seq (.region 2 [
      ⟨(some 2), .mov (.c (.d (.bool false))), none, []⟩] false)
    (.mask ⟨[2], []⟩ (.ret)))
    (.skip)))
  (.mask ⟨[0], []⟩ (.seq (.region 3 [
    ⟨(some 14), .mov (.t 0), none, []⟩,
    ⟨(some 15), .call (.c (.fn F_ref13_Read [])) [(.t 14)], none, []⟩,
    ⟨(some 13), .mov (.t 15), none, []⟩,
    ⟨(some 16), .extract (.t 13) 0, none, []⟩,
    ⟨(some 17), .extract (.t 13) 1, none, []⟩,
    ⟨(some 3), .mov (.t 16), none, []⟩,
    ⟨(some 4), .mov (.t 17), none, []⟩] false)
  (.seq (.region 4 [
    ⟨(some 19), .mov (.t 0), none, []⟩,
    ⟨(some 20), .call (.c (.fn F_pack_Read [])) [(.t 19)], none, []⟩,
    ⟨(some 18), .mov (.t 20), none, []⟩,
    ⟨(some 21), .extract (.t 18) 0, none, []⟩,
    ⟨(some 22), .extract (.t 18) 1, none, []⟩,
    ⟨(some 5), .mov (.t 21), none, []⟩,
    ⟨(some 6), .mov (.t 22), none, []⟩] false)
  (.seq (.region 5 [
    ⟨(some 24), .mov (.t 0), none, []⟩,
    ⟨(some 25), .call (.c (.fn F_pack_Back [])) [(.t 24)], none, []⟩,
    ⟨(some 23), .mov (.t 25), none, []⟩,
    ⟨(some 26), .extract (.t 23) 0, none, []⟩,
    ⟨(some 27), .extract (.t 23) 1, none, []⟩,
    ⟨(some 7), .box 6 (.c (.agg [(.d (.int .i64 (0))), (.d (.str [])), (.d (.int .i64 (0))), (.d (.int .i64 (0))), (.d (.int .i64 (0))), (.d (.vs true []))])), none, []⟩,
    ⟨none, .store 6 (.t 7) (.t 26), none, []⟩,
    ⟨(some 8), .mov (.t 27), none, []⟩] false)
  (.seq (.seq (.region 6 [
    ⟨(some 28), .mov (.t 4), none, []⟩,
    ⟨(some 29), .un .not (.t 28), none, []⟩] false)
  (.cond (.t 29)
    (.seq (.region 7 [
      ⟨(some 30), .mov (.t 6), none, []⟩,
      ⟨(some 31), .bin .eql (.t 30) (.c (.d (.int .i64 (16)))), none, []⟩,
      ⟨(some 32), .mov (.t 31), none, []⟩,
      ⟨(some 33), .mov (.t 8), (some (32, true)), []⟩,
      ⟨(some 34), .bin .eql (.t 33) (.c (.d (.int .i64 (16)))), (some (32, true)), []⟩,
      ⟨(some 35), .pick (.t 32) (.t 34) (.c (.d (.bool false))), none, []⟩,
      ⟨(some 36), .mov (.t 35), none, []⟩,
      ⟨(some 37), .mov (.t 5), (some (36, true)), []⟩,
      ⟨(some 38), .len .sl (.t 37), (some (36, true)), []⟩,
      ⟨(some 39), .bin .eql (.t 38) (.c (.d (.int .i64 (0)))), (some (36, true)), []⟩,
      ⟨(some 40), .pick (.t 36) (.t 39) (.c (.d (.bool false))), none, []⟩,
      ⟨(some 41), .mov (.t 40), none, []⟩,
      ⟨(some 42), .load 6 true (.t 7), (some (41, true)), []⟩,
      ⟨(some 43), .build [(.d (.int .i64 (0))), (.d (.str [])), (.d (.int .i64 (0))), (.d (.int .i64 (0))), (.d (.int .i64 (0))), (.d (.vs true []))] [], (some (41, true)), []⟩,
      ⟨(some 44), .call (.c (.fn F_plain_Expr [])) [(.t 42), (.t 43)], (some (41, true)), []⟩,
      ⟨(some 45), .pick (.t 41) (.t 44) (.c (.d (.bool false))), none, []⟩,
      ⟨(some 2), .mov (.t 45), none, []⟩] false)
    (.mask ⟨[2], []⟩ (.ret)))
    (.skip)))
  (.mask ⟨[3, 5, 6, 7, 8], []⟩ (.seq (.region 8 [
    ⟨(some 47), .mov (.t 3), none, []⟩,
    ⟨(some 48), .call (.c (.fn F_ref13_Back [])) [(.t 47)], none, []⟩,
    ⟨(some 46), .mov (.t 48), none, []⟩,
    ⟨(some 49), .extract (.t 46) 0, none, []⟩,
    ⟨(some 50), .extract (.t 46) 1, none, []⟩,
    ⟨(some 9), .box 6 (.c (.agg [(.d (.int .i64 (0))), (.d (.str [])), (.d (.int .i64 (0))), (.d (.int .i64 (0))), (.d (.int .i64 (0))), (.d (.vs true []))])), none, []⟩,
    ⟨none, .store 6 (.t 9) (.t 49), none, []⟩,
    ⟨(some 10), .mov (.t 50), none, []⟩] false)
  (.seq (.region 9 [
    ⟨(some 51), .mov (.t 6), none, []⟩,
    ⟨(some 52), .bin .eql (.t 51) (.c (.d (.int .i64 (0)))), none, []⟩,
    ⟨(some 53), .mov (.t 52), none, []⟩,
    ⟨(some 54), .mov (.t 8), (some (53, true)), []⟩,
    ⟨(some 55), .bin .eql (.t 54) (.c (.d (.int .i64 (0)))), (some (53, true)), []⟩,
    ⟨(some 56), .pick (.t 53) (.t 55) (.c (.d (.bool false))), none, []⟩,
    ⟨(some 57), .mov (.t 56), none, []⟩,
    ⟨(some 58), .mov (.t 5), (some (57, true)), []⟩,
    ⟨(some 59), .call (.c (.fn F_law14_rows [])) [(.t 58)], (some (57, true)), []⟩,
    ⟨(some 60), .mov (.t 3), (some (57, true)), []⟩,
    ⟨(some 61), .call (.c (.fn F_ref13_Same [])) [(.t 59), (.t 60)], (some (57, true)), []⟩,
    ⟨(some 62), .pick (.t 57) (.t 61) (.c (.d (.bool false))), none, []⟩,
    ⟨(some 63), .mov (.t 62), none, []⟩,
    ⟨(some 64), .load 6 true (.t 7), (some (63, true)), []⟩,
    ⟨(some 65), .load 6 true (.t 9), (some (63, true)), []⟩,
    ⟨(some 66), .call (.c (.fn F_plain_Expr [])) [(.t 64), (.t 65)], (some (63, true)), []⟩,
    ⟨(some 67), .pick (.t 63) (.t 66) (.c (.d (.bool false))), none, []⟩,
    ⟨(some 2), .mov (.t 67), none, []⟩] false)
  (.mask ⟨[2], []⟩ (.ret)))))))))))⟩
/-- beadle/beadlelaw14.PackBack -/
def code_law14_PackBack : AFunc := ⟨51, [.tmp 2],
  .seq (.region 0 [
    ⟨(some 1), .box 6 (.t 0), none, []⟩,
    ⟨(some 2), .mov (.c (.d (.bool false))), none, []⟩] false)
  (.seq (.seq (.region 1 [
    ⟨(some 9), .call (.c (.fn F_law14_alive [])) [], none, []⟩,
    ⟨(some 10), .un .not (.t 9), none, []⟩] false)
  (.cond (.t 10)
    (.seq (.region 2 [
      ⟨(some 2), .mov (.c (.d (.bool false))), none, []⟩] false)
    (.mask ⟨[2], []⟩ (.ret)))
    (.skip)))
  (.mask ⟨[1], []⟩ (.seq (.seq (.region 3 [
    ⟨(some 11), .load 6 true (.t 1), none, []⟩,
    ⟨(some 12), .call (.c (.fn F_ref07_Check [])) [(.t 11)], none, []⟩,
    ⟨(some 13), .bin .neq (.t 12) (.c (.d (.int .i64 (0)))), none, []⟩] false)
  (.cond (.t 13)
    (.seq (.region 4 [
      ⟨(some 2), .mov (.c (.d (.bool true))), none, []⟩] false)
    (.mask ⟨[2], []⟩ (.ret)))
    (.skip)))
  (.mask ⟨[1], []⟩ (.seq (.region 5 [
    ⟨(some 15), .load 6 true (.t 1), none, []⟩,
    ⟨(some 16), .call (.c (.fn F_pack_Expr [])) [(.t 15)], none, []⟩,
    ⟨(some 14), .mov (.t 16), none, []⟩,
    ⟨(some 17), .extract (.t 14) 0, none, []⟩,
    ⟨(some 18), .extract (.t 14) 1, none, []⟩,
    ⟨(some 3), .mov (.t 17), none, []⟩,
    ⟨(some 4), .mov (.t 18), none, []⟩] false)
  (.seq (.region 6 [
    ⟨(some 20), .mov (.t 3), none, []⟩,
    ⟨(some 21), .call (.c (.fn F_pack_Back [])) [(.t 20)], none, []⟩,
    ⟨(some 19), .mov (.t 21), none, []⟩,
    ⟨(some 22), .extract (.t 19) 0, none, []⟩,
    ⟨(some 23), .extract (.t 19) 1, none, []⟩,
    ⟨(some 5), .box 6 (.c (.agg [(.d (.int .i64 (0))), (.d (.str [])), (.d (.int .i64 (0))), (.d (.int .i64 (0))), (.d (.int .i64 (0))), (.d (.vs true []))])), none, []⟩,
    ⟨none, .store 6 (.t 5) (.t 22), none, []⟩,
    ⟨(some 6), .mov (.t 23), none, []⟩] false)
  (.seq (.region 7 [
    ⟨(some 25), .mov (.t 3), none, []⟩,
    ⟨(some 26), .call (.c (.fn F_pack_Read [])) [(.t 25)], none, []⟩,
    ⟨(some 24), .mov (.t 26), none, []⟩,
    ⟨(some 27), .extract (.t 24) 0, none, []⟩,
    ⟨(some 28), .extract (.t 24) 1, none, []⟩,
    ⟨(some 7), .mov (.t 27), none, []⟩,
    ⟨(some 8), .mov (.t 28), none, []⟩] false)
  (.seq (.region 8 [
    ⟨(some 29), .mov (.t 4), none, []⟩,
    ⟨(some 30), .bin .eql (.t 29) (.c (.d (.int .i64 (0)))), none, [0]⟩,
    ⟨(some 31), .mov (.t 30), none, [0, 1]⟩,
    ⟨(some 32), .mov (.t 6), (some (31, true)), [0, 1, 2]⟩,
    ⟨(some 33), .bin .eql (.t 32) (.c (.d (.int .i64 (0)))), (some (31, true)), [0, 1, 2, 3]⟩,
    ⟨(some 34), .pick (.t 31) (.t 33) (.c (.d (.bool false))), none, [0, 1, 2, 3, 4]⟩,
    ⟨(some 35), .mov (.t 34), none, [0, 1, 2, 3, 4, 5]⟩,
    ⟨(some 36), .mov (.t 8), (some (35, true)), [0, 1, 2, 3, 4, 5, 6]⟩,
    ⟨(some 37), .bin .eql (.t 36) (.c (.d (.int .i64 (0)))), (some (35, true)), [0, 1, 2, 3, 4, 5, 6, 7]⟩,
    ⟨(some 38), .pick (.t 35) (.t 37) (.c (.d (.bool false))), none, [0, 1, 2, 3, 4, 5, 6, 7, 8]⟩,
    ⟨(some 39), .mov (.t 38), none, [0, 1, 2, 3, 4, 5, 6, 7, 8, 9]⟩,
    ⟨(some 40), .load 6 true (.t 5), (some (39, true)), [0, 1, 2, 3, 4, 5, 6, 7, 8, 9, 10]⟩,
    ⟨(some 41), .load 6 true (.t 1), (some (39, true)), [0, 1, 2, 3, 4, 5, 6, 7, 8, 9, 10]⟩,
    ⟨(some 42), .call (.c (.fn F_plain_Expr [])) [(.t 40), (.t 41)], (some (39, true)), [0, 1, 2, 3, 4, 5, 6, 7, 8, 9, 10, 11, 12]⟩,
    ⟨(some 43), .pick (.t 39) (.t 42) (.c (.d (.bool false))), none, [0, 1, 2, 3, 4, 5, 6, 7, 8, 9, 10, 11, 12, 13]⟩,
    ⟨(some 44), .mov (.t 43), none, [0, 1, 2, 3, 4, 5, 6, 7, 8, 9, 10, 11, 12, 13, 14]⟩,
    ⟨(some 45), .mov (.t 7), (some (44, true)), [0, 1, 2, 3, 4, 5, 6, 7, 8, 9, 10, 11, 12, 13, 14, 15]⟩,
    ⟨(some 46), .call (.c (.fn F_law14_rows [])) [(.t 45)], (some (44, true)), [0, 1, 2, 3, 4, 5, 6, 7, 8, 9, 10, 11, 12, 13, 14, 15, 16]⟩,
    ⟨(some 47), .load 6 true (.t 1), (some (44, true)), [0, 1, 2, 3, 4, 5, 6, 7, 8, 9, 10, 11, 12, 13, 14, 15]⟩,
    ⟨(some 48), .call (.c (.fn F_ref13_Of [])) [(.t 47), (.c (.d (.int .i64 (0))))], (some (44, true)), [0, 1, 2, 3, 4, 5, 6, 7, 8, 9, 10, 11, 12, 13, 14, 15, 16, 17, 18]⟩,
    ⟨(some 49), .call (.c (.fn F_ref13_Same [])) [(.t 46), (.t 48)], (some (44, true)), [0, 1, 2, 3, 4, 5, 6, 7, 8, 9, 10, 11, 12, 13, 14, 15, 16, 17, 18, 19]⟩,
    ⟨(some 50), .pick (.t 44) (.t 49) (.c (.d (.bool false))), none, [0, 1, 2, 3, 4, 5, 6, 7, 8, 9, 10, 11, 12, 13, 14, 15, 16, 17, 18, 19, 20]⟩,
    ⟨(some 2), .mov (.t 50), none, [0, 1, 2, 3, 4, 5, 6, 7, 8, 9, 10, 11, 12, 13, 14, 15, 16, 17, 18, 19, 20, 21]⟩] true)
  (.mask ⟨[2], []⟩ (.ret))))))))))⟩
/-- beadle/beadlelaw14.PackOnce -/
def code_law14_PackOnce : AFunc := ⟨59, [.tmp 2],
  .seq (.region 0 [
    ⟨(some 2), .mov (.c (.d (.bool false))), none, []⟩] false)
  (.seq (.seq (.region 1 [
    ⟨(some 11), .call (.c (.fn F_law14_alive [])) [], none, []⟩,
    ⟨(some 12), .un .not (.t 11), none, []⟩] false)
  (.cond (.t 12)
    (.seq (.region 2 [
      ⟨(some 2), .mov (.c (.d (.bool false))), none, []⟩] false)
    (.mask ⟨[2], []⟩ (.ret)))
    (.skip)))
  (.mask ⟨[0], []⟩ (.seq (.region 3 [
    ⟨(some 14), .mov (.t 0), none, []⟩,
    ⟨(some 15), .call (.c (.fn F_pack_Read [])) [(.t 14)], none, []⟩,
    ⟨(some 13), .mov (.t 15), none, []⟩,
    ⟨(some 16), .extract (.t 13) 0, none, []⟩,
    ⟨(some 17), .extract (.t 13) 1, none, []⟩,
    ⟨(some 3), .mov (.t 16), none, []⟩,
    ⟨(some 4), .mov (.t 17), none, []⟩] false)
  (.seq (.seq (.region 4 [
    ⟨(some 18), .mov (.t 4), none, []⟩,
    ⟨(some 19), .bin .neq (.t 18) (.c (.d (.int .i64 (0)))), none, []⟩] false)
  (.cond (.t 19)
    (.seq (.region 5 [
      ⟨(some 2), .mov (.c (.d (.bool true))), none, []⟩] false)
    (.mask ⟨[2], []⟩ (.ret)))
    (.skip)))
  (.mask ⟨[0, 3], []⟩ (.seq (.region 6 [
    ⟨(some 21), .mov (.t 3), none, []⟩,
    ⟨(some 22), .call (.c (.fn F_pack_Put [])) [(.t 21)], none, []⟩,
    ⟨(some 20), .mov (.t 22), none, []⟩,
    ⟨(some 23), .extract (.t 20) 0, none, []⟩,
    ⟨(some 24), .extract (.t 20) 1, none, []⟩,
    ⟨(some 5), .mov (.t 23), none, []⟩,
    ⟨(some 6), .mov (.t 24), none, []⟩] false)
  (.seq (.region 7 [
    ⟨(some 26), .mov (.t 0), none, []⟩,
    ⟨(some 27), .call (.c (.fn F_pack_Back [])) [(.t 26)], none, []⟩,
    ⟨(some 25), .mov (.t 27), none, []⟩,
    ⟨(some 28), .extract (.t 25) 0, none, []⟩,
    ⟨(some 29), .extract (.t 25) 1, none, []⟩,
    ⟨(some 7), .box 6 (.c (.agg [(.d (.int .i64 (0))), (.d (.str [])), (.d (.int .i64 (0))), (.d (.int .i64 (0))), (.d (.int .i64 (0))), (.d (.vs true []))])), none, []⟩,
    ⟨none, .store 6 (.t 7) (.t 28), none, []⟩,
    ⟨(some 8), .mov (.t 29), none, []⟩] false)
  (.seq (.region 8 [
    ⟨(some 31), .load 6 true (.t 7), none, []⟩,
    ⟨(some 32), .call (.c (.fn F_pack_Expr [])) [(.t 31)], none, []⟩,
    ⟨(some 30), .mov (.t 32), none, []⟩,
    ⟨(some 33), .extract (.t 30) 0, none, []⟩,
    ⟨(some 34), .extract (.t 30) 1, none, []⟩,
    ⟨(some 9), .mov (.t 33), none, []⟩,
    ⟨(some 10), .mov (.t 34), none, []⟩] false)
  (.seq (.region 9 [
    ⟨(some 35), .mov (.t 6), none, []⟩,
    ⟨(some 36), .bin .eql (.t 35) (.c (.d (.int .i64 (0)))), none, []⟩,
    ⟨(some 37), .mov (.t 36), none, []⟩,
    ⟨(some 38), .mov (.t 5), (some (37, true)), []⟩,
    ⟨(some 39), .toStr (.t 38), (some (37, true)), []⟩,
    ⟨(some 40), .mov (.t 0), (some (37, true)), []⟩,
    ⟨(some 41), .toStr (.t 40), (some (37, true)), []⟩,
    ⟨(some 42), .bin .eql (.t 39) (.t 41), (some (37, true)), []⟩,
    ⟨(some 43), .pick (.t 37) (.t 42) (.c (.d (.bool false))), none, []⟩,
    ⟨(some 44), .mov (.t 43), none, []⟩,
    ⟨(some 45), .mov (.t 8), (some (44, true)), []⟩,
    ⟨(some 46), .bin .eql (.t 45) (.c (.d (.int .i64 (0)))), (some (44, true)), []⟩,
    ⟨(some 47), .pick (.t 44) (.t 46) (.c (.d (.bool false))), none, []⟩,
    ⟨(some 48), .mov (.t 47), none, []⟩,
    ⟨(some 49), .mov (.t 10), (some (48, true)), []⟩,
    ⟨(some 50), .bin .eql (.t 49) (.c (.d (.int .i64 (0)))), (some (48, true)), []⟩,
    ⟨(some 51), .pick (.t 48) (.t 50) (.c (.d (.bool false))), none, []⟩,
    ⟨(some 52), .mov (.t 51), none, []⟩,
    ⟨(some 53), .mov (.t 9), (some (52, true)), []⟩,
    ⟨(some 54), .toStr (.t 53), (some (52, true)), []⟩,
    ⟨(some 55), .mov (.t 0), (some (52, true)), []⟩,
    ⟨(some 56), .toStr (.t 55), (some (52, true)), []⟩,
    ⟨(some 57), .bin .eql (.t 54) (.t 56), (some (52, true)), []⟩,
    ⟨(some 58), .pick (.t 52) (.t 57) (.c (.d (.bool false))), none, []⟩,
    ⟨(some 2), .mov (.t 58), none, []⟩] false)
  (.mask ⟨[2], []⟩ (.ret)))))))))))⟩
/-- beadle/beadlelaw14.alive -/
def code_law14_alive : AFunc := ⟨42, [.tmp 0],
  .seq (.region 0 [
    ⟨(some 0), .mov (.c (.d (.bool false))), none, []⟩] false)
  (.seq (.region 1 [
    ⟨(some 8), .build [(.d (.int .i64 (0))), (.d (.str [])), (.d (.int .i64 (0))), (.d (.int .i64 (0))), (.d (.int .i64 (0))), (.d (.vs true []))] [(0, 1, (.c (.d (.int .i64 (7)))))], none, []⟩,
    ⟨(some 9), .call (.c (.fn F_pack_Expr [])) [(.t 8)], none, []⟩,
    ⟨(some 7), .mov (.t 9), none, []⟩,
    ⟨(some 10), .extract (.t 7) 0, none, []⟩,
    ⟨(some 11), .extract (.t 7) 1, none, []⟩,
    ⟨(some 1), .mov (.t 10), none, []⟩,
    ⟨(some 2), .mov (.t 11), none, []⟩] false)
  (.seq (.region 2 [
    ⟨(some 13), .mov (.t 1), none, []⟩,
    ⟨(some 14), .call (.c (.fn F_pack_Back [])) [(.t 13)], none, []⟩,
    ⟨(some 12), .mov (.t 14), none, []⟩,
    ⟨(some 15), .extract (.t 12) 0, none, []⟩,
    ⟨(some 16), .extract (.t 12) 1, none, []⟩,
    ⟨(some 3), .box 6 (.c (.agg [(.d (.int .i64 (0))), (.d (.str [])), (.d (.int .i64 (0))), (.d (.int .i64 (0))), (.d (.int .i64 (0))), (.d (.vs true []))])), none, []⟩,
    ⟨none, .store 6 (.t 3) (.t 15), none, []⟩,
    ⟨(some 4), .mov (.t 16), none, []⟩] false)
  (.seq (.region 3 [
    ⟨(some 18), .buildSl 1 [(.int .u8 (0))] 1 [(0, (.c (.d (.int .u8 (1)))))], none, []⟩,
    ⟨(some 19), .call (.c (.fn F_pack_Read [])) [(.t 18)], none, []⟩,
    ⟨(some 17), .mov (.t 19), none, []⟩,
    ⟨(some 20), .extract (.t 17) 0, none, []⟩,
    ⟨(some 21), .extract (.t 17) 1, none, []⟩,
    ⟨(some 5), .mov (.t 20), none, []⟩,
    ⟨(some 6), .mov (.t 21), none, []⟩] false)
  (.seq (.region 4 [
    ⟨(some 22), .mov (.t 2), none, []⟩,
    ⟨(some 23), .bin .eql (.t 22) (.c (.d (.int .i64 (0)))), none, []⟩,
    ⟨(some 24), .mov (.t 23), none, []⟩,
    ⟨(some 25), .mov (.t 1), (some (24, true)), []⟩,
    ⟨(some 26), .len .sl (.t 25), (some (24, true)), []⟩,
    ⟨(some 27), .bin .eql (.t 26) (.c (.d (.int .i64 (29)))), (some (24, true)), []⟩,
    ⟨(some 28), .pick (.t 24) (.t 27) (.c (.d (.bool false))), none, []⟩,
    ⟨(some 29), .mov (.t 28), none, []⟩,
    ⟨(some 30), .mov (.t 4), (some (29, true)), []⟩,
    ⟨(some 31), .bin .eql (.t 30) (.c (.d (.int .i64 (0)))), (some (29, true)), []⟩,
    ⟨(some 32), .pick (.t 29) (.t 31) (.c (.d (.bool false))), none, []⟩,
    ⟨(some 33), .mov (.t 32), none, []⟩,
    ⟨(some 34), .faddr 0 (.t 3), (some (33, true)), []⟩,
    ⟨(some 35), .load 1 false (.t 34), (some (33, true)), []⟩,
    ⟨(some 36), .bin .eql (.t 35) (.c (.d (.int .i64 (7)))), (some (33, true)), []⟩,
    ⟨(some 37), .pick (.t 33) (.t 36) (.c (.d (.bool false))), none, []⟩,
    ⟨(some 38), .mov (.t 37), none, []⟩,
    ⟨(some 39), .mov (.t 6), (some (38, true)), []⟩,
    ⟨(some 40), .bin .eql (.t 39) (.c (.d (.int .i64 (16)))), (some (38, true)), []⟩,
    ⟨(some 41), .pick (.t 38) (.t 40) (.c (.d (.bool false))), none, []⟩,
    ⟨(some 0), .mov (.t 41), none, []⟩] false)
  (.mask ⟨[0], []⟩ (.ret))))))⟩
def mask_pack_Put_0 : Mask := ⟨[5, 19, 20, 21], []⟩
def body_pack_Put_0 : ACode :=
  .seq (.region 7 [
    ⟨(some 22), .bin .lss (.t 21) (.t 20), none, []⟩] false)
  (.seq (.cond (.t 22)
    (.skip)
    (.mask ⟨[5], []⟩ (.exit 0)))
  (.mask ⟨[5, 19, 20, 21], []⟩ (.seq (.block 1 (.seq (.region 8 [
    ⟨(some 23), .iaddr 7 (.t 19) (.t 21), none, []⟩,
    ⟨(some 24), .load 7 true (.t 23), none, []⟩,
    ⟨(some 7), .box 7 (.c (.agg [(.d (.int .i64 (0))), (.d (.str [])), (.d (.int .i64 (0))), (.d (.int .i64 (0))), (.d (.int .i64 (0))), (.d (.vs true [])), (.d (.vs true []))])), none, []⟩,
    ⟨none, .store 7 (.t 7) (.t 24), none, []⟩] false)
  (.region 9 [
    ⟨(some 25), .mov (.t 5), none, []⟩,
    ⟨(some 26), .load 7 true (.t 7), none, []⟩,
    ⟨(some 27), .call (.c (.fn F_pack_row [])) [(.t 25), (.t 26)], none, []⟩] false)))
  (.mask ⟨[5, 19, 20, 21], []⟩ (.region 10 [
    ⟨(some 28), .bin .add (.t 21) (.c (.d (.int .i64 (1)))), none, []⟩,
    ⟨(some 21), .mov (.t 28), none, []⟩] false)))))
/-- beadle/pack.Put -/
def code_pack_Put : AFunc := ⟨33, [.tmp 2, .tmp 3],
  .seq (.region 0 [
    ⟨(some 2), .mov (.c (.d (.vs true []))), none, []⟩,
    ⟨(some 3), .mov (.c (.d (.int .i64 (0)))), none, []⟩] false)
  (.seq (.seq (.region 1 [
    ⟨(some 8), .mov (.t 0), none, []⟩,
    ⟨(some 9), .call (.c (.fn F_table_Check [])) [(.t 8)], none, []⟩,
    ⟨(some 4), .mov (.t 9), none, []⟩] false)
  (.seq (.region 2 [
    ⟨(some 10), .mov (.t 4), none, []⟩,
    ⟨(some 11), .bin .neq (.t 10) (.c (.d (.int .i64 (0)))), none, []⟩] false)
  (.cond (.t 11)
    (.seq (.region 3 [
      ⟨(some 12), .mov (.t 4), none, []⟩,
      ⟨(some 2), .mov (.c (.d (.vs true []))), none, []⟩,
      ⟨(some 3), .mov (.t 12), none, []⟩] false)
    (.mask ⟨[2, 3], []⟩ (.ret)))
    (.skip))))
  (.mask ⟨[0], []⟩ (.seq (.region 4 [
    ⟨(some 13), .build [(.d (.vs true [])), (.d (.int .i64 (0)))] [], none, []⟩,
    ⟨(some 14), .box 2 (.t 13), none, []⟩,
    ⟨(some 5), .mov (.t 14), none, []⟩] false)
  (.seq (.region 5 [
    ⟨(some 15), .mov (.t 5), none, []⟩,
    ⟨(some 16), .mov (.t 0), none, []⟩,
    ⟨(some 17), .len .sl (.t 16), none, []⟩,
    ⟨(some 18), .call (.c (.fn F_octet_Out_Byte [])) [(.t 15), (.t 17)], none, []⟩] false)
  (.seq (.seq (.region 6 [
    ⟨(some 19), .mov (.t 0), none, []⟩,
    ⟨(some 20), .len .sl (.t 19), none, []⟩,
    ⟨(some 21), .mov (.c (.d (.int .i64 (0)))), none, []⟩] false)
  (.block 0 (.loop mask_pack_Put_0 body_pack_Put_0)))
  (.mask ⟨[5], []⟩ (.seq (.region 11 [
    ⟨(some 29), .mov (.t 5), none, []⟩,
    ⟨(some 30), .call (.c (.fn F_octet_Out_Done [])) [(.t 29)], none, []⟩,
    ⟨(some 31), .extract (.t 30) 0, none, []⟩,
    ⟨(some 32), .extract (.t 30) 1, none, []⟩,
    ⟨(some 2), .mov (.t 31), none, []⟩,
    ⟨(some 3), .mov (.t 32), none, []⟩] false)
  (.mask ⟨[2, 3], []⟩ (.ret)))))))))⟩
def mask_law14_rows_0 : Mask := ⟨[0, 3, 4], [.slot 3 10000030 7]⟩
def body_law14_rows_0 : ACode :=
  .seq (.seq (.region 3 [
    ⟨(some 6), .mov (.t 4), none, []⟩,
    ⟨(some 7), .mov (.t 0), none, []⟩,
    ⟨(some 8), .len .sl (.t 7), none, []⟩,
    ⟨(some 9), .bin .lss (.t 6) (.t 8), none, []⟩] false)
  (.cond (.t 9)
    (.skip)
    (.mask ⟨[3], [.slot 3 10000030 7]⟩ (.exit 0))))
  (.mask ⟨[0, 3, 4], [.slot 3 10000030 7]⟩ (.seq (.block 1 (.seq (.region 5 [
    ⟨(some 12), .mov (.t 0), none, []⟩,
    ⟨(some 13), .mov (.t 4), none, []⟩,
    ⟨(some 14), .iaddr 7 (.t 12) (.t 13), none, []⟩,
    ⟨(some 15), .load 7 true (.t 14), none, []⟩,
    ⟨(some 5), .box 7 (.c (.agg [(.d (.int .i64 (0))), (.d (.str [])), (.d (.int .i64 (0))), (.d (.int .i64 (0))), (.d (.int .i64 (0))), (.d (.vs true [])), (.d (.vs true []))])), none, []⟩,
    ⟨none, .store 7 (.t 5) (.t 15), none, []⟩] false)
  (.region 6 [
    ⟨(some 16), .mov (.t 3), none, []⟩,
    ⟨(some 17), .faddr 0 (.t 5), none, []⟩,
    ⟨(some 18), .load 1 false (.t 17), none, []⟩,
    ⟨(some 19), .faddr 1 (.t 5), none, []⟩,
    ⟨(some 20), .load 1 false (.t 19), none, []⟩,
    ⟨(some 21), .faddr 2 (.t 5), none, []⟩,
    ⟨(some 22), .load 1 false (.t 21), none, []⟩,
    ⟨(some 23), .faddr 3 (.t 5), none, []⟩,
    ⟨(some 24), .load 1 false (.t 23), none, []⟩,
    ⟨(some 25), .faddr 4 (.t 5), none, []⟩,
    ⟨(some 26), .load 1 false (.t 25), none, []⟩,
    ⟨(some 27), .faddr 5 (.t 5), none, []⟩,
    ⟨(some 28), .load 1 false (.t 27), none, []⟩,
    ⟨(some 29), .faddr 6 (.t 5), none, []⟩,
    ⟨(some 30), .load 1 false (.t 29), none, []⟩,
    ⟨(some 31), .build [(.d (.int .i64 (0))), (.d (.str [])), (.d (.int .i64 (0))), (.d (.int .i64 (0))), (.d (.int .i64 (0))), (.d (.vs true [])), (.d (.vs true []))] [(0, 1, (.t 18)), (1, 1, (.t 20)), (2, 1, (.t 22)), (3, 1, (.t 24)), (4, 1, (.t 26)), (5, 1, (.t 28)), (6, 1, (.t 30))], none, []⟩,
    ⟨(some 32), .buildSl 7 [(.int .i64 (0)), (.str []), (.int .i64 (0)), (.int .i64 (0)), (.int .i64 (0)), (.vs false []), (.vs false [])] 1 [(0, (.t 31))], none, []⟩,
    ⟨(some 33), .append 7 (.t 16) (.t 32), none, []⟩,
    ⟨(some 3), .mov (.t 33), none, []⟩] false)))
  (.mask ⟨[0, 3, 4], [.slot 3 10000030 7]⟩ (.region 4 [
    ⟨(some 10), .mov (.t 4), none, []⟩,
    ⟨(some 11), .bin .add (.t 10) (.c (.d (.int .i64 (1)))), none, []⟩,
    ⟨(some 4), .mov (.t 11), none, []⟩] false))))
/-- beadle/beadlelaw14.rows -/
def code_law14_rows : AFunc := ⟨35, [.tmp 2],
  .seq (.region 0 [
    ⟨(some 2), .mov (.c (.d (.vs true []))), none, []⟩] false)
  (.seq (.region 1 [
    ⟨(some 3), .mov (.c (.d (.vs true []))), none, []⟩] false)
  (.seq (.seq (.region 2 [
    ⟨(some 4), .mov (.c (.d (.int .i64 (0)))), none, []⟩] false)
  (.block 0 (.loop mask_law14_rows_0 body_law14_rows_0)))
  (.mask ⟨[3], [.slot 3 10000030 7]⟩ (.seq (.region 7 [
    ⟨(some 34), .mov (.t 3), none, []⟩,
    ⟨(some 2), .mov (.t 34), none, []⟩] false)
  (.mask ⟨[2], [.slot 2 10000020 7]⟩ (.ret))))))⟩
/-- beadle/beadleref13.Back -/
def code_ref13_Back : AFunc := ⟨41, [.cell 2 6 true, .tmp 3],
  .seq (.region 0 [
    ⟨(some 2), .box 6 (.c (.agg [(.d (.int .i64 (0))), (.d (.str [])), (.d (.int .i64 (0))), (.d (.int .i64 (0))), (.d (.int .i64 (0))), (.d (.vs true []))])), none, []⟩,
    ⟨(some 3), .mov (.c (.d (.bool false))), none, []⟩] false)
  (.seq (.seq (.region 1 [
    ⟨(some 6), .mov (.t 0), none, []⟩,
    ⟨(some 7), .len .sl (.t 6), none, []⟩,
    ⟨(some 8), .bin .eql (.t 7) (.c (.d (.int .i64 (0)))), none, []⟩,
    ⟨(some 9), .mov (.t 8), none, []⟩,
    ⟨(some 10), .mov (.t 0), (some (9, false)), []⟩,
    ⟨(some 11), .len .sl (.t 10), (some (9, false)), []⟩,
    ⟨(some 12), .bin .gtr (.t 11) (.c (.d (.int .i64 (64)))), (some (9, false)), []⟩,
    ⟨(some 13), .pick (.t 9) (.c (.d (.bool true))) (.t 12), none, []⟩] false)
  (.mask ⟨[0, 2, 13], []⟩ (.cond (.t 13)
    (.seq (.region 2 [
      ⟨(some 14), .build [(.d (.int .i64 (0))), (.d (.str [])), (.d (.int .i64 (0))), (.d (.int .i64 (0))), (.d (.int .i64 (0))), (.d (.vs true []))] [], none, []⟩,
      ⟨none, .store 6 (.t 2) (.t 14), none, []⟩,
      ⟨(some 3), .mov (.c (.d (.bool false))), none, []⟩] false)
    (.mask ⟨[2, 3], []⟩ (.ret)))
    (.skip))))
  (.mask ⟨[0, 2], []⟩ (.seq (.region 3 [
    ⟨(some 16), .mov (.t 0), none, []⟩,
    ⟨(some 17), .mov (.t 0), none, []⟩,
    ⟨(some 18), .len .sl (.t 17), none, []⟩,
    ⟨(some 19), .bin .sub (.t 18) (.c (.d (.int .i64 (1)))), none, []⟩,
    ⟨(some 20), .mov (.t 0), none, []⟩,
    ⟨(some 21), .len .sl (.t 20), none, []⟩,
    ⟨(some 22), .call (.c (.fn F_ref13_grow [])) [(.t 16), (.t 19), (.t 21)], none, []⟩,
    ⟨(some 15), .mov (.t 22), none, []⟩,
    ⟨(some 23), .extract (.t 15) 0, none, []⟩,
    ⟨(some 24), .extract (.t 15) 1, none, []⟩,
    ⟨(some 4), .box 6 (.c (.agg [(.d (.int .i64 (0))), (.d (.str [])), (.d (.int .i64 (0))), (.d (.int .i64 (0))), (.d (.int .i64 (0))), (.d (.vs true []))])), none, []⟩,
    ⟨none, .store 6 (.t 4) (.t 23), none, []⟩,
    ⟨(some 5), .mov (.t 24), none, []⟩] false)
  (.seq (.seq (.region 4 [
    ⟨(some 25), .mov (.t 5), none, []⟩,
    ⟨(some 26), .bin .neq (.t 25) (.c (.d (.int .i64 (0)))), none, []⟩,
    ⟨(some 27), .mov (.t 26), none, []⟩,
    ⟨(some 28), .load 6 true (.t 4), (some (27, false)), []⟩,
    ⟨(some 29), .call (.c (.fn F_ref07_Check [])) [(.t 28)], (some (27, false)), []⟩,
    ⟨(some 30), .bin .neq (.t 29) (.c (.d (.int .i64 (0)))), (some (27, false)), []⟩,
    ⟨(some 31), .pick (.t 27) (.c (.d (.bool true))) (.t 30), none, []⟩,
    ⟨(some 32), .mov (.t 31), none, []⟩,
    ⟨(some 33), .load 6 true (.t 4), (some (32, false)), []⟩,
    ⟨(some 34), .call (.c (.fn F_ref13_Of [])) [(.t 33), (.c (.d (.int .i64 (0))))], (some (32, false)), []⟩,
    ⟨(some 35), .mov (.t 0), (some (32, false)), []⟩,
    ⟨(some 36), .call (.c (.fn F_ref13_Same [])) [(.t 34), (.t 35)], (some (32, false)), []⟩,
    ⟨(some 37), .un .not (.t 36), (some (32, false)), []⟩,
    ⟨(some 38), .pick (.t 32) (.c (.d (.bool true))) (.t 37), none, []⟩] false)
  (.mask ⟨[2, 4, 38], []⟩ (.cond (.t 38)
    (.seq (.region 5 [
      ⟨(some 39), .build [(.d (.int .i64 (0))), (.d (.str [])), (.d (.int .i64 (0))), (.d (.int .i64 (0))), (.d (.int .i64 (0))), (.d (.vs true []))] [], none, []⟩,
      ⟨none, .store 6 (.t 2) (.t 39), none, []⟩,
      ⟨(some 3), .mov (.c (.d (.bool false))), none, []⟩] false)
    (.mask ⟨[2, 3], []⟩ (.ret)))
    (.skip))))
  (.mask ⟨[2, 4], []⟩ (.seq (.region 6 [
    ⟨(some 40), .load 6 true (.t 4), none, []⟩,
    ⟨none, .store 6 (.t 2) (.t 40), none, []⟩,
    ⟨(some 3), .mov (.c (.d (.bool true))), none, []⟩] false)
  (.mask ⟨[2, 3], []⟩ (.ret))))))))⟩
def mask_ref13_Octets_0 : Mask := ⟨[0, 3, 4, 5, 6], [.slot 3 10000030 1]⟩
def body_ref13_Octets_0 : ACode :=
  .seq (.seq (.region 13 [
    ⟨(some 55), .mov (.t 6), none, []⟩,
    ⟨(some 56), .faddr 5 (.t 5), none, []⟩,
    ⟨(some 57), .load 1 false (.t 56), none, []⟩,
    ⟨(some 58), .len .sl (.t 57), none, []⟩,
    ⟨(some 59), .bin .lss (.t 55) (.t 58), none, []⟩] false)
  (.cond (.t 59)
    (.skip)
    (.mask ⟨[0, 3, 4, 5], [.slot 3 10000030 1]⟩ (.exit 2))))
  (.mask ⟨[0, 3, 4, 5, 6], [.slot 3 10000030 1]⟩ (.seq (.block 3 (.region 15 [
    ⟨(some 62), .mov (.t 3), none, []⟩,
    ⟨(some 63), .faddr 5 (.t 5), none, []⟩,
    ⟨(some 64), .load 1 false (.t 63), none, []⟩,
    ⟨(some 65), .mov (.t 6), none, []⟩,
    ⟨(some 66), .iaddr 1 (.t 64) (.t 65), none, []⟩,
    ⟨(some 67), .load 1 false (.t 66), none, []⟩,
    ⟨(some 68), .call (.c (.fn F_ref04_Text [])) [(.t 67)], none, []⟩,
    ⟨(some 69), .append 1 (.t 62) (.t 68), none, []⟩,
    ⟨(some 3), .mov (.t 69), none, []⟩] false))
  (.mask ⟨[0, 3, 4, 5, 6], [.slot 3 10000030 1]⟩ (.region 14 [
    ⟨(some 60), .mov (.t 6), none, []⟩,
    ⟨(some 61), .bin .add (.t 60) (.c (.d (.int .i64 (1)))), none, []⟩,
    ⟨(some 6), .mov (.t 61), none, []⟩] false))))
def mask_ref13_Octets_1 : Mask := ⟨[0, 3, 4, 5, 7], [.slot 3 10000030 1]⟩
def body_ref13_Octets_1 : ACode :=
  .seq (.seq (.region 18 [
    ⟨(some 77), .mov (.t 7), none, []⟩,
    ⟨(some 78), .faddr 6 (.t 5), none, []⟩,
    ⟨(some 79), .load 1 false (.t 78), none, []⟩,
    ⟨(some 80), .len .sl (.t 79), none, []⟩,
    ⟨(some 81), .bin .lss (.t 77) (.t 80), none, []⟩] false)
  (.cond (.t 81)
    (.skip)
    (.mask ⟨[0, 3, 4], [.slot 3 10000030 1]⟩ (.exit 4))))
  (.mask ⟨[0, 3, 4, 5, 7], [.slot 3 10000030 1]⟩ (.seq (.block 5 (.region 20 [
    ⟨(some 84), .mov (.t 3), none, []⟩,
    ⟨(some 85), .faddr 6 (.t 5), none, []⟩,
    ⟨(some 86), .load 1 false (.t 85), none, []⟩,
    ⟨(some 87), .mov (.t 7), none, []⟩,
    ⟨(some 88), .iaddr 1 (.t 86) (.t 87), none, []⟩,
    ⟨(some 89), .load 1 false (.t 88), none, []⟩,
    ⟨(some 90), .toInt .u8 (.t 89), none, []⟩,
    ⟨(some 91), .buildSl 1 [(.int .u8 (0))] 1 [(0, (.t 90))], none, []⟩,
    ⟨(some 92), .append 1 (.t 84) (.t 91), none, []⟩,
    ⟨(some 3), .mov (.t 92), none, []⟩] false))
  (.mask ⟨[0, 3, 4, 5, 7], [.slot 3 10000030 1]⟩ (.region 19 [
    ⟨(some 82), .mov (.t 7), none, []⟩,
    ⟨(some 83), .bin .add (.t 82) (.c (.d (.int .i64 (1)))), none, []⟩,
    ⟨(some 7), .mov (.t 83), none, []⟩] false))))
def mask_ref13_Octets_2 : Mask := ⟨[0, 3, 4], [.slot 3 10000030 1]⟩
def body_ref13_Octets_2 : ACode :=
  .seq (.seq (.region 3 [
    ⟨(some 12), .mov (.t 4), none, []⟩,
    ⟨(some 13), .mov (.t 0), none, []⟩,
    ⟨(some 14), .len .sl (.t 13), none, []⟩,
    ⟨(some 15), .bin .lss (.t 12) (.t 14), none, []⟩] false)
  (.cond (.t 15)
    (.skip)
    (.mask ⟨[3], [.slot 3 10000030 1]⟩ (.exit 0))))
  (.mask ⟨[0, 3, 4], [.slot 3 10000030 1]⟩ (.seq (.block 1 (.seq (.region 5 [
    ⟨(some 18), .mov (.t 0), none, []⟩,
    ⟨(some 19), .mov (.t 4), none, []⟩,
    ⟨(some 20), .iaddr 7 (.t 18) (.t 19), none, []⟩,
    ⟨(some 21), .load 7 true (.t 20), none, []⟩,
    ⟨(some 5), .box 7 (.c (.agg [(.d (.int .i64 (0))), (.d (.str [])), (.d (.int .i64 (0))), (.d (.int .i64 (0))), (.d (.int .i64 (0))), (.d (.vs true [])), (.d (.vs true []))])), none, []⟩,
    ⟨none, .store 7 (.t 5) (.t 21), none, []⟩] false)
  (.seq (.region 6 [
    ⟨(some 22), .mov (.t 3), none, []⟩,
    ⟨(some 23), .faddr 0 (.t 5), none, []⟩,
    ⟨(some 24), .load 1 false (.t 23), none, []⟩,
    ⟨(some 25), .toInt .u8 (.t 24), none, []⟩,
    ⟨(some 26), .buildSl 1 [(.int .u8 (0))] 1 [(0, (.t 25))], none, []⟩,
    ⟨(some 27), .append 1 (.t 22) (.t 26), none, []⟩,
    ⟨(some 3), .mov (.t 27), none, []⟩] false)
  (.seq (.region 7 [
    ⟨(some 28), .mov (.t 3), none, []⟩,
    ⟨(some 29), .faddr 1 (.t 5), none, []⟩,
    ⟨(some 30), .load 1 false (.t 29), none, []⟩,
    ⟨(some 31), .call (.c (.fn F_ref04_Text [])) [(.t 30)], none, []⟩,
    ⟨(some 32), .append 1 (.t 28) (.t 31), none, []⟩,
    ⟨(some 3), .mov (.t 32), none, []⟩] false)
  (.seq (.region 8 [
    ⟨(some 33), .mov (.t 3), none, []⟩,
    ⟨(some 34), .faddr 2 (.t 5), none, []⟩,
    ⟨(some 35), .load 1 false (.t 34), none, []⟩,
    ⟨(some 36), .call (.c (.fn F_ref04_Int [])) [(.t 35)], none, []⟩,
    ⟨(some 37), .append 1 (.t 33) (.t 36), none, []⟩,
    ⟨(some 3), .mov (.t 37), none, []⟩] false)
  (.seq (.region 9 [
    ⟨(some 38), .mov (.t 3), none, []⟩,
    ⟨(some 39), .faddr 3 (.t 5), none, []⟩,
    ⟨(some 40), .load 1 false (.t 39), none, []⟩,
    ⟨(some 41), .call (.c (.fn F_ref04_Int [])) [(.t 40)], none, []⟩,
    ⟨(some 42), .append 1 (.t 38) (.t 41), none, []⟩,
    ⟨(some 3), .mov (.t 42), none, []⟩] false)
  (.seq (.region 10 [
    ⟨(some 43), .mov (.t 3), none, []⟩,
    ⟨(some 44), .faddr 4 (.t 5), none, []⟩,
    ⟨(some 45), .load 1 false (.t 44), none, []⟩,
    ⟨(some 46), .call (.c (.fn F_ref04_Int [])) [(.t 45)], none, []⟩,
    ⟨(some 47), .append 1 (.t 43) (.t 46), none, []⟩,
    ⟨(some 3), .mov (.t 47), none, []⟩] false)
  (.seq (.region 11 [
    ⟨(some 48), .mov (.t 3), none, []⟩,
    ⟨(some 49), .faddr 5 (.t 5), none, []⟩,
    ⟨(some 50), .load 1 false (.t 49), none, []⟩,
    ⟨(some 51), .len .sl (.t 50), none, []⟩,
    ⟨(some 52), .toInt .u8 (.t 51), none, []⟩,
    ⟨(some 53), .buildSl 1 [(.int .u8 (0))] 1 [(0, (.t 52))], none, []⟩,
    ⟨(some 54), .append 1 (.t 48) (.t 53), none, []⟩,
    ⟨(some 3), .mov (.t 54), none, []⟩] false)
  (.seq (.seq (.region 12 [
    ⟨(some 6), .mov (.c (.d (.int .i64 (0)))), none, []⟩] false)
  (.block 2 (.loop mask_ref13_Octets_0 body_ref13_Octets_0)))
  (.mask ⟨[0, 3, 4, 5], [.slot 3 10000030 1]⟩ (.seq (.region 16 [
    ⟨(some 70), .mov (.t 3), none, []⟩,
    ⟨(some 71), .faddr 6 (.t 5), none, []⟩,
    ⟨(some 72), .load 1 false (.t 71), none, []⟩,
    ⟨(some 73), .len .sl (.t 72), none, []⟩,
    ⟨(some 74), .toInt .u8 (.t 73), none, []⟩,
    ⟨(some 75), .buildSl 1 [(.int .u8 (0))] 1 [(0, (.t 74))], none, []⟩,
    ⟨(some 76), .append 1 (.t 70) (.t 75), none, []⟩,
    ⟨(some 3), .mov (.t 76), none, []⟩] false)
  (.seq (.region 17 [
    ⟨(some 7), .mov (.c (.d (.int .i64 (0)))), none, []⟩] false)
  (.block 4 (.loop mask_ref13_Octets_1 body_ref13_Octets_1))))))))))))))
  (.mask ⟨[0, 3, 4], [.slot 3 10000030 1]⟩ (.region 4 [
    ⟨(some 16), .mov (.t 4), none, []⟩,
    ⟨(some 17), .bin .add (.t 16) (.c (.d (.int .i64 (1)))), none, []⟩,
    ⟨(some 4), .mov (.t 17), none, []⟩] false))))
/-- beadle/beadleref13.Octets -/
def code_ref13_Octets : AFunc := ⟨94, [.tmp 2],
  .seq (.region 0 [
    ⟨(some 2), .mov (.c (.d (.vs true []))), none, []⟩] false)
  (.seq (.region 1 [
    ⟨(some 8), .mov (.t 0), none, []⟩,
    ⟨(some 9), .len .sl (.t 8), none, []⟩,
    ⟨(some 10), .toInt .u8 (.t 9), none, []⟩,
    ⟨(some 11), .buildSl 1 [(.int .u8 (0))] 1 [(0, (.t 10))], none, []⟩,
    ⟨(some 3), .mov (.t 11), none, []⟩] false)
  (.seq (.seq (.region 2 [
    ⟨(some 4), .mov (.c (.d (.int .i64 (0)))), none, []⟩] false)
  (.block 0 (.loop mask_ref13_Octets_2 body_ref13_Octets_2)))
  (.mask ⟨[3], [.slot 3 10000030 1]⟩ (.seq (.region 21 [
    ⟨(some 93), .mov (.t 3), none, []⟩,
    ⟨(some 2), .mov (.t 93), none, []⟩] false)
  (.mask ⟨[2], [.slot 2 10000020 1]⟩ (.ret))))))⟩
/-- beadle/pack.Expr -/
def code_pack_Expr : AFunc := ⟨15, [.tmp 2, .tmp 3],
  .seq (.region 0 [
    ⟨(some 1), .box 6 (.t 0), none, []⟩,
    ⟨(some 2), .mov (.c (.d (.vs true []))), none, []⟩,
    ⟨(some 3), .mov (.c (.d (.int .i64 (0)))), none, []⟩] false)
  (.seq (.seq (.region 1 [
    ⟨(some 5), .load 6 true (.t 1), none, []⟩,
    ⟨(some 6), .call (.c (.fn F_ast_Check [])) [(.t 5)], none, []⟩,
    ⟨(some 4), .mov (.t 6), none, []⟩] false)
  (.seq (.region 2 [
    ⟨(some 7), .mov (.t 4), none, []⟩,
    ⟨(some 8), .bin .neq (.t 7) (.c (.d (.int .i64 (0)))), none, []⟩] false)
  (.cond (.t 8)
    (.seq (.region 3 [
      ⟨(some 9), .mov (.t 4), none, []⟩,
      ⟨(some 2), .mov (.c (.d (.vs true []))), none, []⟩,
      ⟨(some 3), .mov (.t 9), none, []⟩] false)
    (.mask ⟨[2, 3], []⟩ (.ret)))
    (.skip))))
  (.mask ⟨[1], []⟩ (.seq (.region 4 [
    ⟨(some 10), .load 6 true (.t 1), none, []⟩,
    ⟨(some 11), .call (.c (.fn F_table_Of [])) [(.t 10)], none, []⟩,
    ⟨(some 12), .call (.c (.fn F_pack_Put [])) [(.t 11)], none, []⟩,
    ⟨(some 13), .extract (.t 12) 0, none, []⟩,
    ⟨(some 14), .extract (.t 12) 1, none, []⟩,
    ⟨(some 2), .mov (.t 13), none, []⟩,
    ⟨(some 3), .mov (.t 14), none, []⟩] false)
  (.mask ⟨[2, 3], []⟩ (.ret)))))⟩
def mask_ref07_Check_0 : Mask := ⟨[3, 4], []⟩
def body_ref07_Check_0 : ACode :=
  .seq (.seq (.region 7 [
    ⟨(some 14), .mov (.t 4), none, []⟩,
    ⟨(some 15), .mov (.t 3), none, []⟩,
    ⟨(some 16), .len .sl (.t 15), none, []⟩,
    ⟨(some 17), .bin .lss (.t 14) (.t 16), none, []⟩] false)
  (.cond (.t 17)
    (.skip)
    (.mask ⟨[], []⟩ (.exit 0))))
  (.mask ⟨[3, 4], []⟩ (.seq (.block 1 (.seq (.region 9 [
    ⟨(some 20), .mov (.t 3), none, []⟩,
    ⟨(some 21), .mov (.t 4), none, []⟩,
    ⟨(some 22), .iaddr 6 (.t 20) (.t 21), none, []⟩,
    ⟨(some 23), .faddr 0 (.t 22), none, []⟩,
    ⟨(some 24), .load 1 false (.t 23), none, []⟩,
    ⟨(some 25), .call (.c (.fn F_ref07_Kids [])) [(.t 24)], none, []⟩,
    ⟨(some 5), .mov (.t 25), none, []⟩] false)
  (.seq (.region 10 [
    ⟨(some 26), .mov (.t 5), none, []⟩,
    ⟨(some 27), .bin .eql (.t 26) (.c (.d (.int .i64 (-2)))), none, []⟩,
    ⟨(some 28), .mov (.t 27), none, []⟩,
    ⟨(some 29), .mov (.t 5), (some (28, false)), []⟩,
    ⟨(some 30), .bin .geq (.t 29) (.c (.d (.int .i64 (0)))), (some (28, false)), []⟩,
    ⟨(some 31), .mov (.t 30), (some (28, false)), []⟩,
    ⟨(some 32), .mov (.t 3), (some (31, true)), []⟩,
    ⟨(some 33), .mov (.t 4), (some (31, true)), []⟩,
    ⟨(some 34), .iaddr 6 (.t 32) (.t 33), (some (31, true)), []⟩,
    ⟨(some 35), .faddr 5 (.t 34), (some (31, true)), []⟩,
    ⟨(some 36), .load 1 false (.t 35), (some (31, true)), []⟩,
    ⟨(some 37), .len .sl (.t 36), (some (31, true)), []⟩,
    ⟨(some 38), .mov (.t 5), (some (31, true)), []⟩,
    ⟨(some 39), .bin .neq (.t 37) (.t 38), (some (31, true)), []⟩,
    ⟨(some 40), .pick (.t 31) (.t 39) (.c (.d (.bool false))), (some (28, false)), []⟩,
    ⟨(some 41), .pick (.t 28) (.c (.d (.bool true))) (.t 40), none, []⟩,
    ⟨(some 42), .mov (.t 41), none, []⟩,
    ⟨(some 43), .mov (.t 5), (some (42, false)), []⟩,
    ⟨(some 44), .bin .eql (.t 43) (.c (.d (.int .i64 (-1)))), (some (42, false)), []⟩,
    ⟨(some 45), .mov (.t 44), (some (42, false)), []⟩,
    ⟨(some 46), .mov (.t 3), (some (45, true)), []⟩,
    ⟨(some 47), .mov (.t 4), (some (45, true)), []⟩,
    ⟨(some 48), .iaddr 6 (.t 46) (.t 47), (some (45, true)), []⟩,
    ⟨(some 49), .load 6 true (.t 48), (some (45, true)), []⟩,
    ⟨(some 50), .call (.c (.fn F_ref07_set [])) [(.t 49)], (some (45, true)), []⟩,
    ⟨(some 51), .un .not (.t 50), (some (45, true)), []⟩,
    ⟨(some 52), .pick (.t 45) (.t 51) (.c (.d (.bool false))), (some (42, false)), []⟩,
    ⟨(some 53), .pick (.t 42) (.c (.d (.bool true))) (.t 52), none, []⟩,
    ⟨(some 54), .mov (.t 53), none, []⟩,
    ⟨(some 55), .mov (.t 3), (some (54, false)), []⟩,
    ⟨(some 56), .mov (.t 4), (some (54, false)), []⟩,
    ⟨(some 57), .iaddr 6 (.t 55) (.t 56), (some (54, false)), []⟩,
    ⟨(some 58), .load 6 true (.t 57), (some (54, false)), []⟩,
    ⟨(some 59), .call (.c (.fn F_ref07_fits [])) [(.t 58)], (some (54, false)), []⟩,
    ⟨(some 60), .un .not (.t 59), (some (54, false)), []⟩,
    ⟨(some 61), .pick (.t 54) (.c (.d (.bool true))) (.t 60), none, []⟩] false)
  (.mask ⟨[3, 4, 61], []⟩ (.cond (.t 61)
    (.seq (.region 11 [
      ⟨(some 2), .mov (.c (.d (.int .i64 (12)))), none, []⟩] false)
    (.mask ⟨[2], []⟩ (.ret)))
    (.skip))))))
  (.mask ⟨[3, 4], []⟩ (.region 8 [
    ⟨(some 18), .mov (.t 4), none, []⟩,
    ⟨(some 19), .bin .add (.t 18) (.c (.d (.int .i64 (1)))), none, []⟩,
    ⟨(some 4), .mov (.t 19), none, []⟩] false))))
/-- beadle/beadleref07.Check -/
def code_ref07_Check : AFunc := ⟨62, [.tmp 2],
  .seq (.region 0 [
    ⟨(some 1), .box 6 (.t 0), none, []⟩,
    ⟨(some 2), .mov (.c (.d (.int .i64 (0)))), none, []⟩] false)
  (.seq (.seq (.region 1 [
    ⟨(some 6), .load 6 true (.t 1), none, []⟩,
    ⟨(some 7), .call (.c (.fn F_ref07_Depth [])) [(.t 6)], none, []⟩,
    ⟨(some 8), .bin .gtr (.t 7) (.c (.d (.int .i64 (12)))), none, []⟩] false)
  (.cond (.t 8)
    (.seq (.region 2 [
      ⟨(some 2), .mov (.c (.d (.int .i64 (32)))), none, []⟩] false)
    (.mask ⟨[2], []⟩ (.ret)))
    (.skip)))
  (.mask ⟨[1], []⟩ (.seq (.region 3 [
    ⟨(some 9), .load 6 true (.t 1), none, []⟩,
    ⟨(some 10), .call (.c (.fn F_ref07_All [])) [(.t 9)], none, []⟩,
    ⟨(some 3), .mov (.t 10), none, []⟩] false)
  (.seq (.seq (.region 4 [
    ⟨(some 11), .mov (.t 3), none, []⟩,
    ⟨(some 12), .len .sl (.t 11), none, []⟩,
    ⟨(some 13), .bin .gtr (.t 12) (.c (.d (.int .i64 (64)))), none, []⟩] false)
  (.cond (.t 13)
    (.seq (.region 5 [
      ⟨(some 2), .mov (.c (.d (.int .i64 (3)))), none, []⟩] false)
    (.mask ⟨[2], []⟩ (.ret)))
    (.skip)))
  (.mask ⟨[3], []⟩ (.seq (.seq (.region 6 [
    ⟨(some 4), .mov (.c (.d (.int .i64 (0)))), none, []⟩] false)
  (.block 0 (.loop mask_ref07_Check_0 body_ref07_Check_0)))
  (.mask ⟨[], []⟩ (.seq (.region 12 [
    ⟨(some 2), .mov (.c (.d (.int .i64 (0)))), none, []⟩] false)
  (.mask ⟨[2], []⟩ (.ret))))))))))⟩
def mask_ref13_Of_0 : Mask := ⟨[1, 2, 5, 6, 7], [.slot 6 10000060 7, .cell 20110 6 22011060 1, .cell 20110 5 22011050 1]⟩
def body_ref13_Of_0 : ACode :=
  .seq (.seq (.region 4 [
    ⟨(some 19), .mov (.t 7), none, []⟩,
    ⟨(some 20), .faddr 5 (.t 2), none, []⟩,
    ⟨(some 21), .load 1 false (.t 20), none, []⟩,
    ⟨(some 22), .len .sl (.t 21), none, []⟩,
    ⟨(some 23), .bin .lss (.t 19) (.t 22), none, []⟩] false)
  (.cond (.t 23)
    (.skip)
    (.mask ⟨[5, 6], [.slot 6 10000060 7, .cell 20110 6 22011060 1, .cell 20110 5 22011050 1]⟩ (.exit 0))))
  (.mask ⟨[1, 2, 5, 6, 7], [.slot 6 10000060 7, .cell 20110 6 22011060 1, .cell 20110 5 22011050 1]⟩ (.seq (.block 1 (.seq (.seq (.region 6 [
    ⟨(some 26), .faddr 0 (.t 2), none, []⟩,
    ⟨(some 27), .load 1 false (.t 26), none, []⟩,
    ⟨(some 28), .bin .eql (.t 27) (.c (.d (.int .i64 (4)))), none, []⟩] false)
  (.cond (.t 28)
    (.seq (.region 7 [
      ⟨(some 29), .faddr 5 (.t 5), none, []⟩,
      ⟨(some 30), .load 1 false (.t 29), none, [0]⟩,
      ⟨(some 31), .faddr 5 (.t 2), none, []⟩,
      ⟨(some 32), .load 1 false (.t 31), none, [2]⟩,
      ⟨(some 33), .mov (.t 7), none, []⟩,
      ⟨(some 34), .iaddr 6 (.t 32) (.t 33), none, [2, 3, 4]⟩,
      ⟨(some 35), .faddr 1 (.t 34), none, [2, 3, 4, 5]⟩,
      ⟨(some 36), .load 1 false (.t 35), none, [2, 3, 4, 5, 6]⟩,
      ⟨(some 37), .buildSl 1 [(.str [])] 1 [(0, (.t 36))], none, [2, 3, 4, 5, 6, 7]⟩,
      ⟨(some 38), .append 1 (.t 30) (.t 37), none, [0, 1, 2, 3, 4, 5, 6, 7, 8]⟩,
      ⟨(some 39), .faddr 5 (.t 5), none, [0, 1, 2, 3, 4, 5, 6, 7, 8, 9]⟩,
      ⟨none, .store 1 (.t 39) (.t 38), none, [0, 1, 2, 3, 4, 5, 6, 7, 8, 9, 10]⟩] true)
    (.mask ⟨[1, 2, 5, 6, 7], [.slot 6 10000060 7, .cell 20110 6 22011060 1, .cell 20110 5 22011050 1]⟩ (.exit 1)))
    (.skip)))
  (.mask ⟨[1, 2, 5, 6, 7], [.slot 6 10000060 7, .cell 20110 6 22011060 1, .cell 20110 5 22011050 1]⟩ (.seq (.region 8 [
    ⟨(some 40), .mov (.t 6), none, []⟩,
    ⟨(some 41), .faddr 5 (.t 2), none, []⟩,
    ⟨(some 42), .load 1 false (.t 41), none, []⟩,
    ⟨(some 43), .mov (.t 7), none, []⟩,
    ⟨(some 44), .iaddr 6 (.t 42) (.t 43), none, []⟩,
    ⟨(some 45), .load 6 true (.t 44), none, []⟩,
    ⟨(some 46), .mov (.t 1), none, []⟩,
    ⟨(some 47), .mov (.t 6), none, []⟩,
    ⟨(some 48), .len .sl (.t 47), none, []⟩,
    ⟨(some 49), .bin .add (.t 46) (.t 48), none, []⟩,
    ⟨(some 50), .call (.c (.fn F_ref13_Of [])) [(.t 45), (.t 49)], none, []⟩,
    ⟨(some 51), .append 7 (.t 40) (.t 50), none, []⟩,
    ⟨(some 6), .mov (.t 51), none, []⟩] false)
  (.region 9 [
    ⟨(some 52), .faddr 6 (.t 5), none, []⟩,
    ⟨(some 53), .load 1 false (.t 52), none, []⟩,
    ⟨(some 54), .mov (.t 1), none, []⟩,
    ⟨(some 55), .mov (.t 6), none, []⟩,
    ⟨(some 56), .len .sl (.t 55), none, []⟩,
    ⟨(some 57), .bin .add (.t 54) (.t 56), none, []⟩,
    ⟨(some 58), .bin .sub (.t 57) (.c (.d (.int .i64 (1)))), none, []⟩,
    ⟨(some 59), .buildSl 1 [(.int .i64 (0))] 1 [(0, (.t 58))], none, []⟩,
    ⟨(some 60), .append 1 (.t 53) (.t 59), none, []⟩,
    ⟨(some 61), .faddr 6 (.t 5), none, []⟩,
    ⟨none, .store 1 (.t 61) (.t 60), none, []⟩] false)))))
  (.mask ⟨[1, 2, 5, 6, 7], [.slot 6 10000060 7, .cell 20110 6 22011060 1, .cell 20110 5 22011050 1]⟩ (.region 5 [
    ⟨(some 24), .mov (.t 7), none, []⟩,
    ⟨(some 25), .bin .add (.t 24) (.c (.d (.int .i64 (1)))), none, []⟩,
    ⟨(some 7), .mov (.t 25), none, []⟩] false))))
/-- beadle/beadleref13.Of -/
def code_ref13_Of : AFunc := ⟨67, [.tmp 4],
  .seq (.region 0 [
    ⟨(some 2), .box 6 (.t 0), none, []⟩,
    ⟨(some 4), .mov (.c (.d (.vs true []))), none, []⟩] false)
  (.seq (.region 1 [
    ⟨(some 8), .faddr 0 (.t 2), none, []⟩,
    ⟨(some 9), .load 1 false (.t 8), none, []⟩,
    ⟨(some 10), .faddr 1 (.t 2), none, []⟩,
    ⟨(some 11), .load 1 false (.t 10), none, []⟩,
    ⟨(some 12), .faddr 2 (.t 2), none, []⟩,
    ⟨(some 13), .load 1 false (.t 12), none, []⟩,
    ⟨(some 14), .faddr 3 (.t 2), none, []⟩,
    ⟨(some 15), .load 1 false (.t 14), none, []⟩,
    ⟨(some 16), .faddr 4 (.t 2), none, []⟩,
    ⟨(some 17), .load 1 false (.t 16), none, []⟩,
    ⟨(some 18), .build [(.d (.int .i64 (0))), (.d (.str [])), (.d (.int .i64 (0))), (.d (.int .i64 (0))), (.d (.int .i64 (0))), (.d (.vs true [])), (.d (.vs true []))] [(0, 1, (.t 9)), (1, 1, (.t 11)), (2, 1, (.t 13)), (3, 1, (.t 15)), (4, 1, (.t 17))], none, []⟩,
    ⟨(some 5), .box 7 (.c (.agg [(.d (.int .i64 (0))), (.d (.str [])), (.d (.int .i64 (0))), (.d (.int .i64 (0))), (.d (.int .i64 (0))), (.d (.vs true [])), (.d (.vs true []))])), none, []⟩,
    ⟨none, .store 7 (.t 5) (.t 18), none, []⟩] false)
  (.seq (.region 2 [
    ⟨(some 6), .mov (.c (.d (.vs true []))), none, []⟩] false)
  (.seq (.seq (.region 3 [
    ⟨(some 7), .mov (.c (.d (.int .i64 (0)))), none, []⟩] false)
  (.block 0 (.loop mask_ref13_Of_0 body_ref13_Of_0)))
  (.mask ⟨[5, 6], [.slot 6 10000060 7, .cell 20110 6 22011060 1, .cell 20110 5 22011050 1]⟩ (.seq (.region 10 [
    ⟨(some 62), .mov (.t 6), none, []⟩,
    ⟨(some 63), .load 7 true (.t 5), none, []⟩,
    ⟨(some 64), .buildSl 7 [(.int .i64 (0)), (.str []), (.int .i64 (0)), (.int .i64 (0)), (.int .i64 (0)), (.vs false []), (.vs false [])] 1 [(0, (.t 63))], none, []⟩,
    ⟨(some 65), .append 7 (.t 62) (.t 64), none, []⟩,
    ⟨(some 6), .mov (.t 65), none, []⟩] false)
  (.seq (.region 11 [
    ⟨(some 66), .mov (.t 6), none, []⟩,
    ⟨(some 4), .mov (.t 66), none, []⟩] false)
  (.mask ⟨[4], [.slot 4 10000040 7, .cell 20110 6 22011060 1, .cell 20110 5 22011050 1]⟩ (.ret))))))))⟩
def mask_ref13_Read_0 : Mask := ⟨[4, 5, 6, 7], [.slot 6 10000060 7]⟩
def body_ref13_Read_0 : ACode :=
  .seq (.seq (.region 6 [
    ⟨(some 18), .mov (.t 7), none, []⟩,
    ⟨(some 19), .mov (.t 5), none, []⟩,
    ⟨(some 20), .bin .lss (.t 18) (.t 19), none, []⟩,
    ⟨(some 21), .mov (.t 20), none, []⟩,
    ⟨(some 22), .faddr 2 (.t 4), (some (21, true)), []⟩,
    ⟨(some 23), .load 1 false (.t 22), (some (21, true)), []⟩,
    ⟨(some 24), .un .not (.t 23), (some (21, true)), []⟩,
    ⟨(some 25), .pick (.t 21) (.t 24) (.c (.d (.bool false))), none, []⟩] false)
  (.mask ⟨[4, 5, 6, 7, 25], [.slot 6 10000060 7]⟩ (.cond (.t 25)
    (.skip)
    (.mask ⟨[4, 6], [.slot 6 10000060 7]⟩ (.exit 0)))))
  (.mask ⟨[4, 5, 6, 7], [.slot 6 10000060 7]⟩ (.seq (.block 1 (.seq (.region 8 [
    ⟨(some 8), .box 7 (.c (.agg [(.d (.int .i64 (0))), (.d (.str [])), (.d (.int .i64 (0))), (.d (.int .i64 (0))), (.d (.int .i64 (0))), (.d (.vs true [])), (.d (.vs true []))])), none, []⟩] false)
  (.seq (.region 9 [
    ⟨(some 29), .load 3 true (.t 4), none, []⟩,
    ⟨(some 30), .call (.c (.fn F_ref13_row [])) [(.t 29)], none, []⟩,
    ⟨(some 28), .mov (.t 30), none, []⟩,
    ⟨(some 31), .extract (.t 28) 0, none, []⟩,
    ⟨(some 32), .extract (.t 28) 1, none, []⟩,
    ⟨none, .store 7 (.t 8) (.t 31), none, []⟩,
    ⟨none, .store 3 (.t 4) (.t 32), none, []⟩] false)
  (.region 10 [
    ⟨(some 33), .mov (.t 6), none, []⟩,
    ⟨(some 34), .load 7 true (.t 8), none, []⟩,
    ⟨(some 35), .buildSl 7 [(.int .i64 (0)), (.str []), (.int .i64 (0)), (.int .i64 (0)), (.int .i64 (0)), (.vs false []), (.vs false [])] 1 [(0, (.t 34))], none, []⟩,
    ⟨(some 36), .append 7 (.t 33) (.t 35), none, []⟩,
    ⟨(some 6), .mov (.t 36), none, []⟩] false))))
  (.mask ⟨[4, 5, 6, 7], [.slot 6 10000060 7]⟩ (.region 7 [
    ⟨(some 26), .mov (.t 7), none, []⟩,
    ⟨(some 27), .bin .add (.t 26) (.c (.d (.int .i64 (1)))), none, []⟩,
    ⟨(some 7), .mov (.t 27), none, []⟩] false))))
/-- beadle/beadleref13.Read -/
def code_ref13_Read : AFunc := ⟨52, [.tmp 2, .tmp 3],
  .seq (.region 0 [
    ⟨(some 2), .mov (.c (.d (.vs true []))), none, []⟩,
    ⟨(some 3), .mov (.c (.d (.bool false))), none, []⟩] false)
  (.seq (.region 1 [
    ⟨(some 11), .mov (.t 0), none, []⟩,
    ⟨(some 12), .build [(.d (.vs true [])), (.d (.int .i64 (0))), (.d (.bool false))] [(0, 1, (.t 11))], none, []⟩,
    ⟨(some 4), .box 3 (.c (.agg [(.d (.vs true [])), (.d (.int .i64 (0))), (.d (.bool false))])), none, []⟩,
    ⟨none, .store 3 (.t 4) (.t 12), none, []⟩] false)
  (.seq (.region 2 [
    ⟨(some 5), .mov (.c (.d (.int .i64 (0)))), none, []⟩] false)
  (.seq (.region 3 [
    ⟨(some 14), .load 3 true (.t 4), none, []⟩,
    ⟨(some 15), .call (.c (.fn F_ref04_Byte [])) [(.t 14)], none, []⟩,
    ⟨(some 13), .mov (.t 15), none, []⟩,
    ⟨(some 16), .extract (.t 13) 0, none, []⟩,
    ⟨(some 17), .extract (.t 13) 1, none, []⟩,
    ⟨(some 5), .mov (.t 16), none, []⟩,
    ⟨none, .store 3 (.t 4) (.t 17), none, []⟩] false)
  (.seq (.region 4 [
    ⟨(some 6), .mov (.c (.d (.vs true []))), none, []⟩] false)
  (.seq (.seq (.region 5 [
    ⟨(some 7), .mov (.c (.d (.int .i64 (0)))), none, []⟩] false)
  (.block 0 (.loop mask_ref13_Read_0 body_ref13_Read_0)))
  (.mask ⟨[4, 6], [.slot 6 10000060 7]⟩ (.seq (.seq (.region 11 [
    ⟨(some 37), .faddr 2 (.t 4), none, []⟩,
    ⟨(some 38), .load 1 false (.t 37), none, []⟩,
    ⟨(some 39), .mov (.t 38), none, []⟩,
    ⟨(some 40), .load 3 true (.t 4), (some (39, false)), []⟩,
    ⟨(some 41), .call (.c (.fn F_ref04_Left [])) [(.t 40)], (some (39, false)), []⟩,
    ⟨(some 42), .bin .gtr (.t 41) (.c (.d (.int .i64 (0)))), (some (39, false)), []⟩,
    ⟨(some 43), .pick (.t 39) (.c (.d (.bool true))) (.t 42), none, []⟩] false)
  (.mask ⟨[6, 43], [.slot 6 10000060 7]⟩ (.cond (.t 43)
    (.seq (.region 12 [
      ⟨(some 2), .mov (.c (.d (.vs true []))), none, []⟩,
      ⟨(some 3), .mov (.c (.d (.bool false))), none, []⟩] false)
    (.mask ⟨[2, 3], [.slot 2 10000020 7]⟩ (.ret)))
    (.skip))))
  (.mask ⟨[6], [.slot 6 10000060 7]⟩ (.seq (.region 13 [
    ⟨(some 45), .mov (.t 6), none, []⟩,
    ⟨(some 46), .call (.c (.fn F_ref13_Back [])) [(.t 45)], none, []⟩,
    ⟨(some 44), .mov (.t 46), none, []⟩,
    ⟨(some 47), .extract (.t 44) 0, none, []⟩,
    ⟨(some 48), .extract (.t 44) 1, none, []⟩,
    ⟨(some 9), .box 6 (.c (.agg [(.d (.int .i64 (0))), (.d (.str [])), (.d (.int .i64 (0))), (.d (.int .i64 (0))), (.d (.int .i64 (0))), (.d (.vs true []))])), none, []⟩,
    ⟨none, .store 6 (.t 9) (.t 47), none, []⟩,
    ⟨(some 10), .mov (.t 48), none, []⟩] false)
  (.seq (.seq (.region 14 [
    ⟨(some 49), .mov (.t 10), none, []⟩,
    ⟨(some 50), .un .not (.t 49), none, []⟩] false)
  (.cond (.t 50)
    (.seq (.region 15 [
      ⟨(some 2), .mov (.c (.d (.vs true []))), none, []⟩,
      ⟨(some 3), .mov (.c (.d (.bool false))), none, []⟩] false)
    (.mask ⟨[2, 3], [.slot 2 10000020 7]⟩ (.ret)))
    (.skip)))
  (.mask ⟨[6], [.slot 6 10000060 7]⟩ (.seq (.region 16 [
    ⟨(some 51), .mov (.t 6), none, []⟩,
    ⟨(some 2), .mov (.t 51), none, []⟩,
    ⟨(some 3), .mov (.c (.d (.bool true))), none, []⟩] false)
  (.mask ⟨[2, 3], [.slot 2 10000020 7]⟩ (.ret))))))))))))))⟩
def mask_pack_Read_0 : Mask := ⟨[4, 5, 9, 10], [.slot 5 10000050 7]⟩
def body_pack_Read_0 : ACode :=
  .seq (.region 4 [
    ⟨(some 11), .bin .lss (.t 10) (.t 9), none, []⟩] false)
  (.seq (.cond (.t 11)
    (.skip)
    (.mask ⟨[4, 5], [.slot 5 10000050 7]⟩ (.exit 0)))
  (.mask ⟨[4, 5, 9, 10], [.slot 5 10000050 7]⟩ (.seq (.block 1 (.region 5 [
    ⟨(some 12), .mov (.t 5), none, []⟩,
    ⟨(some 13), .mov (.t 4), none, []⟩,
    ⟨(some 14), .call (.c (.fn F_pack_get [])) [(.t 13)], none, []⟩,
    ⟨(some 15), .buildSl 7 [(.int .i64 (0)), (.str []), (.int .i64 (0)), (.int .i64 (0)), (.int .i64 (0)), (.vs false []), (.vs false [])] 1 [(0, (.t 14))], none, []⟩,
    ⟨(some 16), .append 7 (.t 12) (.t 15), none, []⟩,
    ⟨(some 5), .mov (.t 16), none, []⟩] false))
  (.mask ⟨[4, 5, 9, 10], [.slot 5 10000050 7]⟩ (.region 6 [
    ⟨(some 17), .bin .add (.t 10) (.c (.d (.int .i64 (1)))), none, []⟩,
    ⟨(some 10), .mov (.t 17), none, []⟩] false)))))
/-- beadle/pack.Read -/
def code_pack_Read : AFunc := ⟨32, [.tmp 2, .tmp 3],
  .seq (.region 0 [
    ⟨(some 2), .mov (.c (.d (.vs true []))), none, []⟩,
    ⟨(some 3), .mov (.c (.d (.int .i64 (0)))), none, []⟩] false)
  (.seq (.region 1 [
    ⟨(some 6), .mov (.t 0), none, []⟩,
    ⟨(some 7), .call (.c (.fn F_octet_Open [])) [(.t 6)], none, []⟩,
    ⟨(some 4), .mov (.t 7), none, []⟩] false)
  (.seq (.region 2 [
    ⟨(some 5), .mov (.c (.d (.vs true []))), none, []⟩] false)
  (.seq (.seq (.region 3 [
    ⟨(some 8), .mov (.t 4), none, []⟩,
    ⟨(some 9), .call (.c (.fn F_octet_In_Byte [])) [(.t 8)], none, []⟩,
    ⟨(some 10), .mov (.c (.d (.int .i64 (0)))), none, []⟩] false)
  (.block 0 (.loop mask_pack_Read_0 body_pack_Read_0)))
  (.mask ⟨[4, 5], [.slot 5 10000050 7]⟩ (.seq (.seq (.region 7 [
    ⟨(some 18), .mov (.t 4), none, []⟩,
    ⟨(some 19), .call (.c (.fn F_octet_In_Err [])) [(.t 18)], none, []⟩,
    ⟨(some 20), .bin .neq (.t 19) (.c (.d (.int .i64 (0)))), none, []⟩,
    ⟨(some 21), .mov (.t 20), none, []⟩,
    ⟨(some 22), .mov (.t 4), (some (21, false)), []⟩,
    ⟨(some 23), .call (.c (.fn F_octet_In_Left [])) [(.t 22)], (some (21, false)), []⟩,
    ⟨(some 24), .bin .gtr (.t 23) (.c (.d (.int .i64 (0)))), (some (21, false)), []⟩,
    ⟨(some 25), .pick (.t 21) (.c (.d (.bool true))) (.t 24), none, []⟩,
    ⟨(some 26), .mov (.t 25), none, []⟩,
    ⟨(some 27), .mov (.t 5), (some (26, false)), []⟩,
    ⟨(some 28), .call (.c (.fn F_table_Check [])) [(.t 27)], (some (26, false)), []⟩,
    ⟨(some 29), .bin .neq (.t 28) (.c (.d (.int .i64 (0)))), (some (26, false)), []⟩,
    ⟨(some 30), .pick (.t 26) (.c (.d (.bool true))) (.t 29), none, []⟩] false)
  (.mask ⟨[5, 30], [.slot 5 10000050 7]⟩ (.cond (.t 30)
    (.seq (.region 8 [
      ⟨(some 2), .mov (.c (.d (.vs true []))), none, []⟩,
      ⟨(some 3), .mov (.c (.d (.int .i64 (16)))), none, []⟩] false)
    (.mask ⟨[2, 3], [.slot 2 10000020 7]⟩ (.ret)))
    (.skip))))
  (.mask ⟨[5], [.slot 5 10000050 7]⟩ (.seq (.region 9 [
    ⟨(some 31), .mov (.t 5), none, []⟩,
    ⟨(some 2), .mov (.t 31), none, []⟩,
    ⟨(some 3), .mov (.c (.d (.int .i64 (0)))), none, []⟩] false)
  (.mask ⟨[2, 3], [.slot 2 10000020 7]⟩ (.ret)))))))))⟩
/-- beadle/pack.Back -/
def code_pack_Back : AFunc := ⟨19, [.cell 2 6 true, .tmp 3],
  .seq (.region 0 [
    ⟨(some 2), .box 6 (.c (.agg [(.d (.int .i64 (0))), (.d (.str [])), (.d (.int .i64 (0))), (.d (.int .i64 (0))), (.d (.int .i64 (0))), (.d (.vs true []))])), none, []⟩,
    ⟨(some 3), .mov (.c (.d (.int .i64 (0)))), none, []⟩] false)
  (.seq (.region 1 [
    ⟨(some 7), .mov (.t 0), none, []⟩,
    ⟨(some 8), .call (.c (.fn F_pack_Read [])) [(.t 7)], none, []⟩,
    ⟨(some 6), .mov (.t 8), none, []⟩,
    ⟨(some 9), .extract (.t 6) 0, none, []⟩,
    ⟨(some 10), .extract (.t 6) 1, none, []⟩,
    ⟨(some 4), .mov (.t 9), none, []⟩,
    ⟨(some 5), .mov (.t 10), none, []⟩] false)
  (.seq (.seq (.region 2 [
    ⟨(some 11), .mov (.t 5), none, []⟩,
    ⟨(some 12), .bin .neq (.t 11) (.c (.d (.int .i64 (0)))), none, []⟩] false)
  (.cond (.t 12)
    (.seq (.region 3 [
      ⟨(some 13), .build [(.d (.int .i64 (0))), (.d (.str [])), (.d (.int .i64 (0))), (.d (.int .i64 (0))), (.d (.int .i64 (0))), (.d (.vs true []))] [], none, []⟩,
      ⟨(some 14), .mov (.t 5), none, []⟩,
      ⟨none, .store 6 (.t 2) (.t 13), none, []⟩,
      ⟨(some 3), .mov (.t 14), none, []⟩] false)
    (.mask ⟨[2, 3], []⟩ (.ret)))
    (.skip)))
  (.mask ⟨[2, 4], []⟩ (.seq (.region 4 [
    ⟨(some 15), .mov (.t 4), none, []⟩,
    ⟨(some 16), .call (.c (.fn F_table_Back [])) [(.t 15)], none, []⟩,
    ⟨(some 17), .extract (.t 16) 0, none, []⟩,
    ⟨(some 18), .extract (.t 16) 1, none, []⟩,
    ⟨none, .store 6 (.t 2) (.t 17), none, []⟩,
    ⟨(some 3), .mov (.t 18), none, []⟩] false)
  (.mask ⟨[2, 3], []⟩ (.ret))))))⟩
def mask_plain_Expr_0 : Mask := ⟨[2, 3, 5], []⟩
def body_plain_Expr_0 : ACode :=
  .seq (.seq (.region 4 [
    ⟨(some 48), .mov (.t 5), none, []⟩,
    ⟨(some 49), .faddr 5 (.t 2), none, []⟩,
    ⟨(some 50), .load 1 false (.t 49), none, []⟩,
    ⟨(some 51), .len .sl (.t 50), none, []⟩,
    ⟨(some 52), .bin .lss (.t 48) (.t 51), none, []⟩] false)
  (.cond (.t 52)
    (.skip)
    (.mask ⟨[], []⟩ (.exit 0))))
  (.mask ⟨[2, 3, 5], []⟩ (.seq (.block 1 (.seq (.region 6 [
    ⟨(some 55), .faddr 5 (.t 2), none, []⟩,
    ⟨(some 56), .load 1 false (.t 55), none, [0]⟩,
    ⟨(some 57), .mov (.t 5), none, []⟩,
    ⟨(some 58), .iaddr 6 (.t 56) (.t 57), none, [0, 1, 2]⟩,
    ⟨(some 59), .load 6 true (.t 58), none, [0, 1, 2, 3]⟩,
    ⟨(some 60), .faddr 5 (.t 3), none, []⟩,
    ⟨(some 61), .load 1 false (.t 60), none, [5]⟩,
    ⟨(some 62), .mov (.t 5), none, []⟩,
    ⟨(some 63), .iaddr 6 (.t 61) (.t 62), none, [5, 6, 7]⟩,
    ⟨(some 64), .load 6 true (.t 63), none, [5, 6, 7, 8]⟩,
    ⟨(some 65), .call (.c (.fn F_plain_Expr [])) [(.t 59), (.t 64)], none, [0, 1, 2, 3, 4, 5, 6, 7, 8, 9]⟩,
    ⟨(some 66), .un .not (.t 65), none, [0, 1, 2, 3, 4, 5, 6, 7, 8, 9, 10]⟩] true)
  (.cond (.t 66)
    (.seq (.region 7 [
      ⟨(some 4), .mov (.c (.d (.bool false))), none, []⟩] false)
    (.mask ⟨[4], []⟩ (.ret)))
    (.skip))))
  (.mask ⟨[2, 3, 5], []⟩ (.region 5 [
    ⟨(some 53), .mov (.t 5), none, []⟩,
    ⟨(some 54), .bin .add (.t 53) (.c (.d (.int .i64 (1)))), none, []⟩,
    ⟨(some 5), .mov (.t 54), none, []⟩] false))))
/-- beadle/beadleplain.Expr -/
def code_plain_Expr : AFunc := ⟨67, [.tmp 4],
  .seq (.region 0 [
    ⟨(some 2), .box 6 (.t 0), none, []⟩,
    ⟨(some 3), .box 6 (.t 1), none, []⟩,
    ⟨(some 4), .mov (.c (.d (.bool false))), none, []⟩] false)
  (.seq (.seq (.region 1 [
    ⟨(some 6), .faddr 0 (.t 2), none, []⟩,
    ⟨(some 7), .load 1 false (.t 6), none, []⟩,
    ⟨(some 8), .faddr 0 (.t 3), none, []⟩,
    ⟨(some 9), .load 1 false (.t 8), none, []⟩,
    ⟨(some 10), .bin .neq (.t 7) (.t 9), none, []⟩,
    ⟨(some 11), .mov (.t 10), none, []⟩,
    ⟨(some 12), .faddr 1 (.t 2), (some (11, false)), []⟩,
    ⟨(some 13), .load 1 false (.t 12), (some (11, false)), []⟩,
    ⟨(some 14), .faddr 1 (.t 3), (some (11, false)), []⟩,
    ⟨(some 15), .load 1 false (.t 14), (some (11, false)), []⟩,
    ⟨(some 16), .bin .neq (.t 13) (.t 15), (some (11, false)), []⟩,
    ⟨(some 17), .pick (.t 11) (.c (.d (.bool true))) (.t 16), none, []⟩,
    ⟨(some 18), .mov (.t 17), none, []⟩,
    ⟨(some 19), .faddr 2 (.t 2), (some (18, false)), []⟩,
    ⟨(some 20), .load 1 false (.t 19), (some (18, false)), []⟩,
    ⟨(some 21), .faddr 2 (.t 3), (some (18, false)), []⟩,
    ⟨(some 22), .load 1 false (.t 21), (some (18, false)), []⟩,
    ⟨(some 23), .bin .neq (.t 20) (.t 22), (some (18, false)), []⟩,
    ⟨(some 24), .pick (.t 18) (.c (.d (.bool true))) (.t 23), none, []⟩,
    ⟨(some 25), .mov (.t 24), none, []⟩,
    ⟨(some 26), .faddr 3 (.t 2), (some (25, false)), []⟩,
    ⟨(some 27), .load 1 false (.t 26), (some (25, false)), []⟩,
    ⟨(some 28), .faddr 3 (.t 3), (some (25, false)), []⟩,
    ⟨(some 29), .load 1 false (.t 28), (some (25, false)), []⟩,
    ⟨(some 30), .bin .neq (.t 27) (.t 29), (some (25, false)), []⟩,
    ⟨(some 31), .pick (.t 25) (.c (.d (.bool true))) (.t 30), none, []⟩,
    ⟨(some 32), .mov (.t 31), none, []⟩,
    ⟨(some 33), .faddr 4 (.t 2), (some (32, false)), []⟩,
    ⟨(some 34), .load 1 false (.t 33), (some (32, false)), []⟩,
    ⟨(some 35), .faddr 4 (.t 3), (some (32, false)), []⟩,
    ⟨(some 36), .load 1 false (.t 35), (some (32, false)), []⟩,
    ⟨(some 37), .bin .neq (.t 34) (.t 36), (some (32, false)), []⟩,
    ⟨(some 38), .pick (.t 32) (.c (.d (.bool true))) (.t 37), none, []⟩,
    ⟨(some 39), .mov (.t 38), none, []⟩,
    ⟨(some 40), .faddr 5 (.t 2), (some (39, false)), []⟩,
    ⟨(some 41), .load 1 false (.t 40), (some (39, false)), []⟩,
    ⟨(some 42), .len .sl (.t 41), (some (39, false)), []⟩,
    ⟨(some 43), .faddr 5 (.t 3), (some (39, false)), []⟩,
    ⟨(some 44), .load 1 false (.t 43), (some (39, false)), []⟩,
    ⟨(some 45), .len .sl (.t 44), (some (39, false)), []⟩,
    ⟨(some 46), .bin .neq (.t 42) (.t 45), (some (39, false)), []⟩,
    ⟨(some 47), .pick (.t 39) (.c (.d (.bool true))) (.t 46), none, []⟩] false)
  (.mask ⟨[2, 3, 47], []⟩ (.cond (.t 47)
    (.seq (.region 2 [
      ⟨(some 4), .mov (.c (.d (.bool false))), none, []⟩] false)
    (.mask ⟨[4], []⟩ (.ret)))
    (.skip))))
  (.mask ⟨[2, 3], []⟩ (.seq (.seq (.region 3 [
    ⟨(some 5), .mov (.c (.d (.int .i64 (0)))), none, []⟩] false)
  (.block 0 (.loop mask_plain_Expr_0 body_plain_Expr_0)))
  (.mask ⟨[], []⟩ (.seq (.region 8 [
    ⟨(some 4), .mov (.c (.d (.bool true))), none, []⟩] false)
  (.mask ⟨[4], []⟩ (.ret)))))))⟩
def mask_ref13_Same_0 : Mask := ⟨[0, 1, 5, 6, 7, 8], []⟩
def body_ref13_Same_0 : ACode :=
  .seq (.seq (.region 10 [
    ⟨(some 80), .mov (.t 8), none, []⟩,
    ⟨(some 81), .faddr 5 (.t 6), none, []⟩,
    ⟨(some 82), .load 1 false (.t 81), none, []⟩,
    ⟨(some 83), .len .sl (.t 82), none, []⟩,
    ⟨(some 84), .bin .lss (.t 80) (.t 83), none, []⟩] false)
  (.cond (.t 84)
    (.skip)
    (.mask ⟨[0, 1, 5, 6, 7], []⟩ (.exit 2))))
  (.mask ⟨[0, 1, 5, 6, 7, 8], []⟩ (.seq (.block 3 (.seq (.region 12 [
    ⟨(some 87), .faddr 5 (.t 6), none, []⟩,
    ⟨(some 88), .load 1 false (.t 87), none, [0]⟩,
    ⟨(some 89), .mov (.t 8), none, []⟩,
    ⟨(some 90), .iaddr 1 (.t 88) (.t 89), none, [0, 1, 2]⟩,
    ⟨(some 91), .load 1 false (.t 90), none, [0, 1, 2, 3]⟩,
    ⟨(some 92), .faddr 5 (.t 7), none, []⟩,
    ⟨(some 93), .load 1 false (.t 92), none, [5]⟩,
    ⟨(some 94), .mov (.t 8), none, []⟩,
    ⟨(some 95), .iaddr 1 (.t 93) (.t 94), none, [5, 6, 7]⟩,
    ⟨(some 96), .load 1 false (.t 95), none, [5, 6, 7, 8]⟩,
    ⟨(some 97), .bin .neq (.t 91) (.t 96), none, [0, 1, 2, 3, 4, 5, 6, 7, 8, 9]⟩] true)
  (.cond (.t 97)
    (.seq (.region 13 [
      ⟨(some 4), .mov (.c (.d (.bool false))), none, []⟩] false)
    (.mask ⟨[4], []⟩ (.ret)))
    (.skip))))
  (.mask ⟨[0, 1, 5, 6, 7, 8], []⟩ (.region 11 [
    ⟨(some 85), .mov (.t 8), none, []⟩,
    ⟨(some 86), .bin .add (.t 85) (.c (.d (.int .i64 (1)))), none, []⟩,
    ⟨(some 8), .mov (.t 86), none, []⟩] false))))
def mask_ref13_Same_1 : Mask := ⟨[0, 1, 5, 6, 7, 9], []⟩
def body_ref13_Same_1 : ACode :=
  .seq (.seq (.region 15 [
    ⟨(some 98), .mov (.t 9), none, []⟩,
    ⟨(some 99), .faddr 6 (.t 6), none, []⟩,
    ⟨(some 100), .load 1 false (.t 99), none, []⟩,
    ⟨(some 101), .len .sl (.t 100), none, []⟩,
    ⟨(some 102), .bin .lss (.t 98) (.t 101), none, []⟩] false)
  (.cond (.t 102)
    (.skip)
    (.mask ⟨[0, 1, 5], []⟩ (.exit 4))))
  (.mask ⟨[0, 1, 5, 6, 7, 9], []⟩ (.seq (.block 5 (.seq (.region 17 [
    ⟨(some 105), .faddr 6 (.t 6), none, []⟩,
    ⟨(some 106), .load 1 false (.t 105), none, [0]⟩,
    ⟨(some 107), .mov (.t 9), none, []⟩,
    ⟨(some 108), .iaddr 1 (.t 106) (.t 107), none, [0, 1, 2]⟩,
    ⟨(some 109), .load 1 false (.t 108), none, [0, 1, 2, 3]⟩,
    ⟨(some 110), .faddr 6 (.t 7), none, []⟩,
    ⟨(some 111), .load 1 false (.t 110), none, [5]⟩,
    ⟨(some 112), .mov (.t 9), none, []⟩,
    ⟨(some 113), .iaddr 1 (.t 111) (.t 112), none, [5, 6, 7]⟩,
    ⟨(some 114), .load 1 false (.t 113), none, [5, 6, 7, 8]⟩,
    ⟨(some 115), .bin .neq (.t 109) (.t 114), none, [0, 1, 2, 3, 4, 5, 6, 7, 8, 9]⟩] true)
  (.cond (.t 115)
    (.seq (.region 18 [
      ⟨(some 4), .mov (.c (.d (.bool false))), none, []⟩] false)
    (.mask ⟨[4], []⟩ (.ret)))
    (.skip))))
  (.mask ⟨[0, 1, 5, 6, 7, 9], []⟩ (.region 16 [
    ⟨(some 103), .mov (.t 9), none, []⟩,
    ⟨(some 104), .bin .add (.t 103) (.c (.d (.int .i64 (1)))), none, []⟩,
    ⟨(some 9), .mov (.t 104), none, []⟩] false))))
def mask_ref13_Same_2 : Mask := ⟨[0, 1, 5], []⟩
def body_ref13_Same_2 : ACode :=
  .seq (.seq (.region 4 [
    ⟨(some 15), .mov (.t 5), none, []⟩,
    ⟨(some 16), .mov (.t 0), none, []⟩,
    ⟨(some 17), .len .sl (.t 16), none, []⟩,
    ⟨(some 18), .bin .lss (.t 15) (.t 17), none, []⟩] false)
  (.cond (.t 18)
    (.skip)
    (.mask ⟨[], []⟩ (.exit 0))))
  (.mask ⟨[0, 1, 5], []⟩ (.seq (.block 1 (.seq (.region 6 [
    ⟨(some 21), .mov (.t 0), none, []⟩,
    ⟨(some 22), .mov (.t 5), none, []⟩,
    ⟨(some 23), .iaddr 7 (.t 21) (.t 22), none, [0, 1]⟩,
    ⟨(some 24), .load 7 true (.t 23), none, [0, 1, 2]⟩,
    ⟨(some 25), .mov (.t 1), none, []⟩,
    ⟨(some 26), .mov (.t 5), none, []⟩,
    ⟨(some 27), .iaddr 7 (.t 25) (.t 26), none, [4, 5]⟩,
    ⟨(some 28), .load 7 true (.t 27), none, [4, 5, 6]⟩,
    ⟨(some 6), .box 7 (.c (.agg [(.d (.int .i64 (0))), (.d (.str [])), (.d (.int .i64 (0))), (.d (.int .i64 (0))), (.d (.int .i64 (0))), (.d (.vs true [])), (.d (.vs true []))])), none, []⟩,
    ⟨(some 7), .box 7 (.c (.agg [(.d (.int .i64 (0))), (.d (.str [])), (.d (.int .i64 (0))), (.d (.int .i64 (0))), (.d (.int .i64 (0))), (.d (.vs true [])), (.d (.vs true []))])), none, []⟩,
    ⟨none, .store 7 (.t 6) (.t 24), none, [0, 1, 2, 3, 8, 9]⟩,
    ⟨none, .store 7 (.t 7) (.t 28), none, [0, 1, 2, 3, 4, 5, 6, 7, 8, 9, 10]⟩] true)
  (.seq (.seq (.region 7 [
    ⟨(some 29), .faddr 0 (.t 6), none, []⟩,
    ⟨(some 30), .load 1 false (.t 29), none, []⟩,
    ⟨(some 31), .faddr 0 (.t 7), none, []⟩,
    ⟨(some 32), .load 1 false (.t 31), none, []⟩,
    ⟨(some 33), .bin .neq (.t 30) (.t 32), none, []⟩,
    ⟨(some 34), .mov (.t 33), none, []⟩,
    ⟨(some 35), .faddr 1 (.t 6), (some (34, false)), []⟩,
    ⟨(some 36), .load 1 false (.t 35), (some (34, false)), []⟩,
    ⟨(some 37), .faddr 1 (.t 7), (some (34, false)), []⟩,
    ⟨(some 38), .load 1 false (.t 37), (some (34, false)), []⟩,
    ⟨(some 39), .bin .neq (.t 36) (.t 38), (some (34, false)), []⟩,
    ⟨(some 40), .pick (.t 34) (.c (.d (.bool true))) (.t 39), none, []⟩,
    ⟨(some 41), .mov (.t 40), none, []⟩,
    ⟨(some 42), .faddr 2 (.t 6), (some (41, false)), []⟩,
    ⟨(some 43), .load 1 false (.t 42), (some (41, false)), []⟩,
    ⟨(some 44), .faddr 2 (.t 7), (some (41, false)), []⟩,
    ⟨(some 45), .load 1 false (.t 44), (some (41, false)), []⟩,
    ⟨(some 46), .bin .neq (.t 43) (.t 45), (some (41, false)), []⟩,
    ⟨(some 47), .pick (.t 41) (.c (.d (.bool true))) (.t 46), none, []⟩,
    ⟨(some 48), .mov (.t 47), none, []⟩,
    ⟨(some 49), .faddr 3 (.t 6), (some (48, false)), []⟩,
    ⟨(some 50), .load 1 false (.t 49), (some (48, false)), []⟩,
    ⟨(some 51), .faddr 3 (.t 7), (some (48, false)), []⟩,
    ⟨(some 52), .load 1 false (.t 51), (some (48, false)), []⟩,
    ⟨(some 53), .bin .neq (.t 50) (.t 52), (some (48, false)), []⟩,
    ⟨(some 54), .pick (.t 48) (.c (.d (.bool true))) (.t 53), none, []⟩,
    ⟨(some 55), .mov (.t 54), none, []⟩,
    ⟨(some 56), .faddr 4 (.t 6), (some (55, false)), []⟩,
    ⟨(some 57), .load 1 false (.t 56), (some (55, false)), []⟩,
    ⟨(some 58), .faddr 4 (.t 7), (some (55, false)), []⟩,
    ⟨(some 59), .load 1 false (.t 58), (some (55, false)), []⟩,
    ⟨(some 60), .bin .neq (.t 57) (.t 59), (some (55, false)), []⟩,
    ⟨(some 61), .pick (.t 55) (.c (.d (.bool true))) (.t 60), none, []⟩,
    ⟨(some 62), .mov (.t 61), none, []⟩,
    ⟨(some 63), .faddr 5 (.t 6), (some (62, false)), []⟩,
    ⟨(some 64), .load 1 false (.t 63), (some (62, false)), []⟩,
    ⟨(some 65), .len .sl (.t 64), (some (62, false)), []⟩,
    ⟨(some 66), .faddr 5 (.t 7), (some (62, false)), []⟩,
    ⟨(some 67), .load 1 false (.t 66), (some (62, false)), []⟩,
    ⟨(some 68), .len .sl (.t 67), (some (62, false)), []⟩,
    ⟨(some 69), .bin .neq (.t 65) (.t 68), (some (62, false)), []⟩,
    ⟨(some 70), .pick (.t 62) (.c (.d (.bool true))) (.t 69), none, []⟩,
    ⟨(some 71), .mov (.t 70), none, []⟩,
    ⟨(some 72), .faddr 6 (.t 6), (some (71, false)), []⟩,
    ⟨(some 73), .load 1 false (.t 72), (some (71, false)), []⟩,
    ⟨(some 74), .len .sl (.t 73), (some (71, false)), []⟩,
    ⟨(some 75), .faddr 6 (.t 7), (some (71, false)), []⟩,
    ⟨(some 76), .load 1 false (.t 75), (some (71, false)), []⟩,
    ⟨(some 77), .len .sl (.t 76), (some (71, false)), []⟩,
    ⟨(some 78), .bin .neq (.t 74) (.t 77), (some (71, false)), []⟩,
    ⟨(some 79), .pick (.t 71) (.c (.d (.bool true))) (.t 78), none, []⟩] false)
  (.mask ⟨[0, 1, 5, 6, 7, 79], []⟩ (.cond (.t 79)
    (.seq (.region 8 [
      ⟨(some 4), .mov (.c (.d (.bool false))), none, []⟩] false)
    (.mask ⟨[4], []⟩ (.ret)))
    (.skip))))
  (.mask ⟨[0, 1, 5, 6, 7], []⟩ (.seq (.seq (.region 9 [
    ⟨(some 8), .mov (.c (.d (.int .i64 (0)))), none, []⟩] false)
  (.block 2 (.loop mask_ref13_Same_0 body_ref13_Same_0)))
  (.mask ⟨[0, 1, 5, 6, 7], []⟩ (.seq (.region 14 [
    ⟨(some 9), .mov (.c (.d (.int .i64 (0)))), none, []⟩] false)
  (.block 4 (.loop mask_ref13_Same_1 body_ref13_Same_1)))))))))
  (.mask ⟨[0, 1, 5], []⟩ (.region 5 [
    ⟨(some 19), .mov (.t 5), none, []⟩,
    ⟨(some 20), .bin .add (.t 19) (.c (.d (.int .i64 (1)))), none, []⟩,
    ⟨(some 5), .mov (.t 20), none, []⟩] false))))
/-- beadle/beadleref13.Same -/
def code_ref13_Same : AFunc := ⟨116, [.tmp 4],
  .seq (.region 0 [
    ⟨(some 4), .mov (.c (.d (.bool false))), none, []⟩] false)
  (.seq (.seq (.region 1 [
    ⟨(some 10), .mov (.t 0), none, []⟩,
    ⟨(some 11), .len .sl (.t 10), none, []⟩,
    ⟨(some 12), .mov (.t 1), none, []⟩,
    ⟨(some 13), .len .sl (.t 12), none, []⟩,
    ⟨(some 14), .bin .neq (.t 11) (.t 13), none, []⟩] false)
  (.cond (.t 14)
    (.seq (.region 2 [
      ⟨(some 4), .mov (.c (.d (.bool false))), none, []⟩] false)
    (.mask ⟨[4], []⟩ (.ret)))
    (.skip)))
  (.mask ⟨[0, 1], []⟩ (.seq (.seq (.region 3 [
    ⟨(some 5), .mov (.c (.d (.int .i64 (0)))), none, []⟩] false)
  (.block 0 (.loop mask_ref13_Same_2 body_ref13_Same_2)))
  (.mask ⟨[], []⟩ (.seq (.region 19 [
    ⟨(some 4), .mov (.c (.d (.bool true))), none, []⟩] false)
  (.mask ⟨[4], []⟩ (.ret)))))))⟩
/-- beadle/table.Check -/
def code_table_Check : AFunc := ⟨11, [.tmp 2],
  .seq (.region 0 [
    ⟨(some 2), .mov (.c (.d (.int .i64 (0)))), none, []⟩] false)
  (.seq (.region 1 [
    ⟨(some 6), .mov (.t 0), none, []⟩,
    ⟨(some 7), .call (.c (.fn F_table_Back [])) [(.t 6)], none, []⟩,
    ⟨(some 5), .mov (.t 7), none, []⟩,
    ⟨(some 8), .extract (.t 5) 0, none, []⟩,
    ⟨(some 9), .extract (.t 5) 1, none, []⟩,
    ⟨(some 3), .box 6 (.c (.agg [(.d (.int .i64 (0))), (.d (.str [])), (.d (.int .i64 (0))), (.d (.int .i64 (0))), (.d (.int .i64 (0))), (.d (.vs true []))])), none, []⟩,
    ⟨none, .store 6 (.t 3) (.t 8), none, []⟩,
    ⟨(some 4), .mov (.t 9), none, []⟩] false)
  (.seq (.region 2 [
    ⟨(some 10), .mov (.t 4), none, []⟩,
    ⟨(some 2), .mov (.t 10), none, []⟩] false)
  (.mask ⟨[2], []⟩ (.ret))))⟩
/-- (*beadle/octet.Out).Byte -/
def code_octet_Out_Byte : AFunc := ⟨26, [],
  .seq (.region 0 [
    ⟨(some 4), .mov (.c (.d (.int .i64 (0)))), none, []⟩] false)
  (.seq (.seq (.region 1 [
    ⟨(some 5), .mov (.t 1), none, []⟩,
    ⟨(some 6), .bin .lss (.t 5) (.c (.d (.int .i64 (0)))), none, []⟩,
    ⟨(some 7), .mov (.t 6), none, []⟩,
    ⟨(some 8), .mov (.t 1), (some (7, false)), []⟩,
    ⟨(some 9), .bin .gtr (.t 8) (.c (.d (.int .i64 (255)))), (some (7, false)), []⟩,
    ⟨(some 10), .pick (.t 7) (.c (.d (.bool true))) (.t 9), none, []⟩] false)
  (.mask ⟨[0, 1, 4, 10], []⟩ (.cond (.t 10)
    (.region 2 [
      ⟨(some 4), .mov (.c (.d (.int .i64 (4)))), none, []⟩] false)
    (.skip))))
  (.mask ⟨[0, 1, 4], []⟩ (.seq (.region 3 [
    ⟨(some 11), .mov (.t 0), none, []⟩,
    ⟨(some 12), .mov (.t 4), none, []⟩,
    ⟨(some 13), .call (.c (.fn F_octet_Out_fail [])) [(.t 11), (.t 12)], none, []⟩,
    ⟨(some 14), .un .not (.t 13), none, []⟩] false)
  (.cond (.t 14)
    (.region 4 [
      ⟨(some 15), .mov (.t 0), none, []⟩,
      ⟨(some 16), .mov (.t 0), none, []⟩,
      ⟨(some 17), .nilchk (.t 16), none, []⟩,
      ⟨(some 18), .faddr 0 (.t 17), none, []⟩,
      ⟨(some 19), .load 1 false (.t 18), none, []⟩,
      ⟨(some 20), .mov (.t 1), none, []⟩,
      ⟨(some 21), .toInt .u8 (.t 20), none, []⟩,
      ⟨(some 22), .buildSl 1 [(.int .u8 (0))] 1 [(0, (.t 21))], none, []⟩,
      ⟨(some 23), .append 1 (.t 19) (.t 22), none, []⟩,
      ⟨(some 24), .nilchk (.t 15), none, []⟩,
      ⟨(some 25), .faddr 0 (.t 24), none, []⟩,
      ⟨none, .store 1 (.t 25) (.t 23), none, []⟩] false)
    (.skip)))))⟩
def mask_pack_row_0 : Mask := ⟨[0, 3, 34, 35, 36], []⟩
def body_pack_row_0 : ACode :=
  .seq (.region 8 [
    ⟨(some 37), .bin .lss (.t 36) (.t 35), none, []⟩] false)
  (.seq (.cond (.t 37)
    (.skip)
    (.mask ⟨[0, 3], []⟩ (.exit 0)))
  (.mask ⟨[0, 3, 34, 35, 36], []⟩ (.seq (.block 1 (.seq (.region 9 [
    ⟨(some 38), .iaddr 1 (.t 34) (.t 36), none, []⟩,
    ⟨(some 39), .load 1 false (.t 38), none, []⟩,
    ⟨(some 5), .mov (.t 39), none, []⟩] false)
  (.region 10 [
    ⟨(some 40), .mov (.t 0), none, []⟩,
    ⟨(some 41), .mov (.t 5), none, []⟩,
    ⟨(some 42), .call (.c (.fn F_octet_Out_Text [])) [(.t 40), (.t 41)], none, []⟩] false)))
  (.mask ⟨[0, 3, 34, 35, 36], []⟩ (.region 11 [
    ⟨(some 43), .bin .add (.t 36) (.c (.d (.int .i64 (1)))), none, []⟩,
    ⟨(some 36), .mov (.t 43), none, []⟩] false)))))
def mask_pack_row_1 : Mask := ⟨[0, 50, 51, 52], []⟩
def body_pack_row_1 : ACode :=
  .seq (.region 14 [
    ⟨(some 53), .bin .lss (.t 52) (.t 51), none, []⟩] false)
  (.seq (.cond (.t 53)
    (.skip)
    (.mask ⟨[], []⟩ (.exit 2)))
  (.mask ⟨[0, 50, 51, 52], []⟩ (.seq (.block 3 (.seq (.region 15 [
    ⟨(some 54), .iaddr 1 (.t 50) (.t 52), none, []⟩,
    ⟨(some 55), .load 1 false (.t 54), none, []⟩,
    ⟨(some 7), .mov (.t 55), none, []⟩] false)
  (.region 16 [
    ⟨(some 56), .mov (.t 0), none, []⟩,
    ⟨(some 57), .mov (.t 7), none, []⟩,
    ⟨(some 58), .call (.c (.fn F_octet_Out_Byte [])) [(.t 56), (.t 57)], none, []⟩] false)))
  (.mask ⟨[0, 50, 51, 52], []⟩ (.region 17 [
    ⟨(some 59), .bin .add (.t 52) (.c (.d (.int .i64 (1)))), none, []⟩,
    ⟨(some 52), .mov (.t 59), none, []⟩] false)))))
/-- beadle/pack.row -/
def code_pack_row : AFunc := ⟨60, [],
  .seq (.region 0 [
    ⟨(some 3), .box 7 (.t 1), none, []⟩] false)
  (.seq (.region 1 [
    ⟨(some 8), .mov (.t 0), none, []⟩,
    ⟨(some 9), .faddr 0 (.t 3), none, []⟩,
    ⟨(some 10), .load 1 false (.t 9), none, []⟩,
    ⟨(some 11), .call (.c (.fn F_octet_Out_Byte [])) [(.t 8), (.t 10)], none, []⟩] false)
  (.seq (.region 2 [
    ⟨(some 12), .mov (.t 0), none, []⟩,
    ⟨(some 13), .faddr 1 (.t 3), none, []⟩,
    ⟨(some 14), .load 1 false (.t 13), none, []⟩,
    ⟨(some 15), .call (.c (.fn F_octet_Out_Text [])) [(.t 12), (.t 14)], none, []⟩] false)
  (.seq (.region 3 [
    ⟨(some 16), .mov (.t 0), none, []⟩,
    ⟨(some 17), .faddr 2 (.t 3), none, []⟩,
    ⟨(some 18), .load 1 false (.t 17), none, []⟩,
    ⟨(some 19), .call (.c (.fn F_octet_Out_Int [])) [(.t 16), (.t 18)], none, []⟩] false)
  (.seq (.region 4 [
    ⟨(some 20), .mov (.t 0), none, []⟩,
    ⟨(some 21), .faddr 3 (.t 3), none, []⟩,
    ⟨(some 22), .load 1 false (.t 21), none, []⟩,
    ⟨(some 23), .call (.c (.fn F_octet_Out_Int [])) [(.t 20), (.t 22)], none, []⟩] false)
  (.seq (.region 5 [
    ⟨(some 24), .mov (.t 0), none, []⟩,
    ⟨(some 25), .faddr 4 (.t 3), none, []⟩,
    ⟨(some 26), .load 1 false (.t 25), none, []⟩,
    ⟨(some 27), .call (.c (.fn F_octet_Out_Int [])) [(.t 24), (.t 26)], none, []⟩] false)
  (.seq (.region 6 [
    ⟨(some 28), .mov (.t 0), none, []⟩,
    ⟨(some 29), .faddr 5 (.t 3), none, []⟩,
    ⟨(some 30), .load 1 false (.t 29), none, []⟩,
    ⟨(some 31), .len .sl (.t 30), none, []⟩,
    ⟨(some 32), .call (.c (.fn F_octet_Out_Byte [])) [(.t 28), (.t 31)], none, []⟩] false)
  (.seq (.seq (.region 7 [
    ⟨(some 33), .faddr 5 (.t 3), none, []⟩,
    ⟨(some 34), .load 1 false (.t 33), none, []⟩,
    ⟨(some 35), .len .sl (.t 34), none, []⟩,
    ⟨(some 36), .mov (.c (.d (.int .i64 (0)))), none, []⟩] false)
  (.block 0 (.loop mask_pack_row_0 body_pack_row_0)))
  (.mask ⟨[0, 3], []⟩ (.seq (.region 12 [
    ⟨(some 44), .mov (.t 0), none, []⟩,
    ⟨(some 45), .faddr 6 (.t 3), none, []⟩,
    ⟨(some 46), .load 1 false (.t 45), none, []⟩,
    ⟨(some 47), .len .sl (.t 46), none, []⟩,
    ⟨(some 48), .call (.c (.fn F_octet_Out_Byte [])) [(.t 44), (.t 47)], none, []⟩] false)
  (.seq (.region 13 [
    ⟨(some 49), .faddr 6 (.t 3), none, []⟩,
    ⟨(some 50), .load 1 false (.t 49), none, []⟩,
    ⟨(some 51), .len .sl (.t 50), none, []⟩,
    ⟨(some 52), .mov (.c (.d (.int .i64 (0)))), none, []⟩] false)
  (.block 2 (.loop mask_pack_row_1 body_pack_row_1))))))))))))⟩
/-- (*beadle/octet.Out).Done -/
def code_octet_Out_Done : AFunc := ⟨23, [.tmp 2, .tmp 3],
  .seq (.region 0 [
    ⟨(some 2), .mov (.c (.d (.vs true []))), none, []⟩,
    ⟨(some 3), .mov (.c (.d (.int .i64 (0)))), none, []⟩] false)
  (.seq (.block 0 (.seq (.region 1 [
    ⟨(some 5), .mov (.t 0), none, []⟩,
    ⟨(some 6), .isnil .p false (.t 5), none, []⟩,
    ⟨(some 4), .mov (.t 6), none, []⟩] false)
  (.cond (.t 4)
    (.seq (.region 2 [
      ⟨(some 2), .mov (.c (.d (.vs true []))), none, []⟩,
      ⟨(some 3), .mov (.c (.d (.int .i64 (9)))), none, []⟩] false)
    (.mask ⟨[2, 3], [.slot 2 10000020 1]⟩ (.ret)))
    (.seq (.region 3 [
      ⟨(some 8), .mov (.t 0), none, []⟩,
      ⟨(some 9), .nilchk (.t 8), none, []⟩,
      ⟨(some 10), .faddr 1 (.t 9), none, []⟩,
      ⟨(some 11), .load 1 false (.t 10), none, []⟩,
      ⟨(some 12), .bin .neq (.t 11) (.c (.d (.int .i64 (0)))), none, []⟩,
      ⟨(some 7), .mov (.t 12), none, []⟩] false)
    (.cond (.t 7)
      (.seq (.region 4 [
        ⟨(some 13), .mov (.t 0), none, []⟩,
        ⟨(some 14), .nilchk (.t 13), none, [0]⟩,
        ⟨(some 15), .faddr 1 (.t 14), none, [0, 1]⟩,
        ⟨(some 16), .load 1 false (.t 15), none, [0, 1, 2]⟩,
        ⟨(some 2), .mov (.c (.d (.vs true []))), none, []⟩,
        ⟨(some 3), .mov (.t 16), none, [0, 1, 2, 3, 4]⟩] true)
      (.mask ⟨[2, 3], [.slot 2 10000020 1]⟩ (.ret)))
      (.skip))))))
  (.mask ⟨[0], []⟩ (.seq (.region 5 [
    ⟨(some 17), .buildSl 1 [(.int .u8 (0))] 0 [], none, []⟩,
    ⟨(some 18), .mov (.t 0), none, []⟩,
    ⟨(some 19), .nilchk (.t 18), none, []⟩,
    ⟨(some 20), .faddr 0 (.t 19), none, []⟩,
    ⟨(some 21), .load 1 false (.t 20), none, []⟩,
    ⟨(some 22), .append 1 (.t 17) (.t 21), none, []⟩,
    ⟨(some 2), .mov (.t 22), none, []⟩,
    ⟨(some 3), .mov (.c (.d (.int .i64 (0)))), none, []⟩] false)
  (.mask ⟨[2, 3], [.slot 2 10000020 1]⟩ (.ret)))))⟩
def mask_ref13_grow_0 : Mask := ⟨[0, 1, 2, 6, 8, 9, 10], [.cell 60110 5 26011050 6]⟩
def body_ref13_grow_0 : ACode :=
  .seq (.seq (.region 7 [
    ⟨(some 34), .mov (.t 10), none, []⟩,
    ⟨(some 35), .faddr 5 (.t 8), none, []⟩,
    ⟨(some 36), .load 1 false (.t 35), none, []⟩,
    ⟨(some 37), .len .sl (.t 36), none, []⟩,
    ⟨(some 38), .bin .lss (.t 34) (.t 37), none, []⟩] false)
  (.cond (.t 38)
    (.skip)
    (.mask ⟨[0, 1, 2, 6, 8, 9], [.cell 60110 5 26011050 6]⟩ (.exit 0))))
  (.mask ⟨[0, 1, 2, 6, 8, 9, 10], [.cell 60110 5 26011050 6]⟩ (.seq (.block 1 (.region 9 [
    ⟨(some 41), .faddr 5 (.t 9), none, []⟩,
    ⟨(some 42), .load 1 false (.t 41), none, [0]⟩,
    ⟨(some 43), .faddr 5 (.t 8), none, []⟩,
    ⟨(some 44), .load 1 false (.t 43), none, [2]⟩,
    ⟨(some 45), .mov (.t 10), none, []⟩,
    ⟨(some 46), .iaddr 1 (.t 44) (.t 45), none, [2, 3, 4]⟩,
    ⟨(some 47), .load 1 false (.t 46), none, [2, 3, 4, 5]⟩,
    ⟨(some 48), .build [(.d (.int .i64 (0))), (.d (.str [])), (.d (.int .i64 (0))), (.d (.int .i64 (0))), (.d (.int .i64 (0))), (.d (.vs true []))] [(0, 1, (.c (.d (.int .i64 (3))))), (1, 1, (.t 47))], none, [2, 3, 4, 5, 6]⟩,
    ⟨(some 49), .buildSl 6 [(.int .i64 (0)), (.str []), (.int .i64 (0)), (.int .i64 (0)), (.int .i64 (0)), (.vs false [])] 1 [(0, (.t 48))], none, [2, 3, 4, 5, 6, 7]⟩,
    ⟨(some 50), .append 6 (.t 42) (.t 49), none, [0, 1, 2, 3, 4, 5, 6, 7, 8]⟩,
    ⟨(some 51), .faddr 5 (.t 9), none, [0, 1, 2, 3, 4, 5, 6, 7, 8, 9]⟩,
    ⟨none, .store 1 (.t 51) (.t 50), none, [0, 1, 2, 3, 4, 5, 6, 7, 8, 9, 10]⟩] true))
  (.mask ⟨[0, 1, 2, 6, 8, 9, 10], [.cell 60110 5 26011050 6]⟩ (.region 8 [
    ⟨(some 39), .mov (.t 10), none, []⟩,
    ⟨(some 40), .bin .add (.t 39) (.c (.d (.int .i64 (1)))), none, []⟩,
    ⟨(some 10), .mov (.t 40), none, []⟩] false))))
def mask_ref13_grow_1 : Mask := ⟨[0, 1, 2, 6, 8, 9, 11], [.cell 60110 5 26011050 6]⟩
def body_ref13_grow_1 : ACode :=
  .seq (.seq (.region 11 [
    ⟨(some 52), .mov (.t 11), none, []⟩,
    ⟨(some 53), .faddr 6 (.t 8), none, []⟩,
    ⟨(some 54), .load 1 false (.t 53), none, []⟩,
    ⟨(some 55), .len .sl (.t 54), none, []⟩,
    ⟨(some 56), .bin .lss (.t 52) (.t 55), none, []⟩] false)
  (.cond (.t 56)
    (.skip)
    (.mask ⟨[2, 6, 9], [.cell 60110 5 26011050 6]⟩ (.exit 2))))
  (.mask ⟨[0, 1, 2, 6, 8, 9, 11], [.cell 60110 5 26011050 6]⟩ (.seq (.block 3 (.seq (.seq (.region 13 [
    ⟨(some 59), .faddr 6 (.t 8), none, []⟩,
    ⟨(some 60), .load 1 false (.t 59), none, []⟩,
    ⟨(some 61), .mov (.t 11), none, []⟩,
    ⟨(some 62), .iaddr 1 (.t 60) (.t 61), none, []⟩,
    ⟨(some 63), .load 1 false (.t 62), none, []⟩,
    ⟨(some 64), .bin .lss (.t 63) (.c (.d (.int .i64 (0)))), none, []⟩,
    ⟨(some 65), .mov (.t 64), none, []⟩,
    ⟨(some 66), .faddr 6 (.t 8), (some (65, false)), []⟩,
    ⟨(some 67), .load 1 false (.t 66), (some (65, false)), []⟩,
    ⟨(some 68), .mov (.t 11), (some (65, false)), []⟩,
    ⟨(some 69), .iaddr 1 (.t 67) (.t 68), (some (65, false)), []⟩,
    ⟨(some 70), .load 1 false (.t 69), (some (65, false)), []⟩,
    ⟨(some 71), .mov (.t 1), (some (65, false)), []⟩,
    ⟨(some 72), .bin .geq (.t 70) (.t 71), (some (65, false)), []⟩,
    ⟨(some 73), .pick (.t 65) (.c (.d (.bool true))) (.t 72), none, []⟩] false)
  (.mask ⟨[0, 1, 2, 6, 8, 9, 11, 73], [.cell 60110 5 26011050 6]⟩ (.cond (.t 73)
    (.seq (.region 14 [
      ⟨(some 74), .build [(.d (.int .i64 (0))), (.d (.str [])), (.d (.int .i64 (0))), (.d (.int .i64 (0))), (.d (.int .i64 (0))), (.d (.vs true []))] [], none, []⟩,
      ⟨none, .store 6 (.t 6) (.t 74), none, []⟩,
      ⟨(some 7), .mov (.c (.d (.int .i64 (-1)))), none, []⟩] false)
    (.mask ⟨[6, 7], [.cell 60110 5 26011050 6]⟩ (.ret)))
    (.skip))))
  (.mask ⟨[0, 1, 2, 6, 8, 9, 11], [.cell 60110 5 26011050 6]⟩ (.seq (.region 15 [
    ⟨(some 76), .mov (.t 0), none, []⟩,
    ⟨(some 77), .faddr 6 (.t 8), none, []⟩,
    ⟨(some 78), .load 1 false (.t 77), none, []⟩,
    ⟨(some 79), .mov (.t 11), none, []⟩,
    ⟨(some 80), .iaddr 1 (.t 78) (.t 79), none, []⟩,
    ⟨(some 81), .load 1 false (.t 80), none, []⟩,
    ⟨(some 82), .mov (.t 2), none, []⟩,
    ⟨(some 83), .call (.c (.fn F_ref13_grow [])) [(.t 76), (.t 81), (.t 82)], none, []⟩,
    ⟨(some 75), .mov (.t 83), none, []⟩,
    ⟨(some 84), .extract (.t 75) 0, none, []⟩,
    ⟨(some 85), .extract (.t 75) 1, none, []⟩,
    ⟨(some 12), .box 6 (.c (.agg [(.d (.int .i64 (0))), (.d (.str [])), (.d (.int .i64 (0))), (.d (.int .i64 (0))), (.d (.int .i64 (0))), (.d (.vs true []))])), none, []⟩,
    ⟨none, .store 6 (.t 12) (.t 84), none, []⟩,
    ⟨(some 13), .mov (.t 85), none, []⟩] false)
  (.seq (.seq (.region 16 [
    ⟨(some 86), .mov (.t 13), none, []⟩,
    ⟨(some 87), .bin .lss (.t 86) (.c (.d (.int .i64 (0)))), none, []⟩] false)
  (.cond (.t 87)
    (.seq (.region 17 [
      ⟨(some 88), .build [(.d (.int .i64 (0))), (.d (.str [])), (.d (.int .i64 (0))), (.d (.int .i64 (0))), (.d (.int .i64 (0))), (.d (.vs true []))] [], none, []⟩,
      ⟨none, .store 6 (.t 6) (.t 88), none, []⟩,
      ⟨(some 7), .mov (.c (.d (.int .i64 (-1)))), none, []⟩] false)
    (.mask ⟨[6, 7], [.cell 60110 5 26011050 6]⟩ (.ret)))
    (.skip)))
  (.mask ⟨[0, 1, 6, 8, 9, 11, 12, 13], [.cell 60110 5 26011050 6]⟩ (.seq (.region 18 [
    ⟨(some 89), .mov (.t 13), none, []⟩,
    ⟨(some 2), .mov (.t 89), none, []⟩] false)
  (.region 19 [
    ⟨(some 90), .faddr 5 (.t 9), none, []⟩,
    ⟨(some 91), .load 1 false (.t 90), none, []⟩,
    ⟨(some 92), .load 6 true (.t 12), none, []⟩,
    ⟨(some 93), .buildSl 6 [(.int .i64 (0)), (.str []), (.int .i64 (0)), (.int .i64 (0)), (.int .i64 (0)), (.vs false [])] 1 [(0, (.t 92))], none, []⟩,
    ⟨(some 94), .append 6 (.t 91) (.t 93), none, []⟩,
    ⟨(some 95), .faddr 5 (.t 9), none, []⟩,
    ⟨none, .store 1 (.t 95) (.t 94), none, []⟩] false))))))))
  (.mask ⟨[0, 1, 2, 6, 8, 9, 11], [.cell 60110 5 26011050 6]⟩ (.region 12 [
    ⟨(some 57), .mov (.t 11), none, []⟩,
    ⟨(some 58), .bin .add (.t 57) (.c (.d (.int .i64 (1)))), none, []⟩,
    ⟨(some 11), .mov (.t 58), none, []⟩] false))))
/-- beadle/beadleref13.grow -/
def code_ref13_grow : AFunc := ⟨98, [.cell 6 6 true, .tmp 7],
  .seq (.region 0 [
    ⟨(some 6), .box 6 (.c (.agg [(.d (.int .i64 (0))), (.d (.str [])), (.d (.int .i64 (0))), (.d (.int .i64 (0))), (.d (.int .i64 (0))), (.d (.vs true []))])), none, []⟩,
    ⟨(some 7), .mov (.c (.d (.int .i64 (0)))), none, []⟩] false)
  (.seq (.seq (.region 1 [
    ⟨(some 14), .mov (.t 2), none, []⟩,
    ⟨(some 15), .bin .lss (.t 14) (.c (.d (.int .i64 (1)))), none, []⟩] false)
  (.cond (.t 15)
    (.seq (.region 2 [
      ⟨(some 16), .build [(.d (.int .i64 (0))), (.d (.str [])), (.d (.int .i64 (0))), (.d (.int .i64 (0))), (.d (.int .i64 (0))), (.d (.vs true []))] [], none, []⟩,
      ⟨none, .store 6 (.t 6) (.t 16), none, []⟩,
      ⟨(some 7), .mov (.c (.d (.int .i64 (-1)))), none, []⟩] false)
    (.mask ⟨[6, 7], [.cell 60110 5 26011050 6]⟩ (.ret)))
    (.skip)))
  (.mask ⟨[0, 1, 2, 6], [.cell 60110 5 26011050 6]⟩ (.seq (.region 3 [
    ⟨(some 17), .mov (.t 2), none, []⟩,
    ⟨(some 18), .bin .sub (.t 17) (.c (.d (.int .i64 (1)))), none, []⟩,
    ⟨(some 2), .mov (.t 18), none, []⟩] false)
  (.seq (.region 4 [
    ⟨(some 19), .mov (.t 0), none, []⟩,
    ⟨(some 20), .mov (.t 1), none, []⟩,
    ⟨(some 21), .iaddr 7 (.t 19) (.t 20), none, []⟩,
    ⟨(some 22), .load 7 true (.t 21), none, []⟩,
    ⟨(some 8), .box 7 (.c (.agg [(.d (.int .i64 (0))), (.d (.str [])), (.d (.int .i64 (0))), (.d (.int .i64 (0))), (.d (.int .i64 (0))), (.d (.vs true [])), (.d (.vs true []))])), none, []⟩,
    ⟨none, .store 7 (.t 8) (.t 22), none, []⟩] false)
  (.seq (.region 5 [
    ⟨(some 23), .faddr 0 (.t 8), none, []⟩,
    ⟨(some 24), .load 1 false (.t 23), none, []⟩,
    ⟨(some 25), .faddr 1 (.t 8), none, []⟩,
    ⟨(some 26), .load 1 false (.t 25), none, []⟩,
    ⟨(some 27), .faddr 2 (.t 8), none, []⟩,
    ⟨(some 28), .load 1 false (.t 27), none, []⟩,
    ⟨(some 29), .faddr 3 (.t 8), none, []⟩,
    ⟨(some 30), .load 1 false (.t 29), none, []⟩,
    ⟨(some 31), .faddr 4 (.t 8), none, []⟩,
    ⟨(some 32), .load 1 false (.t 31), none, []⟩,
    ⟨(some 33), .build [(.d (.int .i64 (0))), (.d (.str [])), (.d (.int .i64 (0))), (.d (.int .i64 (0))), (.d (.int .i64 (0))), (.d (.vs true []))] [(0, 1, (.t 24)), (1, 1, (.t 26)), (2, 1, (.t 28)), (3, 1, (.t 30)), (4, 1, (.t 32))], none, []⟩,
    ⟨(some 9), .box 6 (.c (.agg [(.d (.int .i64 (0))), (.d (.str [])), (.d (.int .i64 (0))), (.d (.int .i64 (0))), (.d (.int .i64 (0))), (.d (.vs true []))])), none, []⟩,
    ⟨none, .store 6 (.t 9) (.t 33), none, []⟩] false)
  (.seq (.seq (.region 6 [
    ⟨(some 10), .mov (.c (.d (.int .i64 (0)))), none, []⟩] false)
  (.block 0 (.loop mask_ref13_grow_0 body_ref13_grow_0)))
  (.mask ⟨[0, 1, 2, 6, 8, 9], [.cell 60110 5 26011050 6]⟩ (.seq (.seq (.region 10 [
    ⟨(some 11), .mov (.c (.d (.int .i64 (0)))), none, []⟩] false)
  (.block 2 (.loop mask_ref13_grow_1 body_ref13_grow_1)))
  (.mask ⟨[2, 6, 9], [.cell 60110 5 26011050 6]⟩ (.seq (.region 20 [
    ⟨(some 96), .load 6 true (.t 9), none, []⟩,
    ⟨(some 97), .mov (.t 2), none, []⟩,
    ⟨none, .store 6 (.t 6) (.t 96), none, []⟩,
    ⟨(some 7), .mov (.t 97), none, []⟩] false)
  (.mask ⟨[6, 7], [.cell 60110 5 26011050 6]⟩ (.ret))))))))))))⟩
/-- beadle/beadleref04.Text -/
def code_ref04_Text : AFunc := ⟨12, [.tmp 2],
  .seq (.region 0 [
    ⟨(some 2), .mov (.c (.d (.vs true []))), none, []⟩] false)
  (.seq (.region 1 [
    ⟨(some 4), .mov (.t 0), none, []⟩,
    ⟨(some 5), .len .str (.t 4), none, []⟩,
    ⟨(some 6), .toInt .u8 (.t 5), none, []⟩,
    ⟨(some 7), .buildSl 1 [(.int .u8 (0))] 1 [(0, (.t 6))], none, []⟩,
    ⟨(some 3), .mov (.t 7), none, []⟩] false)
  (.seq (.region 2 [
    ⟨(some 8), .mov (.t 3), none, []⟩,
    ⟨(some 9), .mov (.t 0), none, []⟩,
    ⟨(some 10), .append 1 (.t 8) (.t 9), none, []⟩,
    ⟨(some 3), .mov (.t 10), none, []⟩] false)
  (.seq (.region 3 [
    ⟨(some 11), .mov (.t 3), none, []⟩,
    ⟨(some 2), .mov (.t 11), none, []⟩] false)
  (.mask ⟨[2], [.slot 2 10000020 1]⟩ (.ret)))))⟩
def mask_ref04_Int_0 : Mask := ⟨[0, 3, 4], []⟩
def body_ref04_Int_0 : ACode :=
  .seq (.seq (.region 3 [
    ⟨(some 6), .mov (.t 4), none, []⟩,
    ⟨(some 7), .bin .geq (.t 6) (.c (.d (.int .i64 (0)))), none, []⟩] false)
  (.cond (.t 7)
    (.skip)
    (.mask ⟨[3], []⟩ (.exit 0))))
  (.mask ⟨[0, 3, 4], []⟩ (.seq (.block 1 (.seq (.region 5 [
    ⟨(some 10), .mov (.t 3), none, []⟩,
    ⟨(some 11), .mov (.t 4), none, []⟩,
    ⟨(some 12), .mov (.t 0), none, []⟩,
    ⟨(some 13), .bin .and (.t 12) (.c (.d (.int .i64 (255)))), none, []⟩,
    ⟨(some 14), .toInt .u8 (.t 13), none, []⟩,
    ⟨(some 15), .iaddr 1 (.t 10) (.t 11), none, []⟩,
    ⟨none, .store 1 (.t 15) (.t 14), none, []⟩] false)
  (.region 6 [
    ⟨(some 16), .mov (.t 0), none, []⟩,
    ⟨(some 17), .bin .shr (.t 16) (.c (.d (.int .u64 (8)))), none, []⟩,
    ⟨(some 0), .mov (.t 17), none, []⟩] false)))
  (.mask ⟨[0, 3, 4], []⟩ (.region 4 [
    ⟨(some 8), .mov (.t 4), none, []⟩,
    ⟨(some 9), .bin .sub (.t 8) (.c (.d (.int .i64 (1)))), none, []⟩,
    ⟨(some 4), .mov (.t 9), none, []⟩] false))))
/-- beadle/beadleref04.Int -/
def code_ref04_Int : AFunc := ⟨19, [.tmp 2],
  .seq (.region 0 [
    ⟨(some 2), .mov (.c (.d (.vs true []))), none, []⟩] false)
  (.seq (.region 1 [
    ⟨(some 5), .mksl 1 [(.int .u8 (0))] (.c (.d (.int .i64 (8)))) (.c (.d (.int .i64 (8)))), none, []⟩,
    ⟨(some 3), .mov (.t 5), none, []⟩] false)
  (.seq (.seq (.region 2 [
    ⟨(some 4), .mov (.c (.d (.int .i64 (7)))), none, []⟩] false)
  (.block 0 (.loop mask_ref04_Int_0 body_ref04_Int_0)))
  (.mask ⟨[3], []⟩ (.seq (.region 7 [
    ⟨(some 18), .mov (.t 3), none, []⟩,
    ⟨(some 2), .mov (.t 18), none, []⟩] false)
  (.mask ⟨[2], []⟩ (.ret))))))⟩
/-- beadle/ast.Check -/
def code_ast_Check : AFunc := ⟨15, [.tmp 2],
  .seq (.region 0 [
    ⟨(some 1), .box 6 (.t 0), none, []⟩,
    ⟨(some 2), .mov (.c (.d (.int .i64 (0)))), none, []⟩] false)
  (.seq (.block 0 (.seq (.region 1 [
    ⟨(some 4), .load 6 true (.t 1), none, []⟩,
    ⟨(some 5), .call (.c (.fn F_ast_Depth [])) [(.t 4)], none, []⟩,
    ⟨(some 6), .bin .gtr (.t 5) (.c (.d (.int .i64 (12)))), none, []⟩,
    ⟨(some 3), .mov (.t 6), none, []⟩] false)
  (.cond (.t 3)
    (.seq (.region 2 [
      ⟨(some 2), .mov (.c (.d (.int .i64 (32)))), none, []⟩] false)
    (.mask ⟨[2], []⟩ (.ret)))
    (.seq (.region 3 [
      ⟨(some 8), .load 6 true (.t 1), none, []⟩,
      ⟨(some 9), .call (.c (.fn F_ast_Size [])) [(.t 8)], none, []⟩,
      ⟨(some 10), .bin .gtr (.t 9) (.c (.d (.int .i64 (64)))), none, []⟩,
      ⟨(some 7), .mov (.t 10), none, []⟩] false)
    (.cond (.t 7)
      (.seq (.region 4 [
        ⟨(some 2), .mov (.c (.d (.int .i64 (3)))), none, []⟩] false)
      (.mask ⟨[2], []⟩ (.ret)))
      (.seq (.region 5 [
        ⟨(some 12), .load 6 true (.t 1), none, []⟩,
        ⟨(some 13), .call (.c (.fn F_ast_may [])) [(.t 12)], none, []⟩,
        ⟨(some 14), .un .not (.t 13), none, []⟩,
        ⟨(some 11), .mov (.t 14), none, []⟩] false)
      (.cond (.t 11)
        (.seq (.region 6 [
          ⟨(some 2), .mov (.c (.d (.int .i64 (12)))), none, []⟩] false)
        (.mask ⟨[2], []⟩ (.ret)))
        (.skip))))))))
  (.mask ⟨[], []⟩ (.seq (.region 7 [
    ⟨(some 2), .mov (.c (.d (.int .i64 (0)))), none, []⟩] false)
  (.mask ⟨[2], []⟩ (.ret)))))⟩
/-- beadle/table.Of -/
def code_table_Of : AFunc := ⟨13, [.tmp 2],
  .seq (.region 0 [
    ⟨(some 1), .box 6 (.t 0), none, []⟩,
    ⟨(some 2), .mov (.c (.d (.vs true []))), none, []⟩] false)
  (.seq (.seq (.region 1 [
    ⟨(some 5), .load 6 true (.t 1), none, []⟩,
    ⟨(some 6), .call (.c (.fn F_ast_Check [])) [(.t 5)], none, []⟩,
    ⟨(some 7), .bin .neq (.t 6) (.c (.d (.int .i64 (0)))), none, []⟩] false)
  (.cond (.t 7)
    (.seq (.region 2 [
      ⟨(some 2), .mov (.c (.d (.vs true []))), none, []⟩] false)
    (.mask ⟨[2], []⟩ (.ret)))
    (.skip)))
  (.mask ⟨[1], []⟩ (.seq (.region 3 [
    ⟨(some 3), .box 1 (.c (.d (.vs true []))), none, []⟩] false)
  (.seq (.region 4 [
    ⟨(some 4), .box 1 (.c (.d .nilf)), none, []⟩] false)
  (.seq (.region 5 [
    ⟨(some 8), .mkfn F_table_Of_1 [(.t 4), (.t 3)], none, []⟩,
    ⟨none, .store 1 (.t 4) (.t 8), none, []⟩] false)
  (.seq (.region 6 [
    ⟨(some 9), .load 1 false (.t 4), none, []⟩,
    ⟨(some 10), .load 6 true (.t 1), none, []⟩,
    ⟨(some 11), .call (.t 9) [(.t 10)], none, []⟩] false)
  (.seq (.region 7 [
    ⟨(some 12), .load 1 false (.t 3), none, []⟩,
    ⟨(some 2), .mov (.t 12), none, []⟩] false)
  (.mask ⟨[2], []⟩ (.ret)))))))))⟩
def mask_ref07_Depth_0 : Mask := ⟨[1, 3, 4], []⟩
def body_ref07_Depth_0 : ACode :=
  .seq (.seq (.region 5 [
    ⟨(some 9), .mov (.t 4), none, []⟩,
    ⟨(some 10), .faddr 5 (.t 1), none, []⟩,
    ⟨(some 11), .load 1 false (.t 10), none, []⟩,
    ⟨(some 12), .len .sl (.t 11), none, []⟩,
    ⟨(some 13), .bin .lss (.t 9) (.t 12), none, []⟩] false)
  (.cond (.t 13)
    (.skip)
    (.mask ⟨[3], []⟩ (.exit 0))))
  (.mask ⟨[1, 3, 4], []⟩ (.seq (.block 1 (.seq (.region 7 [
    ⟨(some 16), .faddr 5 (.t 1), none, []⟩,
    ⟨(some 17), .load 1 false (.t 16), none, []⟩,
    ⟨(some 18), .mov (.t 4), none, []⟩,
    ⟨(some 19), .iaddr 6 (.t 17) (.t 18), none, []⟩,
    ⟨(some 20), .load 6 true (.t 19), none, []⟩,
    ⟨(some 21), .call (.c (.fn F_ref07_Depth [])) [(.t 20)], none, []⟩,
    ⟨(some 5), .mov (.t 21), none, []⟩] false)
  (.seq (.region 8 [
    ⟨(some 22), .mov (.t 5), none, []⟩,
    ⟨(some 23), .mov (.t 3), none, []⟩,
    ⟨(some 24), .bin .gtr (.t 22) (.t 23), none, []⟩] false)
  (.cond (.t 24)
    (.region 9 [
      ⟨(some 25), .mov (.t 5), none, []⟩,
      ⟨(some 3), .mov (.t 25), none, []⟩] false)
    (.skip)))))
  (.mask ⟨[1, 3, 4], []⟩ (.region 6 [
    ⟨(some 14), .mov (.t 4), none, []⟩,
    ⟨(some 15), .bin .add (.t 14) (.c (.d (.int .i64 (1)))), none, []⟩,
    ⟨(some 4), .mov (.t 15), none, []⟩] false))))
/-- beadle/beadleref07.Depth -/
def code_ref07_Depth : AFunc := ⟨28, [.tmp 2],
  .seq (.region 0 [
    ⟨(some 1), .box 6 (.t 0), none, []⟩,
    ⟨(some 2), .mov (.c (.d (.int .i64 (0)))), none, []⟩] false)
  (.seq (.seq (.region 1 [
    ⟨(some 6), .faddr 0 (.t 1), none, []⟩,
    ⟨(some 7), .load 1 false (.t 6), none, []⟩,
    ⟨(some 8), .bin .eql (.t 7) (.c (.d (.int .i64 (4)))), none, []⟩] false)
  (.cond (.t 8)
    (.seq (.region 2 [
      ⟨(some 2), .mov (.c (.d (.int .i64 (1)))), none, []⟩] false)
    (.mask ⟨[2], []⟩ (.ret)))
    (.skip)))
  (.mask ⟨[1], []⟩ (.seq (.region 3 [
    ⟨(some 3), .mov (.c (.d (.int .i64 (0)))), none, []⟩] false)
  (.seq (.seq (.region 4 [
    ⟨(some 4), .mov (.c (.d (.int .i64 (0)))), none, []⟩] false)
  (.block 0 (.loop mask_ref07_Depth_0 body_ref07_Depth_0)))
  (.mask ⟨[3], []⟩ (.seq (.region 10 [
    ⟨(some 26), .mov (.t 3), none, []⟩,
    ⟨(some 27), .bin .add (.t 26) (.c (.d (.int .i64 (1)))), none, []⟩,
    ⟨(some 2), .mov (.t 27), none, []⟩] false)
  (.mask ⟨[2], []⟩ (.ret))))))))⟩
def mask_ref07_All_0 : Mask := ⟨[1, 3, 4], [.slot 3 10000030 6]⟩
def body_ref07_All_0 : ACode :=
  .seq (.seq (.region 5 [
    ⟨(some 11), .mov (.t 4), none, []⟩,
    ⟨(some 12), .faddr 5 (.t 1), none, []⟩,
    ⟨(some 13), .load 1 false (.t 12), none, []⟩,
    ⟨(some 14), .len .sl (.t 13), none, []⟩,
    ⟨(some 15), .bin .lss (.t 11) (.t 14), none, []⟩] false)
  (.cond (.t 15)
    (.skip)
    (.mask ⟨[3], [.slot 3 10000030 6]⟩ (.exit 0))))
  (.mask ⟨[1, 3, 4], [.slot 3 10000030 6]⟩ (.seq (.block 1 (.region 7 [
    ⟨(some 18), .mov (.t 3), none, []⟩,
    ⟨(some 19), .faddr 5 (.t 1), none, []⟩,
    ⟨(some 20), .load 1 false (.t 19), none, []⟩,
    ⟨(some 21), .mov (.t 4), none, []⟩,
    ⟨(some 22), .iaddr 6 (.t 20) (.t 21), none, []⟩,
    ⟨(some 23), .load 6 true (.t 22), none, []⟩,
    ⟨(some 24), .call (.c (.fn F_ref07_All [])) [(.t 23)], none, []⟩,
    ⟨(some 25), .append 6 (.t 18) (.t 24), none, []⟩,
    ⟨(some 3), .mov (.t 25), none, []⟩] false))
  (.mask ⟨[1, 3, 4], [.slot 3 10000030 6]⟩ (.region 6 [
    ⟨(some 16), .mov (.t 4), none, []⟩,
    ⟨(some 17), .bin .add (.t 16) (.c (.d (.int .i64 (1)))), none, []⟩,
    ⟨(some 4), .mov (.t 17), none, []⟩] false))))
/-- beadle/beadleref07.All -/
def code_ref07_All : AFunc := ⟨27, [.tmp 2],
  .seq (.region 0 [
    ⟨(some 1), .box 6 (.t 0), none, []⟩,
    ⟨(some 2), .mov (.c (.d (.vs true []))), none, []⟩] false)
  (.seq (.region 1 [
    ⟨(some 5), .load 6 true (.t 1), none, []⟩,
    ⟨(some 6), .buildSl 6 [(.int .i64 (0)), (.str []), (.int .i64 (0)), (.int .i64 (0)), (.int .i64 (0)), (.vs false [])] 1 [(0, (.t 5))], none, []⟩,
    ⟨(some 3), .mov (.t 6), none, []⟩] false)
  (.seq (.seq (.region 2 [
    ⟨(some 7), .faddr 0 (.t 1), none, []⟩,
    ⟨(some 8), .load 1 false (.t 7), none, []⟩,
    ⟨(some 9), .bin .eql (.t 8) (.c (.d (.int .i64 (4)))), none, []⟩] false)
  (.cond (.t 9)
    (.seq (.region 3 [
      ⟨(some 10), .mov (.t 3), none, []⟩,
      ⟨(some 2), .mov (.t 10), none, []⟩] false)
    (.mask ⟨[2], [.slot 2 10000020 6]⟩ (.ret)))
    (.skip)))
  (.mask ⟨[1, 3], [.slot 3 10000030 6]⟩ (.seq (.seq (.region 4 [
    ⟨(some 4), .mov (.c (.d (.int .i64 (0)))), none, []⟩] false)
  (.block 0 (.loop mask_ref07_All_0 body_ref07_All_0)))
  (.mask ⟨[3], [.slot 3 10000030 6]⟩ (.seq (.region 8 [
    ⟨(some 26), .mov (.t 3), none, []⟩,
    ⟨(some 2), .mov (.t 26), none, []⟩] false)
  (.mask ⟨[2], [.slot 2 10000020 6]⟩ (.ret))))))))⟩
/-- beadle/beadleref07.Kids -/
def code_ref07_Kids : AFunc := ⟨43, [.tmp 2],
  .seq (.region 0 [
    ⟨(some 2), .mov (.c (.d (.int .i64 (0)))), none, []⟩] false)
  (.seq (.seq (.region 1 [
    ⟨(some 3), .mov (.t 0), none, []⟩,
    ⟨(some 4), .bin .lss (.t 3) (.c (.d (.int .i64 (1)))), none, []⟩,
    ⟨(some 5), .mov (.t 4), none, []⟩,
    ⟨(some 6), .mov (.t 0), (some (5, false)), []⟩,
    ⟨(some 7), .bin .gtr (.t 6) (.c (.d (.int .i64 (25)))), (some (5, false)), []⟩,
    ⟨(some 8), .pick (.t 5) (.c (.d (.bool true))) (.t 7), none, []⟩] false)
  (.mask ⟨[0, 8], []⟩ (.cond (.t 8)
    (.seq (.region 2 [
      ⟨(some 2), .mov (.c (.d (.int .i64 (-2)))), none, []⟩] false)
    (.mask ⟨[2], []⟩ (.ret)))
    (.skip))))
  (.mask ⟨[0], []⟩ (.seq (.seq (.region 3 [
    ⟨(some 9), .mov (.t 0), none, []⟩,
    ⟨(some 10), .bin .eql (.t 9) (.c (.d (.int .i64 (4)))), none, []⟩] false)
  (.cond (.t 10)
    (.seq (.region 4 [
      ⟨(some 2), .mov (.c (.d (.int .i64 (-1)))), none, []⟩] false)
    (.mask ⟨[2], []⟩ (.ret)))
    (.skip)))
  (.mask ⟨[0], []⟩ (.seq (.seq (.region 5 [
    ⟨(some 11), .mov (.t 0), none, []⟩,
    ⟨(some 12), .bin .leq (.t 11) (.c (.d (.int .i64 (7)))), none, []⟩,
    ⟨(some 13), .mov (.t 12), none, []⟩,
    ⟨(some 14), .mov (.t 0), (some (13, false)), []⟩,
    ⟨(some 15), .bin .eql (.t 14) (.c (.d (.int .i64 (13)))), (some (13, false)), []⟩,
    ⟨(some 16), .pick (.t 13) (.c (.d (.bool true))) (.t 15), none, []⟩,
    ⟨(some 17), .mov (.t 16), none, []⟩,
    ⟨(some 18), .mov (.t 0), (some (17, false)), []⟩,
    ⟨(some 19), .bin .eql (.t 18) (.c (.d (.int .i64 (21)))), (some (17, false)), []⟩,
    ⟨(some 20), .pick (.t 17) (.c (.d (.bool true))) (.t 19), none, []⟩] false)
  (.mask ⟨[0, 20], []⟩ (.cond (.t 20)
    (.seq (.region 6 [
      ⟨(some 2), .mov (.c (.d (.int .i64 (0)))), none, []⟩] false)
    (.mask ⟨[2], []⟩ (.ret)))
    (.skip))))
  (.mask ⟨[0], []⟩ (.seq (.seq (.region 7 [
    ⟨(some 21), .mov (.t 0), none, []⟩,
    ⟨(some 22), .bin .eql (.t 21) (.c (.d (.int .i64 (11)))), none, []⟩,
    ⟨(some 23), .mov (.t 22), none, []⟩,
    ⟨(some 24), .mov (.t 0), (some (23, false)), []⟩,
    ⟨(some 25), .bin .eql (.t 24) (.c (.d (.int .i64 (12)))), (some (23, false)), []⟩,
    ⟨(some 26), .pick (.t 23) (.c (.d (.bool true))) (.t 25), none, []⟩,
    ⟨(some 27), .mov (.t 26), none, []⟩,
    ⟨(some 28), .mov (.t 0), (some (27, false)), []⟩,
    ⟨(some 29), .bin .eql (.t 28) (.c (.d (.int .i64 (18)))), (some (27, false)), []⟩,
    ⟨(some 30), .pick (.t 27) (.c (.d (.bool true))) (.t 29), none, []⟩,
    ⟨(some 31), .mov (.t 30), none, []⟩,
    ⟨(some 32), .mov (.t 0), (some (31, false)), []⟩,
    ⟨(some 33), .bin .eql (.t 32) (.c (.d (.int .i64 (25)))), (some (31, false)), []⟩,
    ⟨(some 34), .pick (.t 31) (.c (.d (.bool true))) (.t 33), none, []⟩,
    ⟨(some 35), .mov (.t 34), none, []⟩,
    ⟨(some 36), .mov (.t 0), (some (35, false)), []⟩,
    ⟨(some 37), .bin .eql (.t 36) (.c (.d (.int .i64 (22)))), (some (35, false)), []⟩,
    ⟨(some 38), .pick (.t 35) (.c (.d (.bool true))) (.t 37), none, []⟩,
    ⟨(some 39), .mov (.t 38), none, []⟩,
    ⟨(some 40), .mov (.t 0), (some (39, false)), []⟩,
    ⟨(some 41), .bin .eql (.t 40) (.c (.d (.int .i64 (23)))), (some (39, false)), []⟩,
    ⟨(some 42), .pick (.t 39) (.c (.d (.bool true))) (.t 41), none, []⟩] false)
  (.mask ⟨[42], []⟩ (.cond (.t 42)
    (.seq (.region 8 [
      ⟨(some 2), .mov (.c (.d (.int .i64 (1)))), none, []⟩] false)
    (.mask ⟨[2], []⟩ (.ret)))
    (.skip))))
  (.mask ⟨[], []⟩ (.seq (.region 9 [
    ⟨(some 2), .mov (.c (.d (.int .i64 (2)))), none, []⟩] false)
  (.mask ⟨[2], []⟩ (.ret)))))))))))⟩
def mask_ref07_set_0 : Mask := ⟨[1, 3], []⟩
def body_ref07_set_0 : ACode :=
  .seq (.seq (.region 4 [
    ⟨(some 9), .mov (.t 3), none, []⟩,
    ⟨(some 10), .faddr 5 (.t 1), none, []⟩,
    ⟨(some 11), .load 1 false (.t 10), none, []⟩,
    ⟨(some 12), .len .sl (.t 11), none, []⟩,
    ⟨(some 13), .bin .lss (.t 9) (.t 12), none, []⟩] false)
  (.cond (.t 13)
    (.skip)
    (.mask ⟨[], []⟩ (.exit 0))))
  (.mask ⟨[1, 3], []⟩ (.seq (.block 1 (.seq (.region 6 [
    ⟨(some 16), .faddr 5 (.t 1), none, []⟩,
    ⟨(some 17), .load 1 false (.t 16), none, []⟩,
    ⟨(some 18), .mov (.t 3), none, []⟩,
    ⟨(some 19), .iaddr 6 (.t 17) (.t 18), none, []⟩,
    ⟨(some 20), .load 6 true (.t 19), none, []⟩,
    ⟨(some 4), .box 6 (.c (.agg [(.d (.int .i64 (0))), (.d (.str [])), (.d (.int .i64 (0))), (.d (.int .i64 (0))), (.d (.int .i64 (0))), (.d (.vs true []))])), none, []⟩,
    ⟨none, .store 6 (.t 4) (.t 20), none, []⟩] false)
  (.seq (.seq (.region 7 [
    ⟨(some 21), .faddr 0 (.t 4), none, []⟩,
    ⟨(some 22), .load 1 false (.t 21), none, []⟩,
    ⟨(some 23), .bin .neq (.t 22) (.c (.d (.int .i64 (3)))), none, []⟩,
    ⟨(some 24), .mov (.t 23), none, []⟩,
    ⟨(some 25), .faddr 5 (.t 4), (some (24, false)), []⟩,
    ⟨(some 26), .load 1 false (.t 25), (some (24, false)), []⟩,
    ⟨(some 27), .len .sl (.t 26), (some (24, false)), []⟩,
    ⟨(some 28), .bin .gtr (.t 27) (.c (.d (.int .i64 (0)))), (some (24, false)), []⟩,
    ⟨(some 29), .pick (.t 24) (.c (.d (.bool true))) (.t 28), none, []⟩,
    ⟨(some 30), .mov (.t 29), none, []⟩,
    ⟨(some 31), .faddr 2 (.t 4), (some (30, false)), []⟩,
    ⟨(some 32), .load 1 false (.t 31), (some (30, false)), []⟩,
    ⟨(some 33), .bin .neq (.t 32) (.c (.d (.int .i64 (0)))), (some (30, false)), []⟩,
    ⟨(some 34), .pick (.t 30) (.c (.d (.bool true))) (.t 33), none, []⟩,
    ⟨(some 35), .mov (.t 34), none, []⟩,
    ⟨(some 36), .faddr 3 (.t 4), (some (35, false)), []⟩,
    ⟨(some 37), .load 1 false (.t 36), (some (35, false)), []⟩,
    ⟨(some 38), .bin .neq (.t 37) (.c (.d (.int .i64 (0)))), (some (35, false)), []⟩,
    ⟨(some 39), .pick (.t 35) (.c (.d (.bool true))) (.t 38), none, []⟩,
    ⟨(some 40), .mov (.t 39), none, []⟩,
    ⟨(some 41), .faddr 4 (.t 4), (some (40, false)), []⟩,
    ⟨(some 42), .load 1 false (.t 41), (some (40, false)), []⟩,
    ⟨(some 43), .bin .neq (.t 42) (.c (.d (.int .i64 (0)))), (some (40, false)), []⟩,
    ⟨(some 44), .pick (.t 40) (.c (.d (.bool true))) (.t 43), none, []⟩,
    ⟨(some 45), .mov (.t 44), none, []⟩,
    ⟨(some 46), .faddr 1 (.t 4), (some (45, false)), []⟩,
    ⟨(some 47), .load 1 false (.t 46), (some (45, false)), []⟩,
    ⟨(some 48), .call (.c (.fn F_ref06_Plain [])) [(.t 47)], (some (45, false)), []⟩,
    ⟨(some 49), .un .not (.t 48), (some (45, false)), []⟩,
    ⟨(some 50), .pick (.t 45) (.c (.d (.bool true))) (.t 49), none, []⟩] false)
  (.mask ⟨[1, 3, 4, 50], []⟩ (.cond (.t 50)
    (.seq (.region 8 [
      ⟨(some 2), .mov (.c (.d (.bool false))), none, []⟩] false)
    (.mask ⟨[2], []⟩ (.ret)))
    (.skip))))
  (.mask ⟨[1, 3, 4], []⟩ (.seq (.region 9 [
    ⟨(some 51), .mov (.t 3), none, []⟩,
    ⟨(some 52), .bin .gtr (.t 51) (.c (.d (.int .i64 (0)))), none, [0]⟩,
    ⟨(some 53), .mov (.t 52), none, [0, 1]⟩,
    ⟨(some 54), .faddr 1 (.t 4), (some (53, true)), [0, 1, 2]⟩,
    ⟨(some 55), .load 1 false (.t 54), (some (53, true)), [0, 1, 2, 3]⟩,
    ⟨(some 56), .faddr 5 (.t 1), (some (53, true)), [0, 1, 2]⟩,
    ⟨(some 57), .load 1 false (.t 56), (some (53, true)), [0, 1, 2, 5]⟩,
    ⟨(some 58), .mov (.t 3), (some (53, true)), [0, 1, 2]⟩,
    ⟨(some 59), .bin .sub (.t 58) (.c (.d (.int .i64 (1)))), (some (53, true)), [0, 1, 2, 7]⟩,
    ⟨(some 60), .iaddr 6 (.t 57) (.t 59), (some (53, true)), [0, 1, 2, 5, 6, 7, 8]⟩,
    ⟨(some 61), .faddr 1 (.t 60), (some (53, true)), [0, 1, 2, 5, 6, 7, 8, 9]⟩,
    ⟨(some 62), .load 1 false (.t 61), (some (53, true)), [0, 1, 2, 5, 6, 7, 8, 9, 10]⟩,
    ⟨(some 63), .bin .leq (.t 55) (.t 62), (some (53, true)), [0, 1, 2, 3, 4, 5, 6, 7, 8, 9, 10, 11]⟩,
    ⟨(some 64), .pick (.t 53) (.t 63) (.c (.d (.bool false))), none, [0, 1, 2, 3, 4, 5, 6, 7, 8, 9, 10, 11, 12]⟩] true)
  (.mask ⟨[1, 3, 64], []⟩ (.cond (.t 64)
    (.seq (.region 10 [
      ⟨(some 2), .mov (.c (.d (.bool false))), none, []⟩] false)
    (.mask ⟨[2], []⟩ (.ret)))
    (.skip))))))))
  (.mask ⟨[1, 3], []⟩ (.region 5 [
    ⟨(some 14), .mov (.t 3), none, []⟩,
    ⟨(some 15), .bin .add (.t 14) (.c (.d (.int .i64 (1)))), none, []⟩,
    ⟨(some 3), .mov (.t 15), none, []⟩] false))))
/-- beadle/beadleref07.set -/
def code_ref07_set : AFunc := ⟨65, [.tmp 2],
  .seq (.region 0 [
    ⟨(some 1), .box 6 (.t 0), none, []⟩,
    ⟨(some 2), .mov (.c (.d (.bool false))), none, []⟩] false)
  (.seq (.seq (.region 1 [
    ⟨(some 5), .faddr 5 (.t 1), none, []⟩,
    ⟨(some 6), .load 1 false (.t 5), none, []⟩,
    ⟨(some 7), .len .sl (.t 6), none, []⟩,
    ⟨(some 8), .bin .gtr (.t 7) (.c (.d (.int .i64 (8)))), none, []⟩] false)
  (.cond (.t 8)
    (.seq (.region 2 [
      ⟨(some 2), .mov (.c (.d (.bool false))), none, []⟩] false)
    (.mask ⟨[2], []⟩ (.ret)))
    (.skip)))
  (.mask ⟨[1], []⟩ (.seq (.seq (.region 3 [
    ⟨(some 3), .mov (.c (.d (.int .i64 (0)))), none, []⟩] false)
  (.block 0 (.loop mask_ref07_set_0 body_ref07_set_0)))
  (.mask ⟨[], []⟩ (.seq (.region 11 [
    ⟨(some 2), .mov (.c (.d (.bool true))), none, []⟩] false)
  (.mask ⟨[2], []⟩ (.ret)))))))⟩
/-- beadle/beadleref07.fits -/
def code_ref07_fits : AFunc := ⟨126, [.tmp 2],
  .seq (.region 0 [
    ⟨(some 1), .box 6 (.t 0), none, []⟩,
    ⟨(some 2), .mov (.c (.d (.bool false))), none, []⟩] false)
  (.seq (.region 1 [
    ⟨(some 5), .faddr 0 (.t 1), none, []⟩,
    ⟨(some 6), .load 1 false (.t 5), none, []⟩,
    ⟨(some 3), .mov (.t 6), none, []⟩] false)
  (.seq (.seq (.region 2 [
    ⟨(some 7), .mov (.t 3), none, []⟩,
    ⟨(some 8), .bin .eql (.t 7) (.c (.d (.int .i64 (3)))), none, []⟩,
    ⟨(some 9), .mov (.t 8), none, []⟩,
    ⟨(some 10), .faddr 1 (.t 1), (some (9, true)), []⟩,
    ⟨(some 11), .load 1 false (.t 10), (some (9, true)), []⟩,
    ⟨(some 12), .call (.c (.fn F_ref06_Plain [])) [(.t 11)], (some (9, true)), []⟩,
    ⟨(some 13), .un .not (.t 12), (some (9, true)), []⟩,
    ⟨(some 14), .pick (.t 9) (.t 13) (.c (.d (.bool false))), none, []⟩] false)
  (.mask ⟨[1, 3, 14], []⟩ (.cond (.t 14)
    (.seq (.region 3 [
      ⟨(some 2), .mov (.c (.d (.bool false))), none, []⟩] false)
    (.mask ⟨[2], []⟩ (.ret)))
    (.skip))))
  (.mask ⟨[1, 3], []⟩ (.seq (.region 4 [
    ⟨(some 15), .mov (.t 3), none, []⟩,
    ⟨(some 16), .bin .eql (.t 15) (.c (.d (.int .i64 (5)))), none, []⟩,
    ⟨(some 17), .mov (.t 16), none, []⟩,
    ⟨(some 18), .mov (.t 3), (some (17, false)), []⟩,
    ⟨(some 19), .bin .eql (.t 18) (.c (.d (.int .i64 (6)))), (some (17, false)), []⟩,
    ⟨(some 20), .pick (.t 17) (.c (.d (.bool true))) (.t 19), none, []⟩,
    ⟨(some 21), .mov (.t 20), none, []⟩,
    ⟨(some 22), .mov (.t 3), (some (21, false)), []⟩,
    ⟨(some 23), .bin .eql (.t 22) (.c (.d (.int .i64 (13)))), (some (21, false)), []⟩,
    ⟨(some 24), .pick (.t 21) (.c (.d (.bool true))) (.t 23), none, []⟩,
    ⟨(some 25), .mov (.t 24), none, []⟩,
    ⟨(some 26), .mov (.t 3), (some (25, false)), []⟩,
    ⟨(some 27), .bin .eql (.t 26) (.c (.d (.int .i64 (21)))), (some (25, false)), []⟩,
    ⟨(some 28), .pick (.t 25) (.c (.d (.bool true))) (.t 27), none, []⟩,
    ⟨(some 4), .mov (.t 28), none, []⟩] false)
  (.mask ⟨[1, 3, 4], []⟩ (.seq (.seq (.region 5 [
    ⟨(some 29), .mov (.t 4), none, []⟩,
    ⟨(some 30), .mov (.t 29), none, []⟩,
    ⟨(some 31), .faddr 1 (.t 1), (some (30, true)), []⟩,
    ⟨(some 32), .load 1 false (.t 31), (some (30, true)), []⟩,
    ⟨(some 33), .call (.c (.fn F_ref06_Name [])) [(.t 32)], (some (30, true)), []⟩,
    ⟨(some 34), .un .not (.t 33), (some (30, true)), []⟩,
    ⟨(some 35), .pick (.t 30) (.t 34) (.c (.d (.bool false))), none, []⟩,
    ⟨(some 36), .mov (.t 35), none, []⟩,
    ⟨(some 37), .mov (.t 4), (some (36, false)), []⟩,
    ⟨(some 38), .un .not (.t 37), (some (36, false)), []⟩,
    ⟨(some 39), .mov (.t 38), (some (36, false)), []⟩,
    ⟨(some 40), .mov (.t 3), (some (39, true)), []⟩,
    ⟨(some 41), .bin .neq (.t 40) (.c (.d (.int .i64 (3)))), (some (39, true)), []⟩,
    ⟨(some 42), .pick (.t 39) (.t 41) (.c (.d (.bool false))), (some (36, false)), []⟩,
    ⟨(some 43), .mov (.t 42), (some (36, false)), []⟩,
    ⟨(some 44), .faddr 1 (.t 1), (some (43, true)), []⟩,
    ⟨(some 45), .load 1 false (.t 44), (some (43, true)), []⟩,
    ⟨(some 46), .bin .neq (.t 45) (.c (.d (.str []))), (some (43, true)), []⟩,
    ⟨(some 47), .pick (.t 43) (.t 46) (.c (.d (.bool false))), (some (36, false)), []⟩,
    ⟨(some 48), .pick (.t 36) (.c (.d (.bool true))) (.t 47), none, []⟩] false)
  (.mask ⟨[1, 3, 48], []⟩ (.cond (.t 48)
    (.seq (.region 6 [
      ⟨(some 2), .mov (.c (.d (.bool false))), none, []⟩] false)
    (.mask ⟨[2], []⟩ (.ret)))
    (.skip))))
  (.mask ⟨[1, 3], []⟩ (.seq (.seq (.region 7 [
    ⟨(some 49), .mov (.t 3), none, []⟩,
    ⟨(some 50), .bin .eql (.t 49) (.c (.d (.int .i64 (1)))), none, []⟩,
    ⟨(some 51), .mov (.t 50), none, []⟩,
    ⟨(some 52), .faddr 2 (.t 1), (some (51, true)), []⟩,
    ⟨(some 53), .load 1 false (.t 52), (some (51, true)), []⟩,
    ⟨(some 54), .bin .lss (.t 53) (.c (.d (.int .i64 (0)))), (some (51, true)), []⟩,
    ⟨(some 55), .pick (.t 51) (.t 54) (.c (.d (.bool false))), none, []⟩,
    ⟨(some 56), .mov (.t 55), none, []⟩,
    ⟨(some 57), .mov (.t 3), (some (56, false)), []⟩,
    ⟨(some 58), .bin .eql (.t 57) (.c (.d (.int .i64 (2)))), (some (56, false)), []⟩,
    ⟨(some 59), .mov (.t 58), (some (56, false)), []⟩,
    ⟨(some 60), .faddr 2 (.t 1), (some (59, true)), []⟩,
    ⟨(some 61), .load 1 false (.t 60), (some (59, true)), []⟩,
    ⟨(some 62), .bin .neq (.t 61) (.c (.d (.int .i64 (0)))), (some (59, true)), []⟩,
    ⟨(some 63), .pick (.t 59) (.t 62) (.c (.d (.bool false))), (some (56, false)), []⟩,
    ⟨(some 64), .mov (.t 63), (some (56, false)), []⟩,
    ⟨(some 65), .faddr 2 (.t 1), (some (64, true)), []⟩,
    ⟨(some 66), .load 1 false (.t 65), (some (64, true)), []⟩,
    ⟨(some 67), .bin .neq (.t 66) (.c (.d (.int .i64 (1)))), (some (64, true)), []⟩,
    ⟨(some 68), .pick (.t 64) (.t 67) (.c (.d (.bool false))), (some (56, false)), []⟩,
    ⟨(some 69), .pick (.t 56) (.c (.d (.bool true))) (.t 68), none, []⟩,
    ⟨(some 70), .mov (.t 69), none, []⟩,
    ⟨(some 71), .mov (.t 3), (some (70, false)), []⟩,
    ⟨(some 72), .bin .neq (.t 71) (.c (.d (.int .i64 (1)))), (some (70, false)), []⟩,
    ⟨(some 73), .mov (.t 72), (some (70, false)), []⟩,
    ⟨(some 74), .mov (.t 3), (some (73, true)), []⟩,
    ⟨(some 75), .bin .neq (.t 74) (.c (.d (.int .i64 (2)))), (some (73, true)), []⟩,
    ⟨(some 76), .pick (.t 73) (.t 75) (.c (.d (.bool false))), (some (70, false)), []⟩,
    ⟨(some 77), .mov (.t 76), (some (70, false)), []⟩,
    ⟨(some 78), .faddr 2 (.t 1), (some (77, true)), []⟩,
    ⟨(some 79), .load 1 false (.t 78), (some (77, true)), []⟩,
    ⟨(some 80), .bin .neq (.t 79) (.c (.d (.int .i64 (0)))), (some (77, true)), []⟩,
    ⟨(some 81), .pick (.t 77) (.t 80) (.c (.d (.bool false))), (some (70, false)), []⟩,
    ⟨(some 82), .pick (.t 70) (.c (.d (.bool true))) (.t 81), none, []⟩] false)
  (.mask ⟨[1, 3, 82], []⟩ (.cond (.t 82)
    (.seq (.region 8 [
      ⟨(some 2), .mov (.c (.d (.bool false))), none, []⟩] false)
    (.mask ⟨[2], []⟩ (.ret)))
    (.skip))))
  (.mask ⟨[1, 3], []⟩ (.seq (.seq (.region 9 [
    ⟨(some 83), .mov (.t 3), none, []⟩,
    ⟨(some 84), .bin .eql (.t 83) (.c (.d (.int .i64 (22)))), none, []⟩,
    ⟨(some 85), .mov (.t 84), none, []⟩,
    ⟨(some 86), .mov (.t 3), (some (85, false)), []⟩,
    ⟨(some 87), .bin .eql (.t 86) (.c (.d (.int .i64 (23)))), (some (85, false)), []⟩,
    ⟨(some 88), .pick (.t 85) (.c (.d (.bool true))) (.t 87), none, []⟩,
    ⟨(some 89), .mov (.t 88), none, []⟩,
    ⟨(some 90), .mov (.t 3), (some (89, false)), []⟩,
    ⟨(some 91), .bin .eql (.t 90) (.c (.d (.int .i64 (24)))), (some (89, false)), []⟩,
    ⟨(some 92), .pick (.t 89) (.c (.d (.bool true))) (.t 91), none, []⟩] false)
  (.mask ⟨[1, 3, 92], []⟩ (.cond (.t 92)
    (.seq (.region 10 [
      ⟨(some 93), .faddr 3 (.t 1), none, []⟩,
      ⟨(some 94), .load 1 false (.t 93), none, []⟩,
      ⟨(some 95), .bin .geq (.t 94) (.c (.d (.int .i64 (0)))), none, []⟩,
      ⟨(some 96), .mov (.t 95), none, []⟩,
      ⟨(some 97), .faddr 4 (.t 1), (some (96, true)), []⟩,
      ⟨(some 98), .load 1 false (.t 97), (some (96, true)), []⟩,
      ⟨(some 99), .bin .eql (.t 98) (.c (.d (.int .i64 (-1)))), (some (96, true)), []⟩,
      ⟨(some 100), .mov (.t 99), (some (96, true)), []⟩,
      ⟨(some 101), .faddr 4 (.t 1), (some (100, false)), []⟩,
      ⟨(some 102), .load 1 false (.t 101), (some (100, false)), []⟩,
      ⟨(some 103), .faddr 3 (.t 1), (some (100, false)), []⟩,
      ⟨(some 104), .load 1 false (.t 103), (some (100, false)), []⟩,
      ⟨(some 105), .bin .geq (.t 102) (.t 104), (some (100, false)), []⟩,
      ⟨(some 106), .pick (.t 100) (.c (.d (.bool true))) (.t 105), (some (96, true)), []⟩,
      ⟨(some 107), .pick (.t 96) (.t 106) (.c (.d (.bool false))), none, []⟩,
      ⟨(some 2), .mov (.t 107), none, []⟩] false)
    (.mask ⟨[2], []⟩ (.ret)))
    (.skip))))
  (.mask ⟨[1, 3], []⟩ (.seq (.seq (.region 11 [
    ⟨(some 108), .mov (.t 3), none, []⟩,
    ⟨(some 109), .bin .eql (.t 108) (.c (.d (.int .i64 (13)))), none, []⟩] false)
  (.cond (.t 109)
    (.seq (.region 12 [
      ⟨(some 110), .faddr 3 (.t 1), none, []⟩,
      ⟨(some 111), .load 1 false (.t 110), none, []⟩,
      ⟨(some 112), .bin .eql (.t 111) (.c (.d (.int .i64 (0)))), none, []⟩,
      ⟨(some 113), .mov (.t 112), none, []⟩,
      ⟨(some 114), .faddr 4 (.t 1), (some (113, true)), []⟩,
      ⟨(some 115), .load 1 false (.t 114), (some (113, true)), []⟩,
      ⟨(some 116), .bin .geq (.t 115) (.c (.d (.int .i64 (0)))), (some (113, true)), []⟩,
      ⟨(some 117), .pick (.t 113) (.t 116) (.c (.d (.bool false))), none, []⟩,
      ⟨(some 2), .mov (.t 117), none, []⟩] false)
    (.mask ⟨[2], []⟩ (.ret)))
    (.skip)))
  (.mask ⟨[1], []⟩ (.seq (.region 13 [
    ⟨(some 118), .faddr 3 (.t 1), none, []⟩,
    ⟨(some 119), .load 1 false (.t 118), none, []⟩,
    ⟨(some 120), .bin .eql (.t 119) (.c (.d (.int .i64 (0)))), none, []⟩,
    ⟨(some 121), .mov (.t 120), none, []⟩,
    ⟨(some 122), .faddr 4 (.t 1), (some (121, true)), []⟩,
    ⟨(some 123), .load 1 false (.t 122), (some (121, true)), []⟩,
    ⟨(some 124), .bin .eql (.t 123) (.c (.d (.int .i64 (0)))), (some (121, true)), []⟩,
    ⟨(some 125), .pick (.t 121) (.t 124) (.c (.d (.bool false))), none, []⟩,
    ⟨(some 2), .mov (.t 125), none, []⟩] false)
  (.mask ⟨[2], []⟩ (.ret))))))))))))))))⟩
/-- beadle/beadleref04.Byte -/
def code_ref04_Byte : AFunc := ⟨21, [.tmp 2, .cell 3 3 true],
  .seq (.region 0 [
    ⟨(some 1), .box 3 (.t 0), none, []⟩,
    ⟨(some 2), .mov (.c (.d (.int .i64 (0)))), none, []⟩,
    ⟨(some 3), .box 3 (.c (.agg [(.d (.vs true [])), (.d (.int .i64 (0))), (.d (.bool false))])), none, []⟩] false)
  (.seq (.region 1 [
    ⟨(some 7), .load 3 true (.t 1), none, []⟩,
    ⟨(some 8), .call (.c (.fn F_ref04_take [])) [(.t 7), (.c (.d (.int .i64 (1))))], none, []⟩,
    ⟨(some 6), .mov (.t 8), none, []⟩,
    ⟨(some 9), .extract (.t 6) 0, none, []⟩,
    ⟨(some 10), .extract (.t 6) 1, none, []⟩,
    ⟨(some 5), .box 3 (.c (.agg [(.d (.vs true [])), (.d (.int .i64 (0))), (.d (.bool false))])), none, []⟩,
    ⟨(some 4), .mov (.t 9), none, []⟩,
    ⟨none, .store 3 (.t 5) (.t 10), none, []⟩] false)
  (.seq (.seq (.region 2 [
    ⟨(some 11), .faddr 2 (.t 5), none, []⟩,
    ⟨(some 12), .load 1 false (.t 11), none, []⟩] false)
  (.cond (.t 12)
    (.seq (.region 3 [
      ⟨(some 13), .load 3 true (.t 5), none, []⟩,
      ⟨(some 2), .mov (.c (.d (.int .i64 (0)))), none, []⟩,
      ⟨none, .store 3 (.t 3) (.t 13), none, [0, 1]⟩] true)
    (.mask ⟨[2, 3], []⟩ (.ret)))
    (.skip)))
  (.mask ⟨[1, 3, 4, 5], []⟩ (.seq (.region 4 [
    ⟨(some 14), .faddr 0 (.t 1), none, []⟩,
    ⟨(some 15), .load 1 false (.t 14), none, [0]⟩,
    ⟨(some 16), .mov (.t 4), none, []⟩,
    ⟨(some 17), .iaddr 1 (.t 15) (.t 16), none, [0, 1, 2]⟩,
    ⟨(some 18), .load 1 false (.t 17), none, [0, 1, 2, 3]⟩,
    ⟨(some 19), .toInt .i64 (.t 18), none, [0, 1, 2, 3, 4]⟩,
    ⟨(some 20), .load 3 true (.t 5), none, []⟩,
    ⟨(some 2), .mov (.t 19), none, [0, 1, 2, 3, 4, 5]⟩,
    ⟨none, .store 3 (.t 3) (.t 20), none, [0, 1, 2, 3, 4, 5, 6, 7]⟩] true)
  (.mask ⟨[2, 3], []⟩ (.ret))))))⟩
def mask_ref13_row_0 : Mask := ⟨[1, 2, 3, 8, 10, 11], [.cell 80060 6 28006060 1, .cell 80060 5 28006050 1]⟩
def body_ref13_row_0 : ACode :=
  .seq (.seq (.region 10 [
    ⟨(some 50), .mov (.t 11), none, []⟩,
    ⟨(some 51), .mov (.t 8), none, []⟩,
    ⟨(some 52), .bin .lss (.t 50) (.t 51), none, []⟩,
    ⟨(some 53), .mov (.t 52), none, []⟩,
    ⟨(some 54), .faddr 2 (.t 1), (some (53, true)), []⟩,
    ⟨(some 55), .load 1 false (.t 54), (some (53, true)), []⟩,
    ⟨(some 56), .un .not (.t 55), (some (53, true)), []⟩,
    ⟨(some 57), .pick (.t 53) (.t 56) (.c (.d (.bool false))), none, []⟩] false)
  (.mask ⟨[1, 2, 3, 8, 10, 11, 57], [.cell 80060 6 28006060 1, .cell 80060 5 28006050 1]⟩ (.cond (.t 57)
    (.skip)
    (.mask ⟨[1, 2, 3, 10], [.cell 80060 6 28006060 1, .cell 80060 5 28006050 1]⟩ (.exit 0)))))
  (.mask ⟨[1, 2, 3, 8, 10, 11], [.cell 80060 6 28006060 1, .cell 80060 5 28006050 1]⟩ (.seq (.block 1 (.seq (.region 12 [
    ⟨(some 61), .load 3 true (.t 1), none, []⟩,
    ⟨(some 62), .call (.c (.fn F_ref04_Words [])) [(.t 61)], none, []⟩,
    ⟨(some 60), .mov (.t 62), none, []⟩,
    ⟨(some 63), .extract (.t 60) 0, none, []⟩,
    ⟨(some 64), .extract (.t 60) 1, none, []⟩,
    ⟨(some 9), .mov (.t 63), none, []⟩,
    ⟨none, .store 3 (.t 1) (.t 64), none, []⟩] false)
  (.region 13 [
    ⟨(some 65), .faddr 5 (.t 10), none, []⟩,
    ⟨(some 66), .load 1 false (.t 65), none, []⟩,
    ⟨(some 67), .mov (.t 9), none, []⟩,
    ⟨(some 68), .buildSl 1 [(.str [])] 1 [(0, (.t 67))], none, []⟩,
    ⟨(some 69), .append 1 (.t 66) (.t 68), none, []⟩,
    ⟨(some 70), .faddr 5 (.t 10), none, []⟩,
    ⟨none, .store 1 (.t 70) (.t 69), none, []⟩] false)))
  (.mask ⟨[1, 2, 3, 8, 10, 11], [.cell 80060 6 28006060 1, .cell 80060 5 28006050 1]⟩ (.region 11 [
    ⟨(some 58), .mov (.t 11), none, []⟩,
    ⟨(some 59), .bin .add (.t 58) (.c (.d (.int .i64 (1)))), none, []⟩,
    ⟨(some 11), .mov (.t 59), none, []⟩] false))))
def mask_ref13_row_1 : Mask := ⟨[1, 2, 3, 8, 10, 12], [.cell 80060 6 28006060 1, .cell 80060 5 28006050 1]⟩
def body_ref13_row_1 : ACode :=
  .seq (.seq (.region 16 [
    ⟨(some 76), .mov (.t 12), none, []⟩,
    ⟨(some 77), .mov (.t 8), none, []⟩,
    ⟨(some 78), .bin .lss (.t 76) (.t 77), none, []⟩,
    ⟨(some 79), .mov (.t 78), none, []⟩,
    ⟨(some 80), .faddr 2 (.t 1), (some (79, true)), []⟩,
    ⟨(some 81), .load 1 false (.t 80), (some (79, true)), []⟩,
    ⟨(some 82), .un .not (.t 81), (some (79, true)), []⟩,
    ⟨(some 83), .pick (.t 79) (.t 82) (.c (.d (.bool false))), none, []⟩] false)
  (.mask ⟨[1, 2, 3, 8, 10, 12, 83], [.cell 80060 6 28006060 1, .cell 80060 5 28006050 1]⟩ (.cond (.t 83)
    (.skip)
    (.mask ⟨[1, 2, 3, 10], [.cell 80060 6 28006060 1, .cell 80060 5 28006050 1]⟩ (.exit 2)))))
  (.mask ⟨[1, 2, 3, 8, 10, 12], [.cell 80060 6 28006060 1, .cell 80060 5 28006050 1]⟩ (.seq (.block 3 (.seq (.region 18 [
    ⟨(some 13), .mov (.c (.d (.int .i64 (0)))), none, []⟩] false)
  (.seq (.region 19 [
    ⟨(some 87), .load 3 true (.t 1), none, []⟩,
    ⟨(some 88), .call (.c (.fn F_ref04_Byte [])) [(.t 87)], none, []⟩,
    ⟨(some 86), .mov (.t 88), none, []⟩,
    ⟨(some 89), .extract (.t 86) 0, none, []⟩,
    ⟨(some 90), .extract (.t 86) 1, none, []⟩,
    ⟨(some 13), .mov (.t 89), none, []⟩,
    ⟨none, .store 3 (.t 1) (.t 90), none, []⟩] false)
  (.region 20 [
    ⟨(some 91), .faddr 6 (.t 10), none, []⟩,
    ⟨(some 92), .load 1 false (.t 91), none, []⟩,
    ⟨(some 93), .mov (.t 13), none, []⟩,
    ⟨(some 94), .buildSl 1 [(.int .i64 (0))] 1 [(0, (.t 93))], none, []⟩,
    ⟨(some 95), .append 1 (.t 92) (.t 94), none, []⟩,
    ⟨(some 96), .faddr 6 (.t 10), none, []⟩,
    ⟨none, .store 1 (.t 96) (.t 95), none, []⟩] false))))
  (.mask ⟨[1, 2, 3, 8, 10, 12], [.cell 80060 6 28006060 1, .cell 80060 5 28006050 1]⟩ (.region 17 [
    ⟨(some 84), .mov (.t 12), none, []⟩,
    ⟨(some 85), .bin .add (.t 84) (.c (.d (.int .i64 (1)))), none, []⟩,
    ⟨(some 12), .mov (.t 85), none, []⟩] false))))
/-- beadle/beadleref13.row -/
def code_ref13_row : AFunc := ⟨99, [.cell 2 7 true, .cell 3 3 true],
  .seq (.region 0 [
    ⟨(some 1), .box 3 (.t 0), none, []⟩,
    ⟨(some 2), .box 7 (.c (.agg [(.d (.int .i64 (0))), (.d (.str [])), (.d (.int .i64 (0))), (.d (.int .i64 (0))), (.d (.int .i64 (0))), (.d (.vs true [])), (.d (.vs true []))])), none, []⟩,
    ⟨(some 3), .box 3 (.c (.agg [(.d (.vs true [])), (.d (.int .i64 (0))), (.d (.bool false))])), none, []⟩] false)
  (.seq (.region 1 [
    ⟨(some 4), .mov (.c (.d (.int .i64 (0)))), none, []⟩,
    ⟨(some 5), .mov (.c (.d (.int .i64 (0)))), none, []⟩,
    ⟨(some 6), .mov (.c (.d (.int .i64 (0)))), none, []⟩,
    ⟨(some 7), .mov (.c (.d (.int .i64 (0)))), none, []⟩,
    ⟨(some 8), .mov (.c (.d (.int .i64 (0)))), none, []⟩,
    ⟨(some 9), .mov (.c (.d (.str []))), none, []⟩] false)
  (.seq (.region 2 [
    ⟨(some 15), .load 3 true (.t 1), none, []⟩,
    ⟨(some 16), .call (.c (.fn F_ref04_Byte [])) [(.t 15)], none, []⟩,
    ⟨(some 14), .mov (.t 16), none, []⟩,
    ⟨(some 17), .extract (.t 14) 0, none, []⟩,
    ⟨(some 18), .extract (.t 14) 1, none, []⟩,
    ⟨(some 4), .mov (.t 17), none, []⟩,
    ⟨none, .store 3 (.t 1) (.t 18), none, []⟩] false)
  (.seq (.region 3 [
    ⟨(some 20), .load 3 true (.t 1), none, []⟩,
    ⟨(some 21), .call (.c (.fn F_ref04_Words [])) [(.t 20)], none, []⟩,
    ⟨(some 19), .mov (.t 21), none, []⟩,
    ⟨(some 22), .extract (.t 19) 0, none, []⟩,
    ⟨(some 23), .extract (.t 19) 1, none, []⟩,
    ⟨(some 9), .mov (.t 22), none, []⟩,
    ⟨none, .store 3 (.t 1) (.t 23), none, []⟩] false)
  (.seq (.region 4 [
    ⟨(some 25), .load 3 true (.t 1), none, []⟩,
    ⟨(some 26), .call (.c (.fn F_ref04_Number [])) [(.t 25)], none, []⟩,
    ⟨(some 24), .mov (.t 26), none, []⟩,
    ⟨(some 27), .extract (.t 24) 0, none, []⟩,
    ⟨(some 28), .extract (.t 24) 1, none, []⟩,
    ⟨(some 5), .mov (.t 27), none, []⟩,
    ⟨none, .store 3 (.t 1) (.t 28), none, []⟩] false)
  (.seq (.region 5 [
    ⟨(some 30), .load 3 true (.t 1), none, []⟩,
    ⟨(some 31), .call (.c (.fn F_ref04_Number [])) [(.t 30)], none, []⟩,
    ⟨(some 29), .mov (.t 31), none, []⟩,
    ⟨(some 32), .extract (.t 29) 0, none, []⟩,
    ⟨(some 33), .extract (.t 29) 1, none, []⟩,
    ⟨(some 6), .mov (.t 32), none, []⟩,
    ⟨none, .store 3 (.t 1) (.t 33), none, []⟩] false)
  (.seq (.region 6 [
    ⟨(some 35), .load 3 true (.t 1), none, []⟩,
    ⟨(some 36), .call (.c (.fn F_ref04_Number [])) [(.t 35)], none, []⟩,
    ⟨(some 34), .mov (.t 36), none, []⟩,
    ⟨(some 37), .extract (.t 34) 0, none, []⟩,
    ⟨(some 38), .extract (.t 34) 1, none, []⟩,
    ⟨(some 7), .mov (.t 37), none, []⟩,
    ⟨none, .store 3 (.t 1) (.t 38), none, []⟩] false)
  (.seq (.region 7 [
    ⟨(some 39), .mov (.t 4), none, []⟩,
    ⟨(some 40), .mov (.t 9), none, []⟩,
    ⟨(some 41), .mov (.t 5), none, []⟩,
    ⟨(some 42), .mov (.t 6), none, []⟩,
    ⟨(some 43), .mov (.t 7), none, []⟩,
    ⟨(some 44), .build [(.d (.int .i64 (0))), (.d (.str [])), (.d (.int .i64 (0))), (.d (.int .i64 (0))), (.d (.int .i64 (0))), (.d (.vs true [])), (.d (.vs true []))] [(0, 1, (.t 39)), (1, 1, (.t 40)), (2, 1, (.t 41)), (3, 1, (.t 42)), (4, 1, (.t 43))], none, []⟩,
    ⟨(some 10), .box 7 (.c (.agg [(.d (.int .i64 (0))), (.d (.str [])), (.d (.int .i64 (0))), (.d (.int .i64 (0))), (.d (.int .i64 (0))), (.d (.vs true [])), (.d (.vs true []))])), none, []⟩,
    ⟨none, .store 7 (.t 10) (.t 44), none, []⟩] false)
  (.seq (.region 8 [
    ⟨(some 46), .load 3 true (.t 1), none, []⟩,
    ⟨(some 47), .call (.c (.fn F_ref04_Byte [])) [(.t 46)], none, []⟩,
    ⟨(some 45), .mov (.t 47), none, []⟩,
    ⟨(some 48), .extract (.t 45) 0, none, []⟩,
    ⟨(some 49), .extract (.t 45) 1, none, []⟩,
    ⟨(some 8), .mov (.t 48), none, []⟩,
    ⟨none, .store 3 (.t 1) (.t 49), none, []⟩] false)
  (.seq (.seq (.region 9 [
    ⟨(some 11), .mov (.c (.d (.int .i64 (0)))), none, []⟩] false)
  (.block 0 (.loop mask_ref13_row_0 body_ref13_row_0)))
  (.mask ⟨[1, 2, 3, 10], [.cell 80060 6 28006060 1, .cell 80060 5 28006050 1]⟩ (.seq (.region 14 [
    ⟨(some 72), .load 3 true (.t 1), none, []⟩,
    ⟨(some 73), .call (.c (.fn F_ref04_Byte [])) [(.t 72)], none, []⟩,
    ⟨(some 71), .mov (.t 73), none, []⟩,
    ⟨(some 74), .extract (.t 71) 0, none, []⟩,
    ⟨(some 75), .extract (.t 71) 1, none, []⟩,
    ⟨(some 8), .mov (.t 74), none, []⟩,
    ⟨none, .store 3 (.t 1) (.t 75), none, []⟩] false)
  (.seq (.seq (.region 15 [
    ⟨(some 12), .mov (.c (.d (.int .i64 (0)))), none, []⟩] false)
  (.block 2 (.loop mask_ref13_row_1 body_ref13_row_1)))
  (.mask ⟨[1, 2, 3, 10], [.cell 80060 6 28006060 1, .cell 80060 5 28006050 1]⟩ (.seq (.region 21 [
    ⟨(some 97), .load 7 true (.t 10), none, []⟩,
    ⟨(some 98), .load 3 true (.t 1), none, []⟩,
    ⟨none, .store 7 (.t 2) (.t 97), none, [0]⟩,
    ⟨none, .store 3 (.t 3) (.t 98), none, [0, 1, 2]⟩] true)
  (.mask ⟨[2, 3], [.cell 80060 6 28006060 1, .cell 80060 5 28006050 1]⟩ (.ret))))))))))))))))⟩
/-- beadle/beadleref04.Left -/
def code_ref04_Left : AFunc := ⟨11, [.tmp 2],
  .seq (.region 0 [
    ⟨(some 1), .box 3 (.t 0), none, []⟩,
    ⟨(some 2), .mov (.c (.d (.int .i64 (0)))), none, []⟩] false)
  (.seq (.seq (.region 1 [
    ⟨(some 3), .faddr 2 (.t 1), none, []⟩,
    ⟨(some 4), .load 1 false (.t 3), none, []⟩] false)
  (.cond (.t 4)
    (.seq (.region 2 [
      ⟨(some 2), .mov (.c (.d (.int .i64 (0)))), none, []⟩] false)
    (.mask ⟨[2], []⟩ (.ret)))
    (.skip)))
  (.mask ⟨[1], []⟩ (.seq (.region 3 [
    ⟨(some 5), .faddr 0 (.t 1), none, []⟩,
    ⟨(some 6), .load 1 false (.t 5), none, []⟩,
    ⟨(some 7), .len .sl (.t 6), none, []⟩,
    ⟨(some 8), .faddr 1 (.t 1), none, []⟩,
    ⟨(some 9), .load 1 false (.t 8), none, []⟩,
    ⟨(some 10), .bin .sub (.t 7) (.t 9), none, []⟩,
    ⟨(some 2), .mov (.t 10), none, []⟩] false)
  (.mask ⟨[2], []⟩ (.ret)))))⟩
/-- beadle/octet.Open -/
def code_octet_Open : AFunc := ⟨8, [.tmp 2],
  .seq (.region 0 [
    ⟨(some 2), .mov (.c (.d .nilp)), none, []⟩] false)
  (.mask ⟨[0], [.fcell 20040 0]⟩ (.seq (.region 1 [
    ⟨(some 3), .buildSl 1 [(.int .u8 (0))] 0 [], none, []⟩,
    ⟨(some 4), .mov (.t 0), none, []⟩,
    ⟨(some 5), .append 1 (.t 3) (.t 4), none, []⟩,
    ⟨(some 6), .build [(.d (.vs true [])), (.d (.bool false)), (.d (.int .i64 (0)))] [(0, 1, (.t 5)), (1, 1, (.c (.d (.bool true))))], none, []⟩,
    ⟨(some 7), .box 3 (.t 6), none, []⟩,
    ⟨(some 2), .mov (.t 7), none, []⟩] false)
  (.mask ⟨[2], [.fcell 20040 0]⟩ (.ret))))⟩
def mask_octet_In_Byte_0 : Mask := ⟨[6, 7, 8], []⟩
def body_octet_In_Byte_0 : ACode :=
  .seq (.region 2 [
    ⟨(some 9), .bin .lss (.t 8) (.t 7), none, []⟩] false)
  (.seq (.cond (.t 9)
    (.skip)
    (.mask ⟨[], []⟩ (.exit 0)))
  (.mask ⟨[6, 8], []⟩ (.seq (.block 1 (.seq (.region 3 [
    ⟨(some 10), .iaddr 1 (.t 6) (.t 8), none, []⟩,
    ⟨(some 11), .load 1 false (.t 10), none, []⟩,
    ⟨(some 4), .mov (.t 11), none, []⟩] false)
  (.seq (.region 4 [
    ⟨(some 12), .mov (.t 4), none, []⟩,
    ⟨(some 13), .toInt .i64 (.t 12), none, []⟩,
    ⟨(some 2), .mov (.t 13), none, []⟩] false)
  (.mask ⟨[2], []⟩ (.ret)))))
  (.mask ⟨[6, 7, 8], []⟩ (.region 5 [
    ⟨(some 14), .bin .add (.t 8) (.c (.d (.int .i64 (1)))), none, []⟩,
    ⟨(some 8), .mov (.t 14), none, []⟩] false)))))
/-- (*beadle/octet.In).Byte -/
def code_octet_In_Byte : AFunc := ⟨15, [.tmp 2],
  .seq (.region 0 [
    ⟨(some 2), .mov (.c (.d (.int .i64 (0)))), none, []⟩] false)
  (.seq (.seq (.region 1 [
    ⟨(some 5), .mov (.t 0), none, []⟩,
    ⟨(some 6), .call (.c (.fn F_octet_In_take [])) [(.t 5), (.c (.d (.int .i64 (1))))], none, []⟩,
    ⟨(some 7), .len .sl (.t 6), none, []⟩,
    ⟨(some 8), .mov (.c (.d (.int .i64 (0)))), none, []⟩] false)
  (.block 0 (.loop mask_octet_In_Byte_0 body_octet_In_Byte_0)))
  (.mask ⟨[], []⟩ (.seq (.region 6 [
    ⟨(some 2), .mov (.c (.d (.int .i64 (0)))), none, []⟩] false)
  (.mask ⟨[2], []⟩ (.ret)))))⟩
def mask_pack_get_0 : Mask := ⟨[0, 2, 3, 16, 17], [.cell 20110 6 22011060 1, .cell 20110 5 22011050 1]⟩
def body_pack_get_0 : ACode :=
  .seq (.region 3 [
    ⟨(some 18), .bin .lss (.t 17) (.t 16), none, []⟩] false)
  (.seq (.cond (.t 18)
    (.skip)
    (.mask ⟨[0, 2, 3], [.cell 20110 6 22011060 1, .cell 20110 5 22011050 1]⟩ (.exit 0)))
  (.mask ⟨[0, 2, 3, 16, 17], [.cell 20110 6 22011060 1, .cell 20110 5 22011050 1]⟩ (.seq (.block 1 (.region 4 [
    ⟨(some 19), .faddr 5 (.t 3), none, []⟩,
    ⟨(some 20), .load 1 false (.t 19), none, [0]⟩,
    ⟨(some 21), .mov (.t 0), none, []⟩,
    ⟨(some 22), .call (.c (.fn F_octet_In_Text [])) [(.t 21)], none, [2]⟩,
    ⟨(some 23), .buildSl 1 [(.str [])] 1 [(0, (.t 22))], none, [2, 3]⟩,
    ⟨(some 24), .append 1 (.t 20) (.t 23), none, [0, 1, 2, 3, 4]⟩,
    ⟨(some 25), .faddr 5 (.t 3), none, [0, 1, 2, 3, 4, 5]⟩,
    ⟨none, .store 1 (.t 25) (.t 24), none, [0, 1, 2, 3, 4, 5, 6]⟩] true))
  (.mask ⟨[0, 2, 3, 16, 17], [.cell 20110 6 22011060 1, .cell 20110 5 22011050 1]⟩ (.region 5 [
    ⟨(some 26), .bin .add (.t 17) (.c (.d (.int .i64 (1)))), none, []⟩,
    ⟨(some 17), .mov (.t 26), none, []⟩] false)))))
def mask_pack_get_1 : Mask := ⟨[0, 2, 3, 28, 29], [.cell 20110 6 22011060 1, .cell 20110 5 22011050 1]⟩
def body_pack_get_1 : ACode :=
  .seq (.region 7 [
    ⟨(some 30), .bin .lss (.t 29) (.t 28), none, []⟩] false)
  (.seq (.cond (.t 30)
    (.skip)
    (.mask ⟨[2, 3], [.cell 20110 6 22011060 1, .cell 20110 5 22011050 1]⟩ (.exit 2)))
  (.mask ⟨[0, 2, 3, 28, 29], [.cell 20110 6 22011060 1, .cell 20110 5 22011050 1]⟩ (.seq (.block 3 (.region 8 [
    ⟨(some 31), .faddr 6 (.t 3), none, []⟩,
    ⟨(some 32), .load 1 false (.t 31), none, [0]⟩,
    ⟨(some 33), .mov (.t 0), none, []⟩,
    ⟨(some 34), .call (.c (.fn F_octet_In_Byte [])) [(.t 33)], none, [2]⟩,
    ⟨(some 35), .buildSl 1 [(.int .i64 (0))] 1 [(0, (.t 34))], none, [2, 3]⟩,
    ⟨(some 36), .append 1 (.t 32) (.t 35), none, [0, 1, 2, 3, 4]⟩,
    ⟨(some 37), .faddr 6 (.t 3), none, [0, 1, 2, 3, 4, 5]⟩,
    ⟨none, .store 1 (.t 37) (.t 36), none, [0, 1, 2, 3, 4, 5, 6]⟩] true))
  (.mask ⟨[0, 2, 3, 28, 29], [.cell 20110 6 22011060 1, .cell 20110 5 22011050 1]⟩ (.region 9 [
    ⟨(some 38), .bin .add (.t 29) (.c (.d (.int .i64 (1)))), none, []⟩,
    ⟨(some 29), .mov (.t 38), none, []⟩] false)))))
/-- beadle/pack.get -/
def code_pack_get : AFunc := ⟨40, [.cell 2 7 true],
  .seq (.region 0 [
    ⟨(some 2), .box 7 (.c (.agg [(.d (.int .i64 (0))), (.d (.str [])), (.d (.int .i64 (0))), (.d (.int .i64 (0))), (.d (.int .i64 (0))), (.d (.vs true [])), (.d (.vs true []))])), none, []⟩] false)
  (.seq (.region 1 [
    ⟨(some 4), .mov (.t 0), none, []⟩,
    ⟨(some 5), .call (.c (.fn F_octet_In_Byte [])) [(.t 4)], none, []⟩,
    ⟨(some 6), .mov (.t 0), none, []⟩,
    ⟨(some 7), .call (.c (.fn F_octet_In_Text [])) [(.t 6)], none, []⟩,
    ⟨(some 8), .mov (.t 0), none, []⟩,
    ⟨(some 9), .call (.c (.fn F_octet_In_Int [])) [(.t 8)], none, []⟩,
    ⟨(some 10), .mov (.t 0), none, []⟩,
    ⟨(some 11), .call (.c (.fn F_octet_In_Int [])) [(.t 10)], none, []⟩,
    ⟨(some 12), .mov (.t 0), none, []⟩,
    ⟨(some 13), .call (.c (.fn F_octet_In_Int [])) [(.t 12)], none, []⟩,
    ⟨(some 14), .build [(.d (.int .i64 (0))), (.d (.str [])), (.d (.int .i64 (0))), (.d (.int .i64 (0))), (.d (.int .i64 (0))), (.d (.vs true [])), (.d (.vs true []))] [(0, 1, (.t 5)), (1, 1, (.t 7)), (2, 1, (.t 9)), (3, 1, (.t 11)), (4, 1, (.t 13))], none, []⟩,
    ⟨(some 3), .box 7 (.c (.agg [(.d (.int .i64 (0))), (.d (.str [])), (.d (.int .i64 (0))), (.d (.int .i64 (0))), (.d (.int .i64 (0))), (.d (.vs true [])), (.d (.vs true []))])), none, []⟩,
    ⟨none, .store 7 (.t 3) (.t 14), none, []⟩] false)
  (.seq (.seq (.region 2 [
    ⟨(some 15), .mov (.t 0), none, []⟩,
    ⟨(some 16), .call (.c (.fn F_octet_In_Byte [])) [(.t 15)], none, []⟩,
    ⟨(some 17), .mov (.c (.d (.int .i64 (0)))), none, []⟩] false)
  (.block 0 (.loop mask_pack_get_0 body_pack_get_0)))
  (.mask ⟨[0, 2, 3], [.cell 20110 6 22011060 1, .cell 20110 5 22011050 1]⟩ (.seq (.seq (.region 6 [
    ⟨(some 27), .mov (.t 0), none, []⟩,
    ⟨(some 28), .call (.c (.fn F_octet_In_Byte [])) [(.t 27)], none, []⟩,
    ⟨(some 29), .mov (.c (.d (.int .i64 (0)))), none, []⟩] false)
  (.block 2 (.loop mask_pack_get_1 body_pack_get_1)))
  (.mask ⟨[2, 3], [.cell 20110 6 22011060 1, .cell 20110 5 22011050 1]⟩ (.seq (.region 10 [
    ⟨(some 39), .load 7 true (.t 3), none, []⟩,
    ⟨none, .store 7 (.t 2) (.t 39), none, []⟩] false)
  (.mask ⟨[2], [.cell 20110 6 22011060 1, .cell 20110 5 22011050 1]⟩ (.ret))))))))⟩
/-- (*beadle/octet.In).Err -/
def code_octet_In_Err : AFunc := ⟨16, [.tmp 2],
  .seq (.region 0 [
    ⟨(some 2), .mov (.c (.d (.int .i64 (0)))), none, []⟩] false)
  (.seq (.seq (.region 1 [
    ⟨(some 3), .mov (.t 0), none, []⟩,
    ⟨(some 4), .isnil .p false (.t 3), none, []⟩,
    ⟨(some 5), .mov (.t 4), none, []⟩,
    ⟨(some 6), .mov (.t 0), (some (5, false)), []⟩,
    ⟨(some 7), .nilchk (.t 6), (some (5, false)), []⟩,
    ⟨(some 8), .faddr 1 (.t 7), (some (5, false)), []⟩,
    ⟨(some 9), .load 1 false (.t 8), (some (5, false)), []⟩,
    ⟨(some 10), .un .not (.t 9), (some (5, false)), []⟩,
    ⟨(some 11), .pick (.t 5) (.c (.d (.bool true))) (.t 10), none, []⟩] false)
  (.mask ⟨[0, 11], []⟩ (.cond (.t 11)
    (.seq (.region 2 [
      ⟨(some 2), .mov (.c (.d (.int .i64 (9)))), none, []⟩] false)
    (.mask ⟨[2], []⟩ (.ret)))
    (.skip))))
  (.mask ⟨[0], []⟩ (.seq (.region 3 [
    ⟨(some 12), .mov (.t 0), none, []⟩,
    ⟨(some 13), .nilchk (.t 12), none, []⟩,
    ⟨(some 14), .faddr 2 (.t 13), none, []⟩,
    ⟨(some 15), .load 1 false (.t 14), none, []⟩,
    ⟨(some 2), .mov (.t 15), none, []⟩] false)
  (.mask ⟨[2], []⟩ (.ret)))))⟩
/-- (*beadle/octet.In).Left -/
def code_octet_In_Left : AFunc := ⟨10, [.tmp 2],
  .seq (.region 0 [
    ⟨(some 2), .mov (.c (.d (.int .i64 (0)))), none, []⟩] false)
  (.seq (.seq (.region 1 [
    ⟨(some 3), .mov (.t 0), none, []⟩,
    ⟨(some 4), .isnil .p false (.t 3), none, []⟩] false)
  (.cond (.t 4)
    (.seq (.region 2 [
      ⟨(some 2), .mov (.c (.d (.int .i64 (0)))), none, []⟩] false)
    (.mask ⟨[2], []⟩ (.ret)))
    (.skip)))
  (.mask ⟨[0], []⟩ (.seq (.region 3 [
    ⟨(some 5), .mov (.t 0), none, []⟩,
    ⟨(some 6), .nilchk (.t 5), none, []⟩,
    ⟨(some 7), .faddr 0 (.t 6), none, []⟩,
    ⟨(some 8), .load 1 false (.t 7), none, []⟩,
    ⟨(some 9), .len .sl (.t 8), none, []⟩,
    ⟨(some 2), .mov (.t 9), none, []⟩] false)
  (.mask ⟨[2], []⟩ (.ret)))))⟩
def mask_table_Back_0 : Mask := ⟨[0, 2, 4, 9, 10, 11], [.slot 4 10000040 6]⟩
def body_table_Back_0 : ACode :=
  .seq (.region 3 [
    ⟨(some 12), .bin .lss (.t 11) (.t 10), none, []⟩] false)
  (.seq (.cond (.t 12)
    (.skip)
    (.mask ⟨[0, 2, 4], [.slot 4 10000040 6]⟩ (.exit 0)))
  (.mask ⟨[0, 2, 4, 9, 10, 11], [.slot 4 10000040 6]⟩ (.seq (.block 1 (.seq (.region 4 [
    ⟨(some 13), .iaddr 7 (.t 9) (.t 11), none, []⟩,
    ⟨(some 14), .load 7 true (.t 13), none, []⟩,
    ⟨(some 6), .box 7 (.c (.agg [(.d (.int .i64 (0))), (.d (.str [])), (.d (.int .i64 (0))), (.d (.int .i64 (0))), (.d (.int .i64 (0))), (.d (.vs true [])), (.d (.vs true []))])), none, []⟩,
    ⟨none, .store 7 (.t 6) (.t 14), none, []⟩] false)
  (.seq (.region 5 [
    ⟨(some 16), .load 7 true (.t 6), none, []⟩,
    ⟨(some 17), .mov (.t 4), none, []⟩,
    ⟨(some 18), .call (.c (.fn F_table_back [])) [(.t 16), (.t 17)], none, []⟩,
    ⟨(some 15), .mov (.t 18), none, []⟩,
    ⟨(some 19), .extract (.t 15) 0, none, []⟩,
    ⟨(some 20), .extract (.t 15) 1, none, []⟩,
    ⟨(some 7), .box 6 (.c (.agg [(.d (.int .i64 (0))), (.d (.str [])), (.d (.int .i64 (0))), (.d (.int .i64 (0))), (.d (.int .i64 (0))), (.d (.vs true []))])), none, []⟩,
    ⟨none, .store 6 (.t 7) (.t 19), none, []⟩,
    ⟨(some 8), .mov (.t 20), none, []⟩] false)
  (.seq (.seq (.region 6 [
    ⟨(some 21), .mov (.t 8), none, []⟩,
    ⟨(some 22), .un .not (.t 21), none, []⟩] false)
  (.cond (.t 22)
    (.seq (.region 7 [
      ⟨(some 23), .build [(.d (.int .i64 (0))), (.d (.str [])), (.d (.int .i64 (0))), (.d (.int .i64 (0))), (.d (.int .i64 (0))), (.d (.vs true []))] [], none, []⟩,
      ⟨none, .store 6 (.t 2) (.t 23), none, []⟩,
      ⟨(some 3), .mov (.c (.d (.int .i64 (16)))), none, []⟩] false)
    (.mask ⟨[2, 3], []⟩ (.ret)))
    (.skip)))
  (.mask ⟨[0, 2, 4, 7, 9, 10, 11], [.slot 4 10000040 6]⟩ (.region 8 [
    ⟨(some 24), .mov (.t 4), none, []⟩,
    ⟨(some 25), .load 6 true (.t 7), none, []⟩,
    ⟨(some 26), .buildSl 6 [(.int .i64 (0)), (.str []), (.int .i64 (0)), (.int .i64 (0)), (.int .i64 (0)), (.vs false [])] 1 [(0, (.t 25))], none, []⟩,
    ⟨(some 27), .append 6 (.t 24) (.t 26), none, []⟩,
    ⟨(some 4), .mov (.t 27), none, []⟩] false))))))
  (.mask ⟨[0, 2, 4, 9, 10, 11], [.slot 4 10000040 6]⟩ (.region 9 [
    ⟨(some 28), .bin .add (.t 11) (.c (.d (.int .i64 (1)))), none, []⟩,
    ⟨(some 11), .mov (.t 28), none, []⟩] false)))))
/-- beadle/table.Back -/
def code_table_Back : AFunc := ⟨52, [.cell 2 6 true, .tmp 3],
  .seq (.region 0 [
    ⟨(some 2), .box 6 (.c (.agg [(.d (.int .i64 (0))), (.d (.str [])), (.d (.int .i64 (0))), (.d (.int .i64 (0))), (.d (.int .i64 (0))), (.d (.vs true []))])), none, []⟩,
    ⟨(some 3), .mov (.c (.d (.int .i64 (0)))), none, []⟩] false)
  (.seq (.region 1 [
    ⟨(some 4), .mov (.c (.d (.vs true []))), none, []⟩] false)
  (.seq (.seq (.region 2 [
    ⟨(some 9), .mov (.t 0), none, []⟩,
    ⟨(some 10), .len .sl (.t 9), none, []⟩,
    ⟨(some 11), .mov (.c (.d (.int .i64 (0)))), none, []⟩] false)
  (.block 0 (.loop mask_table_Back_0 body_table_Back_0)))
  (.mask ⟨[0, 2, 4], [.slot 4 10000040 6]⟩ (.seq (.seq (.region 10 [
    ⟨(some 29), .mov (.t 0), none, []⟩,
    ⟨(some 30), .len .sl (.t 29), none, []⟩,
    ⟨(some 31), .bin .eql (.t 30) (.c (.d (.int .i64 (0)))), none, []⟩,
    ⟨(some 32), .mov (.t 31), none, []⟩,
    ⟨(some 33), .mov (.t 4), (some (32, false)), []⟩,
    ⟨(some 34), .mov (.t 4), (some (32, false)), []⟩,
    ⟨(some 35), .len .sl (.t 34), (some (32, false)), []⟩,
    ⟨(some 36), .bin .sub (.t 35) (.c (.d (.int .i64 (1)))), (some (32, false)), []⟩,
    ⟨(some 37), .iaddr 6 (.t 33) (.t 36), (some (32, false)), []⟩,
    ⟨(some 38), .load 6 true (.t 37), (some (32, false)), []⟩,
    ⟨(some 39), .call (.c (.fn F_table_Of [])) [(.t 38)], (some (32, false)), []⟩,
    ⟨(some 40), .mov (.t 0), (some (32, false)), []⟩,
    ⟨(some 41), .call (.c (.fn F_slices_EqualFunc_table_Row_table_Row_table_Row_table_Row [])) [(.t 39), (.t 40), (.c (.fn F_table_same []))], (some (32, false)), []⟩,
    ⟨(some 42), .un .not (.t 41), (some (32, false)), []⟩,
    ⟨(some 43), .pick (.t 32) (.c (.d (.bool true))) (.t 42), none, []⟩] false)
  (.mask ⟨[2, 4, 43], [.slot 4 10000040 6]⟩ (.cond (.t 43)
    (.seq (.region 11 [
      ⟨(some 44), .build [(.d (.int .i64 (0))), (.d (.str [])), (.d (.int .i64 (0))), (.d (.int .i64 (0))), (.d (.int .i64 (0))), (.d (.vs true []))] [], none, []⟩,
      ⟨none, .store 6 (.t 2) (.t 44), none, []⟩,
      ⟨(some 3), .mov (.c (.d (.int .i64 (16)))), none, []⟩] false)
    (.mask ⟨[2, 3], []⟩ (.ret)))
    (.skip))))
  (.mask ⟨[2, 4], [.slot 4 10000040 6]⟩ (.seq (.region 12 [
    ⟨(some 45), .mov (.t 4), none, []⟩,
    ⟨(some 46), .mov (.t 4), none, []⟩,
    ⟨(some 47), .len .sl (.t 46), none, []⟩,
    ⟨(some 48), .bin .sub (.t 47) (.c (.d (.int .i64 (1)))), none, []⟩,
    ⟨(some 49), .iaddr 6 (.t 45) (.t 48), none, []⟩,
    ⟨(some 50), .load 6 true (.t 49), none, []⟩,
    ⟨(some 51), .call (.c (.fn F_ast_Clone [])) [(.t 50)], none, []⟩,
    ⟨none, .store 6 (.t 2) (.t 51), none, []⟩,
    ⟨(some 3), .mov (.c (.d (.int .i64 (0)))), none, []⟩] false)
  (.mask ⟨[2, 3], []⟩ (.ret))))))))⟩
/-- (*beadle/octet.Out).fail -/
def code_octet_Out_fail : AFunc := ⟨21, [.tmp 4],
  .seq (.region 0 [
    ⟨(some 4), .mov (.c (.d (.bool false))), none, []⟩] false)
  (.seq (.seq (.region 1 [
    ⟨(some 5), .mov (.t 0), none, []⟩,
    ⟨(some 6), .isnil .p false (.t 5), none, []⟩] false)
  (.cond (.t 6)
    (.seq (.region 2 [
      ⟨(some 4), .mov (.c (.d (.bool true))), none, []⟩] false)
    (.mask ⟨[4], []⟩ (.ret)))
    (.skip)))
  (.mask ⟨[0, 1], []⟩ (.seq (.seq (.region 3 [
    ⟨(some 7), .mov (.t 0), none, []⟩,
    ⟨(some 8), .nilchk (.t 7), none, []⟩,
    ⟨(some 9), .faddr 1 (.t 8), none, []⟩,
    ⟨(some 10), .load 1 false (.t 9), none, []⟩,
    ⟨(some 11), .bin .eql (.t 10) (.c (.d (.int .i64 (0)))), none, []⟩] false)
  (.cond (.t 11)
    (.region 4 [
      ⟨(some 12), .mov (.t 0), none, []⟩,
      ⟨(some 13), .mov (.t 1), none, []⟩,
      ⟨(some 14), .nilchk (.t 12), none, []⟩,
      ⟨(some 15), .faddr 1 (.t 14), none, []⟩,
      ⟨none, .store 1 (.t 15) (.t 13), none, []⟩] false)
    (.skip)))
  (.mask ⟨[0], []⟩ (.seq (.region 5 [
    ⟨(some 16), .mov (.t 0), none, []⟩,
    ⟨(some 17), .nilchk (.t 16), none, []⟩,
    ⟨(some 18), .faddr 1 (.t 17), none, []⟩,
    ⟨(some 19), .load 1 false (.t 18), none, []⟩,
    ⟨(some 20), .bin .neq (.t 19) (.c (.d (.int .i64 (0)))), none, []⟩,
    ⟨(some 4), .mov (.t 20), none, []⟩] false)
  (.mask ⟨[4], []⟩ (.ret)))))))⟩
/-- (*beadle/octet.Out).Text -/
def code_octet_Out_Text : AFunc := ⟨26, [],
  .seq (.region 0 [
    ⟨(some 4), .mov (.c (.d (.int .i64 (0)))), none, []⟩] false)
  (.seq (.seq (.region 1 [
    ⟨(some 5), .mov (.t 1), none, []⟩,
    ⟨(some 6), .len .str (.t 5), none, []⟩,
    ⟨(some 7), .bin .gtr (.t 6) (.c (.d (.int .i64 (255)))), none, []⟩] false)
  (.cond (.t 7)
    (.region 2 [
      ⟨(some 4), .mov (.c (.d (.int .i64 (5)))), none, []⟩] false)
    (.skip)))
  (.mask ⟨[0, 1, 4], []⟩ (.seq (.region 3 [
    ⟨(some 8), .mov (.t 0), none, []⟩,
    ⟨(some 9), .mov (.t 4), none, []⟩,
    ⟨(some 10), .call (.c (.fn F_octet_Out_fail [])) [(.t 8), (.t 9)], none, []⟩,
    ⟨(some 11), .un .not (.t 10), none, []⟩] false)
  (.cond (.t 11)
    (.region 4 [
      ⟨(some 12), .mov (.t 0), none, []⟩,
      ⟨(some 13), .mov (.t 0), none, []⟩,
      ⟨(some 14), .nilchk (.t 13), none, []⟩,
      ⟨(some 15), .faddr 0 (.t 14), none, []⟩,
      ⟨(some 16), .load 1 false (.t 15), none, []⟩,
      ⟨(some 17), .mov (.t 1), none, []⟩,
      ⟨(some 18), .len .str (.t 17), none, []⟩,
      ⟨(some 19), .toInt .u8 (.t 18), none, []⟩,
      ⟨(some 20), .buildSl 1 [(.int .u8 (0))] 1 [(0, (.t 19))], none, []⟩,
      ⟨(some 21), .append 1 (.t 16) (.t 20), none, []⟩,
      ⟨(some 22), .mov (.t 1), none, []⟩,
      ⟨(some 23), .append 1 (.t 21) (.t 22), none, []⟩,
      ⟨(some 24), .nilchk (.t 12), none, []⟩,
      ⟨(some 25), .faddr 0 (.t 24), none, []⟩,
      ⟨none, .store 1 (.t 25) (.t 23), none, []⟩] false)
    (.skip)))))⟩
def mask_octet_Out_Int_0 : Mask := ⟨[0, 1, 4], [.cell 0 0 20000000 1]⟩
def body_octet_Out_Int_0 : ACode :=
  .seq (.seq (.region 2 [
    ⟨(some 7), .mov (.t 4), none, []⟩,
    ⟨(some 8), .bin .geq (.t 7) (.c (.d (.int .i64 (0)))), none, []⟩] false)
  (.mask ⟨[0, 1, 4, 8], [.cell 0 0 20000000 1]⟩ (.cond (.t 8)
    (.skip)
    (.mask ⟨[], [.cell 0 0 20000000 1]⟩ (.exit 0)))))
  (.mask ⟨[0, 1, 4], [.cell 0 0 20000000 1]⟩ (.seq (.block 1 (.region 4 [
    ⟨(some 11), .mov (.t 0), none, []⟩,
    ⟨(some 12), .mov (.t 0), none, []⟩,
    ⟨(some 13), .nilchk (.t 12), none, [1]⟩,
    ⟨(some 14), .faddr 0 (.t 13), none, [1, 2]⟩,
    ⟨(some 15), .load 1 false (.t 14), none, [1, 2, 3]⟩,
    ⟨(some 16), .mov (.t 1), none, []⟩,
    ⟨(some 17), .mov (.t 4), none, []⟩,
    ⟨(some 18), .bin .shr (.t 16) (.t 17), none, [5, 6]⟩,
    ⟨(some 19), .toInt .u8 (.t 18), none, [5, 6, 7]⟩,
    ⟨(some 20), .buildSl 1 [(.int .u8 (0))] 1 [(0, (.t 19))], none, [5, 6, 7, 8]⟩,
    ⟨(some 21), .append 1 (.t 15) (.t 20), none, [1, 2, 3, 4, 5, 6, 7, 8, 9]⟩,
    ⟨(some 22), .nilchk (.t 11), none, [0, 1, 2, 3, 4, 5, 6, 7, 8, 9, 10]⟩,
    ⟨(some 23), .faddr 0 (.t 22), none, [0, 1, 2, 3, 4, 5, 6, 7, 8, 9, 10, 11]⟩,
    ⟨none, .store 1 (.t 23) (.t 21), none, [0, 1, 2, 3, 4, 5, 6, 7, 8, 9, 10, 11, 12]⟩] true))
  (.mask ⟨[0, 1, 4], [.cell 0 0 20000000 1]⟩ (.region 3 [
    ⟨(some 9), .mov (.t 4), none, []⟩,
    ⟨(some 10), .bin .sub (.t 9) (.c (.d (.int .i64 (8)))), none, []⟩,
    ⟨(some 4), .mov (.t 10), none, []⟩] false))))
/-- (*beadle/octet.Out).Int -/
def code_octet_Out_Int : AFunc := ⟨24, [],
  .seq (.seq (.region 0 [
    ⟨(some 5), .mov (.t 0), none, []⟩,
    ⟨(some 6), .call (.c (.fn F_octet_Out_fail [])) [(.t 5), (.c (.d (.int .i64 (0))))], none, []⟩] false)
  (.mask ⟨[0, 1, 6], [.cell 0 0 20000000 1]⟩ (.cond (.t 6)
    (.mask ⟨[], [.cell 0 0 20000000 1]⟩ (.ret))
    (.skip))))
  (.mask ⟨[0, 1], [.cell 0 0 20000000 1]⟩ (.seq (.region 1 [
    ⟨(some 4), .mov (.c (.d (.int .i64 (56)))), none, []⟩] false)
  (.mask ⟨[0, 1, 4], [.cell 0 0 20000000 1]⟩ (.block 0 (.loop mask_octet_Out_Int_0 body_octet_Out_Int_0)))))⟩
def mask_ast_Depth_0 : Mask := ⟨[3, 7, 8, 9], []⟩
def body_ast_Depth_0 : ACode :=
  .seq (.region 3 [
    ⟨(some 10), .bin .lss (.t 9) (.t 8), none, []⟩] false)
  (.seq (.cond (.t 10)
    (.skip)
    (.mask ⟨[3], []⟩ (.exit 0)))
  (.mask ⟨[3, 7, 8, 9], []⟩ (.seq (.block 1 (.seq (.region 4 [
    ⟨(some 11), .iaddr 6 (.t 7) (.t 9), none, []⟩,
    ⟨(some 12), .load 6 true (.t 11), none, []⟩,
    ⟨(some 5), .box 6 (.c (.agg [(.d (.int .i64 (0))), (.d (.str [])), (.d (.int .i64 (0))), (.d (.int .i64 (0))), (.d (.int .i64 (0))), (.d (.vs true []))])), none, []⟩,
    ⟨none, .store 6 (.t 5) (.t 12), none, []⟩] false)
  (.region 5 [
    ⟨(some 13), .mov (.t 3), none, []⟩,
    ⟨(some 14), .load 6 true (.t 5), none, []⟩,
    ⟨(some 15), .call (.c (.fn F_ast_Depth [])) [(.t 14)], none, []⟩,
    ⟨(some 16), .best true [(.t 13), (.t 15)], none, []⟩,
    ⟨(some 3), .mov (.t 16), none, []⟩] false)))
  (.mask ⟨[3, 7, 8, 9], []⟩ (.region 6 [
    ⟨(some 17), .bin .add (.t 9) (.c (.d (.int .i64 (1)))), none, []⟩,
    ⟨(some 9), .mov (.t 17), none, []⟩] false)))))
/-- beadle/ast.Depth -/
def code_ast_Depth : AFunc := ⟨20, [.tmp 2],
  .seq (.region 0 [
    ⟨(some 1), .box 6 (.t 0), none, []⟩,
    ⟨(some 2), .mov (.c (.d (.int .i64 (0)))), none, []⟩] false)
  (.seq (.region 1 [
    ⟨(some 3), .mov (.c (.d (.int .i64 (0)))), none, []⟩] false)
  (.seq (.seq (.region 2 [
    ⟨(some 6), .load 6 true (.t 1), none, []⟩,
    ⟨(some 7), .call (.c (.fn F_ast_inner [])) [(.t 6)], none, []⟩,
    ⟨(some 8), .len .sl (.t 7), none, []⟩,
    ⟨(some 9), .mov (.c (.d (.int .i64 (0)))), none, []⟩] false)
  (.block 0 (.loop mask_ast_Depth_0 body_ast_Depth_0)))
  (.mask ⟨[3], []⟩ (.seq (.region 7 [
    ⟨(some 18), .mov (.t 3), none, []⟩,
    ⟨(some 19), .bin .add (.t 18) (.c (.d (.int .i64 (1)))), none, []⟩,
    ⟨(some 2), .mov (.t 19), none, []⟩] false)
  (.mask ⟨[2], []⟩ (.ret))))))⟩
def mask_ast_Size_0 : Mask := ⟨[3, 7, 8, 9], []⟩
def body_ast_Size_0 : ACode :=
  .seq (.region 3 [
    ⟨(some 10), .bin .lss (.t 9) (.t 8), none, []⟩] false)
  (.seq (.cond (.t 10)
    (.skip)
    (.mask ⟨[3], []⟩ (.exit 0)))
  (.mask ⟨[3, 7, 8, 9], []⟩ (.seq (.block 1 (.seq (.region 4 [
    ⟨(some 11), .iaddr 6 (.t 7) (.t 9), none, []⟩,
    ⟨(some 12), .load 6 true (.t 11), none, []⟩,
    ⟨(some 5), .box 6 (.c (.agg [(.d (.int .i64 (0))), (.d (.str [])), (.d (.int .i64 (0))), (.d (.int .i64 (0))), (.d (.int .i64 (0))), (.d (.vs true []))])), none, []⟩,
    ⟨none, .store 6 (.t 5) (.t 12), none, []⟩] false)
  (.region 5 [
    ⟨(some 13), .mov (.t 3), none, []⟩,
    ⟨(some 14), .load 6 true (.t 5), none, []⟩,
    ⟨(some 15), .call (.c (.fn F_ast_Size [])) [(.t 14)], none, []⟩,
    ⟨(some 16), .bin .add (.t 13) (.t 15), none, []⟩,
    ⟨(some 3), .mov (.t 16), none, []⟩] false)))
  (.mask ⟨[3, 7, 8, 9], []⟩ (.region 6 [
    ⟨(some 17), .bin .add (.t 9) (.c (.d (.int .i64 (1)))), none, []⟩,
    ⟨(some 9), .mov (.t 17), none, []⟩] false)))))
/-- beadle/ast.Size -/
def code_ast_Size : AFunc := ⟨19, [.tmp 2],
  .seq (.region 0 [
    ⟨(some 1), .box 6 (.t 0), none, []⟩,
    ⟨(some 2), .mov (.c (.d (.int .i64 (0)))), none, []⟩] false)
  (.seq (.region 1 [
    ⟨(some 3), .mov (.c (.d (.int .i64 (1)))), none, []⟩] false)
  (.seq (.seq (.region 2 [
    ⟨(some 6), .load 6 true (.t 1), none, []⟩,
    ⟨(some 7), .call (.c (.fn F_ast_inner [])) [(.t 6)], none, []⟩,
    ⟨(some 8), .len .sl (.t 7), none, []⟩,
    ⟨(some 9), .mov (.c (.d (.int .i64 (0)))), none, []⟩] false)
  (.block 0 (.loop mask_ast_Size_0 body_ast_Size_0)))
  (.mask ⟨[3], []⟩ (.seq (.region 7 [
    ⟨(some 18), .mov (.t 3), none, []⟩,
    ⟨(some 2), .mov (.t 18), none, []⟩] false)
  (.mask ⟨[2], []⟩ (.ret))))))⟩
/-- beadle/ast.may -/
def code_ast_may : AFunc := ⟨30, [.tmp 2],
  .seq (.region 0 [
    ⟨(some 1), .box 6 (.t 0), none, []⟩,
    ⟨(some 2), .mov (.c (.d (.bool false))), none, []⟩] false)
  (.seq (.seq (.region 1 [
    ⟨(some 3), .faddr 0 (.t 1), none, []⟩,
    ⟨(some 4), .load 1 false (.t 3), none, []⟩,
    ⟨(some 5), .bin .eql (.t 4) (.c (.d (.int .i64 (4)))), none, []⟩] false)
  (.cond (.t 5)
    (.seq (.region 2 [
      ⟨(some 6), .load 6 true (.t 1), none, []⟩,
      ⟨(some 7), .call (.c (.fn F_ast_own [])) [(.t 6)], none, []⟩,
      ⟨(some 8), .mov (.t 7), none, []⟩,
      ⟨(some 9), .faddr 5 (.t 1), (some (8, true)), []⟩,
      ⟨(some 10), .load 1 false (.t 9), (some (8, true)), []⟩,
      ⟨(some 11), .call (.c (.fn F_ast_texts [])) [(.t 10)], (some (8, true)), []⟩,
      ⟨(some 12), .pick (.t 8) (.t 11) (.c (.d (.bool false))), none, []⟩,
      ⟨(some 2), .mov (.t 12), none, []⟩] false)
    (.mask ⟨[2], []⟩ (.ret)))
    (.skip)))
  (.mask ⟨[1], []⟩ (.seq (.region 3 [
    ⟨(some 13), .faddr 0 (.t 1), none, []⟩,
    ⟨(some 14), .load 1 false (.t 13), none, [0]⟩,
    ⟨(some 15), .call (.c (.fn F_ast_Kids [])) [(.t 14)], none, [0, 1]⟩,
    ⟨(some 16), .faddr 5 (.t 1), none, []⟩,
    ⟨(some 17), .load 1 false (.t 16), none, [3]⟩,
    ⟨(some 18), .len .sl (.t 17), none, [3, 4]⟩,
    ⟨(some 19), .bin .eql (.t 15) (.t 18), none, [0, 1, 2, 3, 4, 5]⟩,
    ⟨(some 20), .mov (.t 19), none, [0, 1, 2, 3, 4, 5, 6]⟩,
    ⟨(some 21), .load 6 true (.t 1), (some (20, true)), [0, 1, 2, 3, 4, 5, 6, 7]⟩,
    ⟨(some 22), .call (.c (.fn F_ast_own [])) [(.t 21)], (some (20, true)), [0, 1, 2, 3, 4, 5, 6, 7, 8]⟩,
    ⟨(some 23), .pick (.t 20) (.t 22) (.c (.d (.bool false))), none, [0, 1, 2, 3, 4, 5, 6, 7, 8, 9]⟩,
    ⟨(some 24), .mov (.t 23), none, [0, 1, 2, 3, 4, 5, 6, 7, 8, 9, 10]⟩,
    ⟨(some 25), .faddr 5 (.t 1), (some (24, true)), [0, 1, 2, 3, 4, 5, 6, 7, 8, 9, 10, 11]⟩,
    ⟨(some 26), .load 1 false (.t 25), (some (24, true)), [0, 1, 2, 3, 4, 5, 6, 7, 8, 9, 10, 11, 12]⟩,
    ⟨(some 27), .call (.c (.fn F_slices_ContainsFunc_api_Expr_api_Expr [])) [(.t 26), (.c (.fn F_ast_may_1 []))], (some (24, true)), [0, 1, 2, 3, 4, 5, 6, 7, 8, 9, 10, 11, 12, 13]⟩,
    ⟨(some 28), .un .not (.t 27), (some (24, true)), [0, 1, 2, 3, 4, 5, 6, 7, 8, 9, 10, 11, 12, 13, 14]⟩,
    ⟨(some 29), .pick (.t 24) (.t 28) (.c (.d (.bool false))), none, [0, 1, 2, 3, 4, 5, 6, 7, 8, 9, 10, 11, 12, 13, 14, 15]⟩,
    ⟨(some 2), .mov (.t 29), none, [0, 1, 2, 3, 4, 5, 6, 7, 8, 9, 10, 11, 12, 13, 14, 15, 16]⟩] true)
  (.mask ⟨[2], []⟩ (.ret)))))⟩
def mask_table_Of_1_0 : Mask := ⟨[1, 2, 5, 14, 15, 16], [.cell 20020 6 22002060 1, .cell 1 0 20000100 7]⟩
def body_table_Of_1_0 : ACode :=
  .seq (.region 4 [
    ⟨(some 17), .bin .lss (.t 16) (.t 15), none, []⟩] false)
  (.mask ⟨[1, 2, 5, 14, 15, 16, 17], [.cell 20020 6 22002060 1, .cell 1 0 20000100 7]⟩ (.seq (.cond (.t 17)
    (.skip)
    (.mask ⟨[2, 5], [.cell 20020 6 22002060 1, .cell 1 0 20000100 7]⟩ (.exit 0)))
  (.mask ⟨[1, 2, 5, 14, 15, 16], [.cell 20020 6 22002060 1, .cell 1 0 20000100 7]⟩ (.seq (.block 1 (.seq (.region 5 [
    ⟨(some 18), .iaddr 6 (.t 14) (.t 16), none, []⟩,
    ⟨(some 19), .load 6 true (.t 18), none, []⟩,
    ⟨(some 7), .box 6 (.c (.agg [(.d (.int .i64 (0))), (.d (.str [])), (.d (.int .i64 (0))), (.d (.int .i64 (0))), (.d (.int .i64 (0))), (.d (.vs true []))])), none, []⟩,
    ⟨none, .store 6 (.t 7) (.t 19), none, []⟩] false)
  (.mask ⟨[1, 2, 5, 7, 14, 15, 16], [.cell 20020 6 22002060 1, .cell 1 0 20000100 7]⟩ (.region 6 [
    ⟨(some 20), .faddr 6 (.t 5), none, []⟩,
    ⟨(some 21), .load 1 false (.t 20), none, [0]⟩,
    ⟨(some 22), .load 1 false (.t 1), none, []⟩,
    ⟨(some 23), .load 6 true (.t 7), none, []⟩,
    ⟨(some 24), .call (.t 22) [(.t 23)], none, [2, 3]⟩,
    ⟨(some 25), .buildSl 1 [(.int .i64 (0))] 1 [(0, (.t 24))], none, [2, 3, 4]⟩,
    ⟨(some 26), .append 1 (.t 21) (.t 25), none, [0, 1, 2, 3, 4, 5]⟩,
    ⟨(some 27), .faddr 6 (.t 5), none, [0, 1, 2, 3, 4, 5, 6]⟩,
    ⟨none, .store 1 (.t 27) (.t 26), none, [0, 1, 2, 3, 4, 5, 6, 7]⟩] true))))
  (.mask ⟨[1, 2, 5, 14, 15, 16], [.cell 20020 6 22002060 1, .cell 1 0 20000100 7]⟩ (.region 7 [
    ⟨(some 28), .bin .add (.t 16) (.c (.d (.int .i64 (1)))), none, []⟩,
    ⟨(some 16), .mov (.t 28), none, []⟩] false))))))
/-- beadle/table.Of$1 -/
def code_table_Of_1 : AFunc := ⟨36, [.tmp 4],
  .seq (.region 0 [
    ⟨(some 3), .box 6 (.t 0), none, []⟩,
    ⟨(some 4), .mov (.c (.d (.int .i64 (0)))), none, []⟩] false)
  (.mask ⟨[1, 2, 3], [.cell 20020 6 22002060 1, .cell 1 0 20000100 7]⟩ (.seq (.region 1 [
    ⟨(some 8), .load 6 true (.t 3), none, []⟩,
    ⟨(some 9), .call (.c (.fn F_table_own [])) [(.t 8)], none, []⟩,
    ⟨(some 5), .box 7 (.c (.agg [(.d (.int .i64 (0))), (.d (.str [])), (.d (.int .i64 (0))), (.d (.int .i64 (0))), (.d (.int .i64 (0))), (.d (.vs true [])), (.d (.vs true []))])), none, []⟩,
    ⟨none, .store 7 (.t 5) (.t 9), none, []⟩] false)
  (.mask ⟨[1, 2, 3, 5], [.cell 20020 6 22002060 1, .cell 1 0 20000100 7]⟩ (.seq (.seq (.region 2 [
    ⟨(some 10), .faddr 0 (.t 3), none, []⟩,
    ⟨(some 11), .load 1 false (.t 10), none, []⟩,
    ⟨(some 12), .bin .neq (.t 11) (.c (.d (.int .i64 (4)))), none, []⟩] false)
  (.mask ⟨[1, 2, 3, 5, 12], [.cell 20020 6 22002060 1, .cell 1 0 20000100 7]⟩ (.cond (.t 12)
    (.seq (.region 3 [
      ⟨(some 13), .faddr 5 (.t 3), none, []⟩,
      ⟨(some 14), .load 1 false (.t 13), none, []⟩,
      ⟨(some 15), .len .sl (.t 14), none, []⟩,
      ⟨(some 16), .mov (.c (.d (.int .i64 (0)))), none, []⟩] false)
    (.mask ⟨[1, 2, 5, 14, 15, 16], [.cell 20020 6 22002060 1, .cell 1 0 20000100 7]⟩ (.block 0 (.loop mask_table_Of_1_0 body_table_Of_1_0))))
    (.skip))))
  (.mask ⟨[2, 5], [.cell 20020 6 22002060 1, .cell 1 0 20000100 7]⟩ (.seq (.region 8 [
    ⟨(some 29), .load 1 false (.t 2), none, []⟩,
    ⟨(some 30), .load 7 true (.t 5), none, []⟩,
    ⟨(some 31), .buildSl 7 [(.int .i64 (0)), (.str []), (.int .i64 (0)), (.int .i64 (0)), (.int .i64 (0)), (.vs false []), (.vs false [])] 1 [(0, (.t 30))], none, []⟩,
    ⟨(some 32), .append 7 (.t 29) (.t 31), none, []⟩,
    ⟨none, .store 1 (.t 2) (.t 32), none, []⟩] false)
  (.mask ⟨[2], [.cell 20020 6 22002060 1, .cell 1 0 20000100 7]⟩ (.seq (.region 9 [
    ⟨(some 33), .load 1 false (.t 2), none, []⟩,
    ⟨(some 34), .len .sl (.t 33), none, []⟩,
    ⟨(some 35), .bin .sub (.t 34) (.c (.d (.int .i64 (1)))), none, []⟩,
    ⟨(some 4), .mov (.t 35), none, []⟩] false)
  (.mask ⟨[4], [.cell 20020 6 22002060 1, .cell 1 0 20000100 7]⟩ (.ret))))))))))⟩
def mask_ref06_Plain_0 : Mask := ⟨[0, 3], []⟩
def body_ref06_Plain_0 : ACode :=
  .seq (.seq (.region 4 [
    ⟨(some 7), .mov (.t 3), none, []⟩,
    ⟨(some 8), .mov (.t 0), none, []⟩,
    ⟨(some 9), .len .str (.t 8), none, []⟩,
    ⟨(some 10), .bin .lss (.t 7) (.t 9), none, []⟩] false)
  (.cond (.t 10)
    (.skip)
    (.mask ⟨[], []⟩ (.exit 0))))
  (.mask ⟨[0, 3], []⟩ (.seq (.block 1 (.seq (.region 6 [
    ⟨(some 13), .mov (.t 0), none, []⟩,
    ⟨(some 14), .mov (.t 3), none, []⟩,
    ⟨(some 15), .idx (.t 13) (.t 14), none, []⟩,
    ⟨(some 16), .bin .eql (.t 15) (.c (.d (.int .u8 (34)))), none, []⟩,
    ⟨(some 17), .mov (.t 16), none, []⟩,
    ⟨(some 18), .mov (.t 0), (some (17, false)), []⟩,
    ⟨(some 19), .mov (.t 3), (some (17, false)), []⟩,
    ⟨(some 20), .idx (.t 18) (.t 19), (some (17, false)), []⟩,
    ⟨(some 21), .bin .eql (.t 20) (.c (.d (.int .u8 (10)))), (some (17, false)), []⟩,
    ⟨(some 22), .pick (.t 17) (.c (.d (.bool true))) (.t 21), none, []⟩] false)
  (.mask ⟨[0, 3, 22], []⟩ (.cond (.t 22)
    (.seq (.region 7 [
      ⟨(some 2), .mov (.c (.d (.bool false))), none, []⟩] false)
    (.mask ⟨[2], []⟩ (.ret)))
    (.skip)))))
  (.mask ⟨[0, 3], []⟩ (.region 5 [
    ⟨(some 11), .mov (.t 3), none, []⟩,
    ⟨(some 12), .bin .add (.t 11) (.c (.d (.int .i64 (1)))), none, []⟩,
    ⟨(some 3), .mov (.t 12), none, []⟩] false))))
/-- beadle/beadleref06.Plain -/
def code_ref06_Plain : AFunc := ⟨23, [.tmp 2],
  .seq (.region 0 [
    ⟨(some 2), .mov (.c (.d (.bool false))), none, []⟩] false)
  (.seq (.seq (.region 1 [
    ⟨(some 4), .mov (.t 0), none, []⟩,
    ⟨(some 5), .len .str (.t 4), none, []⟩,
    ⟨(some 6), .bin .gtr (.t 5) (.c (.d (.int .i64 (32)))), none, []⟩] false)
  (.cond (.t 6)
    (.seq (.region 2 [
      ⟨(some 2), .mov (.c (.d (.bool false))), none, []⟩] false)
    (.mask ⟨[2], []⟩ (.ret)))
    (.skip)))
  (.mask ⟨[0], []⟩ (.seq (.seq (.region 3 [
    ⟨(some 3), .mov (.c (.d (.int .i64 (0)))), none, []⟩] false)
  (.block 0 (.loop mask_ref06_Plain_0 body_ref06_Plain_0)))
  (.mask ⟨[], []⟩ (.seq (.region 8 [
    ⟨(some 2), .mov (.c (.d (.bool true))), none, []⟩] false)
  (.mask ⟨[2], []⟩ (.ret)))))))⟩
def mask_ref06_Name_0 : Mask := ⟨[0, 3], []⟩
def body_ref06_Name_0 : ACode :=
  .seq (.seq (.region 4 [
    ⟨(some 17), .mov (.t 3), none, []⟩,
    ⟨(some 18), .mov (.t 0), none, []⟩,
    ⟨(some 19), .len .str (.t 18), none, []⟩,
    ⟨(some 20), .bin .lss (.t 17) (.t 19), none, []⟩] false)
  (.cond (.t 20)
    (.skip)
    (.mask ⟨[], []⟩ (.exit 0))))
  (.mask ⟨[0, 3], []⟩ (.seq (.block 1 (.seq (.region 6 [
    ⟨(some 23), .mov (.t 0), none, []⟩,
    ⟨(some 24), .mov (.t 3), none, []⟩,
    ⟨(some 25), .idx (.t 23) (.t 24), none, []⟩,
    ⟨(some 26), .call (.c (.fn F_ref06_tail [])) [(.t 25)], none, []⟩,
    ⟨(some 27), .un .not (.t 26), none, []⟩] false)
  (.cond (.t 27)
    (.seq (.region 7 [
      ⟨(some 2), .mov (.c (.d (.bool false))), none, []⟩] false)
    (.mask ⟨[2], []⟩ (.ret)))
    (.skip))))
  (.mask ⟨[0, 3], []⟩ (.region 5 [
    ⟨(some 21), .mov (.t 3), none, []⟩,
    ⟨(some 22), .bin .add (.t 21) (.c (.d (.int .i64 (1)))), none, []⟩,
    ⟨(some 3), .mov (.t 22), none, []⟩] false))))
/-- beadle/beadleref06.Name -/
def code_ref06_Name : AFunc := ⟨28, [.tmp 2],
  .seq (.region 0 [
    ⟨(some 2), .mov (.c (.d (.bool false))), none, []⟩] false)
  (.seq (.seq (.region 1 [
    ⟨(some 4), .mov (.t 0), none, []⟩,
    ⟨(some 5), .bin .eql (.t 4) (.c (.d (.str []))), none, []⟩,
    ⟨(some 6), .mov (.t 5), none, []⟩,
    ⟨(some 7), .mov (.t 0), (some (6, false)), []⟩,
    ⟨(some 8), .len .str (.t 7), (some (6, false)), []⟩,
    ⟨(some 9), .bin .gtr (.t 8) (.c (.d (.int .i64 (16)))), (some (6, false)), []⟩,
    ⟨(some 10), .pick (.t 6) (.c (.d (.bool true))) (.t 9), none, []⟩,
    ⟨(some 11), .mov (.t 10), none, []⟩,
    ⟨(some 12), .mov (.t 0), (some (11, false)), []⟩,
    ⟨(some 13), .idx (.t 12) (.c (.d (.int .i64 (0)))), (some (11, false)), []⟩,
    ⟨(some 14), .call (.c (.fn F_ref06_head [])) [(.t 13)], (some (11, false)), []⟩,
    ⟨(some 15), .un .not (.t 14), (some (11, false)), []⟩,
    ⟨(some 16), .pick (.t 11) (.c (.d (.bool true))) (.t 15), none, []⟩] false)
  (.mask ⟨[0, 16], []⟩ (.cond (.t 16)
    (.seq (.region 2 [
      ⟨(some 2), .mov (.c (.d (.bool false))), none, []⟩] false)
    (.mask ⟨[2], []⟩ (.ret)))
    (.skip))))
  (.mask ⟨[0], []⟩ (.seq (.seq (.region 3 [
    ⟨(some 3), .mov (.c (.d (.int .i64 (1)))), none, []⟩] false)
  (.block 0 (.loop mask_ref06_Name_0 body_ref06_Name_0)))
  (.mask ⟨[], []⟩ (.seq (.region 8 [
    ⟨(some 2), .mov (.c (.d (.bool true))), none, []⟩] false)
  (.mask ⟨[2], []⟩ (.ret)))))))⟩
/-- beadle/beadleref04.take -/
def code_ref04_take : AFunc := ⟨30, [.tmp 4, .cell 5 3 true],
  .seq (.region 0 [
    ⟨(some 2), .box 3 (.t 0), none, []⟩,
    ⟨(some 4), .mov (.c (.d (.int .i64 (0)))), none, []⟩,
    ⟨(some 5), .box 3 (.c (.agg [(.d (.vs true [])), (.d (.int .i64 (0))), (.d (.bool false))])), none, []⟩] false)
  (.seq (.seq (.region 1 [
    ⟨(some 7), .faddr 2 (.t 2), none, []⟩,
    ⟨(some 8), .load 1 false (.t 7), none, []⟩,
    ⟨(some 9), .mov (.t 8), none, []⟩,
    ⟨(some 10), .mov (.t 1), (some (9, false)), []⟩,
    ⟨(some 11), .faddr 0 (.t 2), (some (9, false)), []⟩,
    ⟨(some 12), .load 1 false (.t 11), (some (9, false)), []⟩,
    ⟨(some 13), .len .sl (.t 12), (some (9, false)), []⟩,
    ⟨(some 14), .faddr 1 (.t 2), (some (9, false)), []⟩,
    ⟨(some 15), .load 1 false (.t 14), (some (9, false)), []⟩,
    ⟨(some 16), .bin .sub (.t 13) (.t 15), (some (9, false)), []⟩,
    ⟨(some 17), .bin .gtr (.t 10) (.t 16), (some (9, false)), []⟩,
    ⟨(some 18), .pick (.t 9) (.c (.d (.bool true))) (.t 17), none, []⟩] false)
  (.mask ⟨[1, 2, 5, 18], []⟩ (.cond (.t 18)
    (.seq (.region 2 [
      ⟨(some 19), .faddr 2 (.t 2), none, []⟩,
      ⟨none, .store 1 (.t 19) (.c (.d (.bool true))), none, []⟩] false)
    (.seq (.region 3 [
      ⟨(some 20), .load 3 true (.t 2), none, []⟩,
      ⟨(some 4), .mov (.c (.d (.int .i64 (0)))), none, []⟩,
      ⟨none, .store 3 (.t 5) (.t 20), none, [0, 1]⟩] true)
    (.mask ⟨[4, 5], []⟩ (.ret))))
    (.skip))))
  (.mask ⟨[1, 2, 5], []⟩ (.seq (.region 4 [
    ⟨(some 21), .faddr 1 (.t 2), none, []⟩,
    ⟨(some 22), .load 1 false (.t 21), none, []⟩,
    ⟨(some 6), .mov (.t 22), none, []⟩] false)
  (.seq (.region 5 [
    ⟨(some 23), .faddr 1 (.t 2), none, []⟩,
    ⟨(some 24), .load 1 false (.t 23), none, []⟩,
    ⟨(some 25), .mov (.t 1), none, []⟩,
    ⟨(some 26), .bin .add (.t 24) (.t 25), none, []⟩,
    ⟨(some 27), .faddr 1 (.t 2), none, []⟩,
    ⟨none, .store 1 (.t 27) (.t 26), none, []⟩] false)
  (.seq (.region 6 [
    ⟨(some 28), .mov (.t 6), none, []⟩,
    ⟨(some 29), .load 3 true (.t 2), none, []⟩,
    ⟨(some 4), .mov (.t 28), none, [0]⟩,
    ⟨none, .store 3 (.t 5) (.t 29), none, [0, 1, 2]⟩] true)
  (.mask ⟨[4, 5], []⟩ (.ret)))))))⟩
/-- beadle/beadleref04.Words -/
def code_ref04_Words : AFunc := ⟨31, [.tmp 2, .cell 3 3 true],
  .seq (.region 0 [
    ⟨(some 1), .box 3 (.t 0), none, []⟩,
    ⟨(some 2), .mov (.c (.d (.str []))), none, []⟩,
    ⟨(some 3), .box 3 (.c (.agg [(.d (.vs true [])), (.d (.int .i64 (0))), (.d (.bool false))])), none, []⟩] false)
  (.seq (.region 1 [
    ⟨(some 9), .load 3 true (.t 1), none, []⟩,
    ⟨(some 10), .call (.c (.fn F_ref04_Byte [])) [(.t 9)], none, []⟩,
    ⟨(some 8), .mov (.t 10), none, []⟩,
    ⟨(some 11), .extract (.t 8) 0, none, []⟩,
    ⟨(some 12), .extract (.t 8) 1, none, []⟩,
    ⟨(some 5), .box 3 (.c (.agg [(.d (.vs true [])), (.d (.int .i64 (0))), (.d (.bool false))])), none, []⟩,
    ⟨(some 4), .mov (.t 11), none, []⟩,
    ⟨none, .store 3 (.t 5) (.t 12), none, []⟩] false)
  (.seq (.region 2 [
    ⟨(some 14), .load 3 true (.t 5), none, []⟩,
    ⟨(some 15), .mov (.t 4), none, []⟩,
    ⟨(some 16), .call (.c (.fn F_ref04_take [])) [(.t 14), (.t 15)], none, []⟩,
    ⟨(some 13), .mov (.t 16), none, []⟩,
    ⟨(some 17), .extract (.t 13) 0, none, []⟩,
    ⟨(some 18), .extract (.t 13) 1, none, []⟩,
    ⟨(some 7), .box 3 (.c (.agg [(.d (.vs true [])), (.d (.int .i64 (0))), (.d (.bool false))])), none, []⟩,
    ⟨(some 6), .mov (.t 17), none, []⟩,
    ⟨none, .store 3 (.t 7) (.t 18), none, []⟩] false)
  (.seq (.seq (.region 3 [
    ⟨(some 19), .faddr 2 (.t 7), none, []⟩,
    ⟨(some 20), .load 1 false (.t 19), none, []⟩] false)
  (.cond (.t 20)
    (.seq (.region 4 [
      ⟨(some 21), .load 3 true (.t 7), none, []⟩,
      ⟨(some 2), .mov (.c (.d (.str []))), none, []⟩,
      ⟨none, .store 3 (.t 3) (.t 21), none, [0, 1]⟩] true)
    (.mask ⟨[2, 3], []⟩ (.ret)))
    (.skip)))
  (.mask ⟨[1, 3, 4, 6, 7], []⟩ (.seq (.region 5 [
    ⟨(some 22), .faddr 0 (.t 1), none, []⟩,
    ⟨(some 23), .load 1 false (.t 22), none, [0]⟩,
    ⟨(some 24), .mov (.t 6), none, []⟩,
    ⟨(some 25), .mov (.t 6), none, []⟩,
    ⟨(some 26), .mov (.t 4), none, []⟩,
    ⟨(some 27), .bin .add (.t 25) (.t 26), none, [3, 4]⟩,
    ⟨(some 28), .slice 1 (.t 23) (some (.t 24)) (some (.t 27)) none, none, [0, 1, 2, 3, 4, 5]⟩,
    ⟨(some 29), .toStr (.t 28), none, [0, 1, 2, 3, 4, 5, 6]⟩,
    ⟨(some 30), .load 3 true (.t 7), none, []⟩,
    ⟨(some 2), .mov (.t 29), none, [0, 1, 2, 3, 4, 5, 6, 7]⟩,
    ⟨none, .store 3 (.t 3) (.t 30), none, [0, 1, 2, 3, 4, 5, 6, 7, 8, 9]⟩] true)
  (.mask ⟨[2, 3], []⟩ (.ret)))))))⟩
def mask_ref04_Number_0 : Mask := ⟨[1, 3, 4, 5, 6, 7], []⟩
def body_ref04_Number_0 : ACode :=
  .seq (.seq (.region 6 [
    ⟨(some 23), .mov (.t 7), none, []⟩,
    ⟨(some 24), .bin .lss (.t 23) (.c (.d (.int .i64 (8)))), none, []⟩] false)
  (.cond (.t 24)
    (.skip)
    (.mask ⟨[3, 5, 6], []⟩ (.exit 0))))
  (.mask ⟨[1, 3, 4, 5, 6, 7], []⟩ (.seq (.block 1 (.region 8 [
    ⟨(some 27), .mov (.t 6), none, []⟩,
    ⟨(some 28), .bin .mul (.t 27) (.c (.d (.int .i64 (256)))), none, []⟩,
    ⟨(some 29), .faddr 0 (.t 1), none, []⟩,
    ⟨(some 30), .load 1 false (.t 29), none, []⟩,
    ⟨(some 31), .mov (.t 4), none, []⟩,
    ⟨(some 32), .mov (.t 7), none, []⟩,
    ⟨(some 33), .bin .add (.t 31) (.t 32), none, []⟩,
    ⟨(some 34), .iaddr 1 (.t 30) (.t 33), none, []⟩,
    ⟨(some 35), .load 1 false (.t 34), none, []⟩,
    ⟨(some 36), .toInt .i64 (.t 35), none, []⟩,
    ⟨(some 37), .bin .add (.t 28) (.t 36), none, []⟩,
    ⟨(some 6), .mov (.t 37), none, []⟩] false))
  (.mask ⟨[1, 3, 4, 5, 6, 7], []⟩ (.region 7 [
    ⟨(some 25), .mov (.t 7), none, []⟩,
    ⟨(some 26), .bin .add (.t 25) (.c (.d (.int .i64 (1)))), none, []⟩,
    ⟨(some 7), .mov (.t 26), none, []⟩] false))))
/-- beadle/beadleref04.Number -/
def code_ref04_Number : AFunc := ⟨40, [.tmp 2, .cell 3 3 true],
  .seq (.region 0 [
    ⟨(some 1), .box 3 (.t 0), none, []⟩,
    ⟨(some 2), .mov (.c (.d (.int .i64 (0)))), none, []⟩,
    ⟨(some 3), .box 3 (.c (.agg [(.d (.vs true [])), (.d (.int .i64 (0))), (.d (.bool false))])), none, []⟩] false)
  (.seq (.region 1 [
    ⟨(some 9), .load 3 true (.t 1), none, []⟩,
    ⟨(some 10), .call (.c (.fn F_ref04_take [])) [(.t 9), (.c (.d (.int .i64 (8))))], none, []⟩,
    ⟨(some 8), .mov (.t 10), none, []⟩,
    ⟨(some 11), .extract (.t 8) 0, none, []⟩,
    ⟨(some 12), .extract (.t 8) 1, none, []⟩,
    ⟨(some 5), .box 3 (.c (.agg [(.d (.vs true [])), (.d (.int .i64 (0))), (.d (.bool false))])), none, []⟩,
    ⟨(some 4), .mov (.t 11), none, []⟩,
    ⟨none, .store 3 (.t 5) (.t 12), none, []⟩] false)
  (.seq (.seq (.region 2 [
    ⟨(some 13), .faddr 2 (.t 5), none, []⟩,
    ⟨(some 14), .load 1 false (.t 13), none, []⟩] false)
  (.cond (.t 14)
    (.seq (.region 3 [
      ⟨(some 15), .load 3 true (.t 5), none, []⟩,
      ⟨(some 2), .mov (.c (.d (.int .i64 (0)))), none, []⟩,
      ⟨none, .store 3 (.t 3) (.t 15), none, [0, 1]⟩] true)
    (.mask ⟨[2, 3], []⟩ (.ret)))
    (.skip)))
  (.mask ⟨[1, 3, 4, 5], []⟩ (.seq (.region 4 [
    ⟨(some 16), .faddr 0 (.t 1), none, []⟩,
    ⟨(some 17), .load 1 false (.t 16), none, []⟩,
    ⟨(some 18), .mov (.t 4), none, []⟩,
    ⟨(some 19), .iaddr 1 (.t 17) (.t 18), none, []⟩,
    ⟨(some 20), .load 1 false (.t 19), none, []⟩,
    ⟨(some 21), .toInt .i8 (.t 20), none, []⟩,
    ⟨(some 22), .toInt .i64 (.t 21), none, []⟩,
    ⟨(some 6), .mov (.t 22), none, []⟩] false)
  (.seq (.seq (.region 5 [
    ⟨(some 7), .mov (.c (.d (.int .i64 (1)))), none, []⟩] false)
  (.block 0 (.loop mask_ref04_Number_0 body_ref04_Number_0)))
  (.mask ⟨[3, 5, 6], []⟩ (.seq (.region 9 [
    ⟨(some 38), .mov (.t 6), none, []⟩,
    ⟨(some 39), .load 3 true (.t 5), none, []⟩,
    ⟨(some 2), .mov (.t 38), none, [0]⟩,
    ⟨none, .store 3 (.t 3) (.t 39), none, [0, 1, 2]⟩] true)
  (.mask ⟨[2, 3], []⟩ (.ret)))))))))⟩
/-- (*beadle/octet.In).take -/
def code_octet_In_take : AFunc := ⟨48, [.tmp 4],
  .seq (.region 0 [
    ⟨(some 4), .mov (.c (.d (.vs true []))), none, []⟩] false)
  (.seq (.seq (.region 1 [
    ⟨(some 6), .mov (.t 0), none, []⟩,
    ⟨(some 7), .isnil .p false (.t 6), none, []⟩,
    ⟨(some 8), .mov (.t 7), none, []⟩,
    ⟨(some 9), .mov (.t 0), (some (8, false)), []⟩,
    ⟨(some 10), .nilchk (.t 9), (some (8, false)), []⟩,
    ⟨(some 11), .faddr 1 (.t 10), (some (8, false)), []⟩,
    ⟨(some 12), .load 1 false (.t 11), (some (8, false)), []⟩,
    ⟨(some 13), .un .not (.t 12), (some (8, false)), []⟩,
    ⟨(some 14), .pick (.t 8) (.c (.d (.bool true))) (.t 13), none, []⟩,
    ⟨(some 15), .mov (.t 14), none, []⟩,
    ⟨(some 16), .mov (.t 0), (some (15, false)), []⟩,
    ⟨(some 17), .nilchk (.t 16), (some (15, false)), []⟩,
    ⟨(some 18), .faddr 2 (.t 17), (some (15, false)), []⟩,
    ⟨(some 19), .load 1 false (.t 18), (some (15, false)), []⟩,
    ⟨(some 20), .bin .neq (.t 19) (.c (.d (.int .i64 (0)))), (some (15, false)), []⟩,
    ⟨(some 21), .pick (.t 15) (.c (.d (.bool true))) (.t 20), none, []⟩] false)
  (.mask ⟨[0, 1, 21], []⟩ (.cond (.t 21)
    (.seq (.region 2 [
      ⟨(some 4), .mov (.c (.d (.vs true []))), none, []⟩] false)
    (.mask ⟨[4], []⟩ (.ret)))
    (.skip))))
  (.mask ⟨[0, 1], []⟩ (.seq (.seq (.region 3 [
    ⟨(some 22), .mov (.t 1), none, []⟩,
    ⟨(some 23), .mov (.t 0), none, []⟩,
    ⟨(some 24), .nilchk (.t 23), none, []⟩,
    ⟨(some 25), .faddr 0 (.t 24), none, []⟩,
    ⟨(some 26), .load 1 false (.t 25), none, []⟩,
    ⟨(some 27), .len .sl (.t 26), none, []⟩,
    ⟨(some 28), .bin .gtr (.t 22) (.t 27), none, []⟩] false)
  (.cond (.t 28)
    (.seq (.region 4 [
      ⟨(some 29), .mov (.t 0), none, []⟩,
      ⟨(some 30), .call (.c (.fn F_octet_In_bad [])) [(.t 29)], none, []⟩] false)
    (.seq (.region 5 [
      ⟨(some 4), .mov (.c (.d (.vs true []))), none, []⟩] false)
    (.mask ⟨[4], []⟩ (.ret))))
    (.skip)))
  (.mask ⟨[0, 1], []⟩ (.seq (.region 6 [
    ⟨(some 31), .mov (.t 0), none, []⟩,
    ⟨(some 32), .nilchk (.t 31), none, []⟩,
    ⟨(some 33), .faddr 0 (.t 32), none, []⟩,
    ⟨(some 34), .load 1 false (.t 33), none, []⟩,
    ⟨(some 35), .mov (.t 1), none, []⟩,
    ⟨(some 36), .mov (.t 1), none, []⟩,
    ⟨(some 37), .slice 1 (.t 34) none (some (.t 35)) (some (.t 36)), none, []⟩,
    ⟨(some 5), .mov (.t 37), none, []⟩] false)
  (.seq (.region 7 [
    ⟨(some 38), .mov (.t 0), none, []⟩,
    ⟨(some 39), .mov (.t 0), none, []⟩,
    ⟨(some 40), .nilchk (.t 39), none, []⟩,
    ⟨(some 41), .faddr 0 (.t 40), none, []⟩,
    ⟨(some 42), .load 1 false (.t 41), none, []⟩,
    ⟨(some 43), .mov (.t 1), none, []⟩,
    ⟨(some 44), .slice 1 (.t 42) (some (.t 43)) none none, none, []⟩,
    ⟨(some 45), .nilchk (.t 38), none, []⟩,
    ⟨(some 46), .faddr 0 (.t 45), none, []⟩,
    ⟨none, .store 1 (.t 46) (.t 44), none, []⟩] false)
  (.seq (.region 8 [
    ⟨(some 47), .mov (.t 5), none, []⟩,
    ⟨(some 4), .mov (.t 47), none, []⟩] false)
  (.mask ⟨[4], []⟩ (.ret)))))))))⟩
/-- (*beadle/octet.In).Text -/
def code_octet_In_Text : AFunc := ⟨8, [.tmp 2],
  .seq (.region 0 [
    ⟨(some 2), .mov (.c (.d (.str []))), none, []⟩] false)
  (.seq (.region 1 [
    ⟨(some 3), .mov (.t 0), none, []⟩,
    ⟨(some 4), .mov (.t 0), none, []⟩,
    ⟨(some 5), .call (.c (.fn F_octet_In_Byte [])) [(.t 4)], none, []⟩,
    ⟨(some 6), .call (.c (.fn F_octet_In_take [])) [(.t 3), (.t 5)], none, []⟩,
    ⟨(some 7), .toStr (.t 6), none, []⟩,
    ⟨(some 2), .mov (.t 7), none, []⟩] false)
  (.mask ⟨[2], []⟩ (.ret)))⟩
def mask_octet_In_Int_0 : Mask := ⟨[3, 7, 8, 9], []⟩
def body_octet_In_Int_0 : ACode :=
  .seq (.region 3 [
    ⟨(some 10), .bin .lss (.t 9) (.t 8), none, []⟩] false)
  (.seq (.cond (.t 10)
    (.skip)
    (.mask ⟨[3], []⟩ (.exit 0)))
  (.mask ⟨[3, 7, 8, 9], []⟩ (.seq (.block 1 (.seq (.region 4 [
    ⟨(some 11), .iaddr 1 (.t 7) (.t 9), none, []⟩,
    ⟨(some 12), .load 1 false (.t 11), none, []⟩,
    ⟨(some 5), .mov (.t 12), none, []⟩] false)
  (.region 5 [
    ⟨(some 13), .mov (.t 3), none, []⟩,
    ⟨(some 14), .bin .shl (.t 13) (.c (.d (.int .u64 (8)))), none, []⟩,
    ⟨(some 15), .mov (.t 5), none, []⟩,
    ⟨(some 16), .toInt .u64 (.t 15), none, []⟩,
    ⟨(some 17), .bin .or (.t 14) (.t 16), none, []⟩,
    ⟨(some 3), .mov (.t 17), none, []⟩] false)))
  (.mask ⟨[3, 7, 8, 9], []⟩ (.region 6 [
    ⟨(some 18), .bin .add (.t 9) (.c (.d (.int .i64 (1)))), none, []⟩,
    ⟨(some 9), .mov (.t 18), none, []⟩] false)))))
/-- (*beadle/octet.In).Int -/
def code_octet_In_Int : AFunc := ⟨21, [.tmp 2],
  .seq (.region 0 [
    ⟨(some 2), .mov (.c (.d (.int .i64 (0)))), none, []⟩] false)
  (.seq (.region 1 [
    ⟨(some 3), .mov (.c (.d (.int .u64 (0)))), none, []⟩] false)
  (.seq (.seq (.region 2 [
    ⟨(some 6), .mov (.t 0), none, []⟩,
    ⟨(some 7), .call (.c (.fn F_octet_In_take [])) [(.t 6), (.c (.d (.int .i64 (8))))], none, []⟩,
    ⟨(some 8), .len .sl (.t 7), none, []⟩,
    ⟨(some 9), .mov (.c (.d (.int .i64 (0)))), none, []⟩] false)
  (.block 0 (.loop mask_octet_In_Int_0 body_octet_In_Int_0)))
  (.mask ⟨[3], []⟩ (.seq (.region 7 [
    ⟨(some 19), .mov (.t 3), none, []⟩,
    ⟨(some 20), .toInt .i64 (.t 19), none, []⟩,
    ⟨(some 2), .mov (.t 20), none, []⟩] false)
  (.mask ⟨[2], []⟩ (.ret))))))⟩
def mask_table_back_0 : Mask := ⟨[1, 2, 4, 6, 23, 24, 25], [.cell 20110 5 22011050 6]⟩
def body_table_back_0 : ACode :=
  .seq (.region 3 [
    ⟨(some 26), .bin .lss (.t 25) (.t 24), none, []⟩] false)
  (.seq (.cond (.t 26)
    (.skip)
    (.mask ⟨[1, 2, 4, 6], [.cell 20110 5 22011050 6]⟩ (.exit 0)))
  (.mask ⟨[1, 2, 4, 6, 23, 24, 25], [.cell 20110 5 22011050 6]⟩ (.seq (.block 1 (.seq (.region 4 [
    ⟨(some 27), .iaddr 1 (.t 23) (.t 25), none, []⟩,
    ⟨(some 28), .load 1 false (.t 27), none, []⟩,
    ⟨(some 8), .mov (.t 28), none, []⟩] false)
  (.region 5 [
    ⟨(some 29), .faddr 5 (.t 6), none, []⟩,
    ⟨(some 30), .load 1 false (.t 29), none, []⟩,
    ⟨(some 31), .mov (.t 8), none, []⟩,
    ⟨(some 32), .build [(.d (.int .i64 (0))), (.d (.str [])), (.d (.int .i64 (0))), (.d (.int .i64 (0))), (.d (.int .i64 (0))), (.d (.vs true []))] [(0, 1, (.c (.d (.int .i64 (3))))), (1, 1, (.t 31))], none, []⟩,
    ⟨(some 33), .buildSl 6 [(.int .i64 (0)), (.str []), (.int .i64 (0)), (.int .i64 (0)), (.int .i64 (0)), (.vs false [])] 1 [(0, (.t 32))], none, []⟩,
    ⟨(some 34), .append 6 (.t 30) (.t 33), none, []⟩,
    ⟨(some 35), .faddr 5 (.t 6), none, []⟩,
    ⟨none, .store 1 (.t 35) (.t 34), none, []⟩] false)))
  (.mask ⟨[1, 2, 4, 6, 23, 24, 25], [.cell 20110 5 22011050 6]⟩ (.region 6 [
    ⟨(some 36), .bin .add (.t 25) (.c (.d (.int .i64 (1)))), none, []⟩,
    ⟨(some 25), .mov (.t 36), none, []⟩] false)))))
def mask_table_back_1 : Mask := ⟨[1, 4, 6, 38, 39, 40], [.cell 20110 5 22011050 6]⟩
def body_table_back_1 : ACode :=
  .seq (.region 8 [
    ⟨(some 41), .bin .lss (.t 40) (.t 39), none, []⟩] false)
  (.seq (.cond (.t 41)
    (.skip)
    (.mask ⟨[4, 6], [.cell 20110 5 22011050 6]⟩ (.exit 2)))
  (.mask ⟨[1, 4, 6, 38, 39, 40], [.cell 20110 5 22011050 6]⟩ (.seq (.block 3 (.seq (.region 9 [
    ⟨(some 42), .iaddr 1 (.t 38) (.t 40), none, []⟩,
    ⟨(some 43), .load 1 false (.t 42), none, []⟩,
    ⟨(some 10), .mov (.t 43), none, []⟩] false)
  (.seq (.seq (.region 10 [
    ⟨(some 44), .mov (.t 10), none, []⟩,
    ⟨(some 45), .bin .lss (.t 44) (.c (.d (.int .i64 (0)))), none, []⟩,
    ⟨(some 46), .mov (.t 45), none, []⟩,
    ⟨(some 47), .mov (.t 10), (some (46, false)), []⟩,
    ⟨(some 48), .mov (.t 1), (some (46, false)), []⟩,
    ⟨(some 49), .len .sl (.t 48), (some (46, false)), []⟩,
    ⟨(some 50), .bin .geq (.t 47) (.t 49), (some (46, false)), []⟩,
    ⟨(some 51), .pick (.t 46) (.c (.d (.bool true))) (.t 50), none, []⟩] false)
  (.mask ⟨[1, 4, 6, 10, 38, 39, 40, 51], [.cell 20110 5 22011050 6]⟩ (.cond (.t 51)
    (.seq (.region 11 [
      ⟨(some 52), .build [(.d (.int .i64 (0))), (.d (.str [])), (.d (.int .i64 (0))), (.d (.int .i64 (0))), (.d (.int .i64 (0))), (.d (.vs true []))] [], none, []⟩,
      ⟨none, .store 6 (.t 4) (.t 52), none, []⟩,
      ⟨(some 5), .mov (.c (.d (.bool false))), none, []⟩] false)
    (.mask ⟨[4, 5], [.cell 20110 5 22011050 6]⟩ (.ret)))
    (.skip))))
  (.mask ⟨[1, 4, 6, 10, 38, 39, 40], [.cell 20110 5 22011050 6]⟩ (.region 12 [
    ⟨(some 53), .faddr 5 (.t 6), none, []⟩,
    ⟨(some 54), .load 1 false (.t 53), none, [0]⟩,
    ⟨(some 55), .mov (.t 1), none, []⟩,
    ⟨(some 56), .mov (.t 10), none, []⟩,
    ⟨(some 57), .iaddr 6 (.t 55) (.t 56), none, [2, 3]⟩,
    ⟨(some 58), .load 6 true (.t 57), none, [2, 3, 4]⟩,
    ⟨(some 59), .buildSl 6 [(.int .i64 (0)), (.str []), (.int .i64 (0)), (.int .i64 (0)), (.int .i64 (0)), (.vs false [])] 1 [(0, (.t 58))], none, [2, 3, 4, 5]⟩,
    ⟨(some 60), .append 6 (.t 54) (.t 59), none, [0, 1, 2, 3, 4, 5, 6]⟩,
    ⟨(some 61), .faddr 5 (.t 6), none, [0, 1, 2, 3, 4, 5, 6, 7]⟩,
    ⟨none, .store 1 (.t 61) (.t 60), none, [0, 1, 2, 3, 4, 5, 6, 7, 8]⟩] true)))))
  (.mask ⟨[1, 4, 6, 38, 39, 40], [.cell 20110 5 22011050 6]⟩ (.region 13 [
    ⟨(some 62), .bin .add (.t 40) (.c (.d (.int .i64 (1)))), none, []⟩,
    ⟨(some 40), .mov (.t 62), none, []⟩] false)))))
/-- beadle/table.back -/
def code_table_back : AFunc := ⟨67, [.cell 4 6 true, .tmp 5],
  .seq (.region 0 [
    ⟨(some 2), .box 7 (.t 0), none, []⟩,
    ⟨(some 4), .box 6 (.c (.agg [(.d (.int .i64 (0))), (.d (.str [])), (.d (.int .i64 (0))), (.d (.int .i64 (0))), (.d (.int .i64 (0))), (.d (.vs true []))])), none, []⟩,
    ⟨(some 5), .mov (.c (.d (.bool false))), none, []⟩] false)
  (.seq (.region 1 [
    ⟨(some 11), .faddr 0 (.t 2), none, []⟩,
    ⟨(some 12), .load 1 false (.t 11), none, []⟩,
    ⟨(some 13), .faddr 1 (.t 2), none, []⟩,
    ⟨(some 14), .load 1 false (.t 13), none, []⟩,
    ⟨(some 15), .faddr 2 (.t 2), none, []⟩,
    ⟨(some 16), .load 1 false (.t 15), none, []⟩,
    ⟨(some 17), .faddr 3 (.t 2), none, []⟩,
    ⟨(some 18), .load 1 false (.t 17), none, []⟩,
    ⟨(some 19), .faddr 4 (.t 2), none, []⟩,
    ⟨(some 20), .load 1 false (.t 19), none, []⟩,
    ⟨(some 21), .build [(.d (.int .i64 (0))), (.d (.str [])), (.d (.int .i64 (0))), (.d (.int .i64 (0))), (.d (.int .i64 (0))), (.d (.vs true []))] [(0, 1, (.t 12)), (1, 1, (.t 14)), (2, 1, (.t 16)), (3, 1, (.t 18)), (4, 1, (.t 20))], none, []⟩,
    ⟨(some 6), .box 6 (.c (.agg [(.d (.int .i64 (0))), (.d (.str [])), (.d (.int .i64 (0))), (.d (.int .i64 (0))), (.d (.int .i64 (0))), (.d (.vs true []))])), none, []⟩,
    ⟨none, .store 6 (.t 6) (.t 21), none, []⟩] false)
  (.seq (.seq (.region 2 [
    ⟨(some 22), .faddr 5 (.t 2), none, []⟩,
    ⟨(some 23), .load 1 false (.t 22), none, []⟩,
    ⟨(some 24), .len .sl (.t 23), none, []⟩,
    ⟨(some 25), .mov (.c (.d (.int .i64 (0)))), none, []⟩] false)
  (.block 0 (.loop mask_table_back_0 body_table_back_0)))
  (.mask ⟨[1, 2, 4, 6], [.cell 20110 5 22011050 6]⟩ (.seq (.seq (.region 7 [
    ⟨(some 37), .faddr 6 (.t 2), none, []⟩,
    ⟨(some 38), .load 1 false (.t 37), none, []⟩,
    ⟨(some 39), .len .sl (.t 38), none, []⟩,
    ⟨(some 40), .mov (.c (.d (.int .i64 (0)))), none, []⟩] false)
  (.block 2 (.loop mask_table_back_1 body_table_back_1)))
  (.mask ⟨[4, 6], [.cell 20110 5 22011050 6]⟩ (.seq (.region 14 [
    ⟨(some 63), .load 6 true (.t 6), none, []⟩,
    ⟨(some 64), .load 6 true (.t 6), none, []⟩,
    ⟨(some 65), .call (.c (.fn F_ast_Check [])) [(.t 64)], none, [1]⟩,
    ⟨(some 66), .bin .eql (.t 65) (.c (.d (.int .i64 (0)))), none, [1, 2]⟩,
    ⟨none, .store 6 (.t 4) (.t 63), none, [0, 1, 2]⟩,
    ⟨(some 5), .mov (.t 66), none, [0, 1, 2, 3, 4]⟩] true)
  (.mask ⟨[4, 5], [.cell 20110 5 22011050 6]⟩ (.ret))))))))⟩
def mask_slices_EqualFunc_table_Row_table_Row_table_Row_table_Row_0 : Mask := ⟨[1, 2, 15, 16, 17], []⟩
def body_slices_EqualFunc_table_Row_table_Row_table_Row_table_Row_0 : ACode :=
  .seq (.region 4 [
    ⟨(some 18), .bin .lss (.t 17) (.t 16), none, []⟩] false)
  (.seq (.cond (.t 18)
    (.skip)
    (.mask ⟨[], []⟩ (.exit 0)))
  (.mask ⟨[1, 2, 15, 16, 17], []⟩ (.seq (.block 1 (.seq (.region 5 [
    ⟨(some 19), .mov (.t 17), none, []⟩,
    ⟨(some 20), .iaddr 7 (.t 15) (.t 17), none, []⟩,
    ⟨(some 21), .load 7 true (.t 20), none, []⟩,
    ⟨(some 8), .box 7 (.c (.agg [(.d (.int .i64 (0))), (.d (.str [])), (.d (.int .i64 (0))), (.d (.int .i64 (0))), (.d (.int .i64 (0))), (.d (.vs true [])), (.d (.vs true []))])), none, []⟩,
    ⟨(some 7), .mov (.t 19), none, []⟩,
    ⟨none, .store 7 (.t 8) (.t 21), none, []⟩] false)
  (.seq (.region 6 [
    ⟨(some 22), .mov (.t 1), none, []⟩,
    ⟨(some 23), .mov (.t 7), none, []⟩,
    ⟨(some 24), .iaddr 7 (.t 22) (.t 23), none, []⟩,
    ⟨(some 25), .load 7 true (.t 24), none, []⟩,
    ⟨(some 9), .box 7 (.c (.agg [(.d (.int .i64 (0))), (.d (.str [])), (.d (.int .i64 (0))), (.d (.int .i64 (0))), (.d (.int .i64 (0))), (.d (.vs true [])), (.d (.vs true []))])), none, []⟩,
    ⟨none, .store 7 (.t 9) (.t 25), none, []⟩] false)
  (.seq (.region 7 [
    ⟨(some 26), .mov (.t 2), none, []⟩,
    ⟨(some 27), .load 7 true (.t 8), none, []⟩,
    ⟨(some 28), .load 7 true (.t 9), none, []⟩,
    ⟨(some 29), .call (.t 26) [(.t 27), (.t 28)], none, []⟩,
    ⟨(some 30), .un .not (.t 29), none, []⟩] false)
  (.cond (.t 30)
    (.seq (.region 8 [
      ⟨(some 6), .mov (.c (.d (.bool false))), none, []⟩] false)
    (.mask ⟨[6], []⟩ (.ret)))
    (.skip))))))
  (.mask ⟨[1, 2, 15, 16, 17], []⟩ (.region 9 [
    ⟨(some 31), .bin .add (.t 17) (.c (.d (.int .i64 (1)))), none, []⟩,
    ⟨(some 17), .mov (.t 31), none, []⟩] false)))))
/-- slices.EqualFunc[[]beadle/table.Row,[]beadle/table.Row,beadle/table.Row,beadle/table.Row] -/
def code_slices_EqualFunc_table_Row_table_Row_table_Row_table_Row : AFunc := ⟨32, [.tmp 6],
  .seq (.region 0 [
    ⟨(some 6), .mov (.c (.d (.bool false))), none, []⟩] false)
  (.seq (.seq (.region 1 [
    ⟨(some 10), .mov (.t 0), none, []⟩,
    ⟨(some 11), .len .sl (.t 10), none, []⟩,
    ⟨(some 12), .mov (.t 1), none, []⟩,
    ⟨(some 13), .len .sl (.t 12), none, []⟩,
    ⟨(some 14), .bin .neq (.t 11) (.t 13), none, []⟩] false)
  (.cond (.t 14)
    (.seq (.region 2 [
      ⟨(some 6), .mov (.c (.d (.bool false))), none, []⟩] false)
    (.mask ⟨[6], []⟩ (.ret)))
    (.skip)))
  (.mask ⟨[0, 1, 2], []⟩ (.seq (.seq (.region 3 [
    ⟨(some 15), .mov (.t 0), none, []⟩,
    ⟨(some 16), .len .sl (.t 15), none, []⟩,
    ⟨(some 17), .mov (.c (.d (.int .i64 (0)))), none, []⟩] false)
  (.block 0 (.loop mask_slices_EqualFunc_table_Row_table_Row_table_Row_table_Row_0 body_slices_EqualFunc_table_Row_table_Row_table_Row_table_Row_0)))
  (.mask ⟨[], []⟩ (.seq (.region 10 [
    ⟨(some 6), .mov (.c (.d (.bool true))), none, []⟩] false)
  (.mask ⟨[6], []⟩ (.ret)))))))⟩
/-- beadle/table.same -/
def code_table_same : AFunc := ⟨52, [.tmp 4],
  .seq (.region 0 [
    ⟨(some 2), .box 7 (.t 0), none, []⟩,
    ⟨(some 3), .box 7 (.t 1), none, []⟩,
    ⟨(some 4), .mov (.c (.d (.bool false))), none, []⟩] false)
  (.seq (.region 1 [
    ⟨(some 5), .faddr 0 (.t 2), none, []⟩,
    ⟨(some 6), .load 1 false (.t 5), none, []⟩,
    ⟨(some 7), .faddr 0 (.t 3), none, []⟩,
    ⟨(some 8), .load 1 false (.t 7), none, []⟩,
    ⟨(some 9), .bin .eql (.t 6) (.t 8), none, []⟩,
    ⟨(some 10), .mov (.t 9), none, []⟩,
    ⟨(some 11), .faddr 1 (.t 2), (some (10, true)), []⟩,
    ⟨(some 12), .load 1 false (.t 11), (some (10, true)), []⟩,
    ⟨(some 13), .faddr 1 (.t 3), (some (10, true)), []⟩,
    ⟨(some 14), .load 1 false (.t 13), (some (10, true)), []⟩,
    ⟨(some 15), .bin .eql (.t 12) (.t 14), (some (10, true)), []⟩,
    ⟨(some 16), .pick (.t 10) (.t 15) (.c (.d (.bool false))), none, []⟩,
    ⟨(some 17), .mov (.t 16), none, []⟩,
    ⟨(some 18), .faddr 2 (.t 2), (some (17, true)), []⟩,
    ⟨(some 19), .load 1 false (.t 18), (some (17, true)), []⟩,
    ⟨(some 20), .faddr 2 (.t 3), (some (17, true)), []⟩,
    ⟨(some 21), .load 1 false (.t 20), (some (17, true)), []⟩,
    ⟨(some 22), .bin .eql (.t 19) (.t 21), (some (17, true)), []⟩,
    ⟨(some 23), .pick (.t 17) (.t 22) (.c (.d (.bool false))), none, []⟩,
    ⟨(some 24), .mov (.t 23), none, []⟩,
    ⟨(some 25), .faddr 3 (.t 2), (some (24, true)), []⟩,
    ⟨(some 26), .load 1 false (.t 25), (some (24, true)), []⟩,
    ⟨(some 27), .faddr 3 (.t 3), (some (24, true)), []⟩,
    ⟨(some 28), .load 1 false (.t 27), (some (24, true)), []⟩,
    ⟨(some 29), .bin .eql (.t 26) (.t 28), (some (24, true)), []⟩,
    ⟨(some 30), .pick (.t 24) (.t 29) (.c (.d (.bool false))), none, []⟩,
    ⟨(some 31), .mov (.t 30), none, []⟩,
    ⟨(some 32), .faddr 4 (.t 2), (some (31, true)), []⟩,
    ⟨(some 33), .load 1 false (.t 32), (some (31, true)), []⟩,
    ⟨(some 34), .faddr 4 (.t 3), (some (31, true)), []⟩,
    ⟨(some 35), .load 1 false (.t 34), (some (31, true)), []⟩,
    ⟨(some 36), .bin .eql (.t 33) (.t 35), (some (31, true)), []⟩,
    ⟨(some 37), .pick (.t 31) (.t 36) (.c (.d (.bool false))), none, []⟩,
    ⟨(some 38), .mov (.t 37), none, []⟩,
    ⟨(some 39), .faddr 5 (.t 2), (some (38, true)), []⟩,
    ⟨(some 40), .load 1 false (.t 39), (some (38, true)), []⟩,
    ⟨(some 41), .faddr 5 (.t 3), (some (38, true)), []⟩,
    ⟨(some 42), .load 1 false (.t 41), (some (38, true)), []⟩,
    ⟨(some 43), .call (.c (.fn F_slices_Equal_string_string [])) [(.t 40), (.t 42)], (some (38, true)), []⟩,
    ⟨(some 44), .pick (.t 38) (.t 43) (.c (.d (.bool false))), none, []⟩,
    ⟨(some 45), .mov (.t 44), none, []⟩,
    ⟨(some 46), .faddr 6 (.t 2), (some (45, true)), []⟩,
    ⟨(some 47), .load 1 false (.t 46), (some (45, true)), []⟩,
    ⟨(some 48), .faddr 6 (.t 3), (some (45, true)), []⟩,
    ⟨(some 49), .load 1 false (.t 48), (some (45, true)), []⟩,
    ⟨(some 50), .call (.c (.fn F_slices_Equal_int_int [])) [(.t 47), (.t 49)], (some (45, true)), []⟩,
    ⟨(some 51), .pick (.t 45) (.t 50) (.c (.d (.bool false))), none, []⟩,
    ⟨(some 4), .mov (.t 51), none, []⟩] false)
  (.mask ⟨[4], []⟩ (.ret)))⟩
def mask_ast_Clone_0 : Mask := ⟨[1, 2, 3, 7, 8, 9], [.slot 3 10000030 6]⟩
def body_ast_Clone_0 : ACode :=
  .seq (.region 3 [
    ⟨(some 10), .bin .lss (.t 9) (.t 8), none, []⟩] false)
  (.seq (.cond (.t 10)
    (.skip)
    (.mask ⟨[1, 2, 3], [.slot 3 10000030 6]⟩ (.exit 0)))
  (.mask ⟨[1, 2, 3, 7, 8, 9], [.slot 3 10000030 6]⟩ (.seq (.block 1 (.seq (.region 4 [
    ⟨(some 11), .iaddr 6 (.t 7) (.t 9), none, []⟩,
    ⟨(some 12), .load 6 true (.t 11), none, []⟩,
    ⟨(some 5), .box 6 (.c (.agg [(.d (.int .i64 (0))), (.d (.str [])), (.d (.int .i64 (0))), (.d (.int .i64 (0))), (.d (.int .i64 (0))), (.d (.vs true []))])), none, []⟩,
    ⟨none, .store 6 (.t 5) (.t 12), none, []⟩] false)
  (.region 5 [
    ⟨(some 13), .mov (.t 3), none, []⟩,
    ⟨(some 14), .load 6 true (.t 5), none, []⟩,
    ⟨(some 15), .call (.c (.fn F_ast_Clone [])) [(.t 14)], none, []⟩,
    ⟨(some 16), .buildSl 6 [(.int .i64 (0)), (.str []), (.int .i64 (0)), (.int .i64 (0)), (.int .i64 (0)), (.vs false [])] 1 [(0, (.t 15))], none, []⟩,
    ⟨(some 17), .append 6 (.t 13) (.t 16), none, []⟩,
    ⟨(some 3), .mov (.t 17), none, []⟩] false)))
  (.mask ⟨[1, 2, 3, 7, 8, 9], [.slot 3 10000030 6]⟩ (.region 6 [
    ⟨(some 18), .bin .add (.t 9) (.c (.d (.int .i64 (1)))), none, []⟩,
    ⟨(some 9), .mov (.t 18), none, []⟩] false)))))
/-- beadle/ast.Clone -/
def code_ast_Clone : AFunc := ⟨22, [.cell 2 6 true],
  .seq (.region 0 [
    ⟨(some 1), .box 6 (.t 0), none, []⟩,
    ⟨(some 2), .box 6 (.c (.agg [(.d (.int .i64 (0))), (.d (.str [])), (.d (.int .i64 (0))), (.d (.int .i64 (0))), (.d (.int .i64 (0))), (.d (.vs true []))])), none, []⟩] false)
  (.seq (.region 1 [
    ⟨(some 3), .mov (.c (.d (.vs true []))), none, []⟩] false)
  (.seq (.seq (.region 2 [
    ⟨(some 6), .faddr 5 (.t 1), none, []⟩,
    ⟨(some 7), .load 1 false (.t 6), none, []⟩,
    ⟨(some 8), .len .sl (.t 7), none, []⟩,
    ⟨(some 9), .mov (.c (.d (.int .i64 (0)))), none, []⟩] false)
  (.block 0 (.loop mask_ast_Clone_0 body_ast_Clone_0)))
  (.mask ⟨[1, 2, 3], [.slot 3 10000030 6]⟩ (.seq (.region 7 [
    ⟨(some 19), .mov (.t 3), none, []⟩,
    ⟨(some 20), .faddr 5 (.t 1), none, []⟩,
    ⟨none, .store 1 (.t 20) (.t 19), none, []⟩] false)
  (.seq (.region 8 [
    ⟨(some 21), .load 6 true (.t 1), none, []⟩,
    ⟨none, .store 6 (.t 2) (.t 21), none, []⟩] false)
  (.mask ⟨[2], []⟩ (.ret)))))))⟩
/-- beadle/ast.inner -/
def code_ast_inner : AFunc := ⟨8, [.tmp 2],
  .seq (.region 0 [
    ⟨(some 1), .box 6 (.t 0), none, []⟩,
    ⟨(some 2), .mov (.c (.d (.vs true []))), none, []⟩] false)
  (.seq (.seq (.region 1 [
    ⟨(some 3), .faddr 0 (.t 1), none, []⟩,
    ⟨(some 4), .load 1 false (.t 3), none, []⟩,
    ⟨(some 5), .bin .eql (.t 4) (.c (.d (.int .i64 (4)))), none, []⟩] false)
  (.cond (.t 5)
    (.seq (.region 2 [
      ⟨(some 2), .mov (.c (.d (.vs true []))), none, []⟩] false)
    (.mask ⟨[2], []⟩ (.ret)))
    (.skip)))
  (.mask ⟨[1], []⟩ (.seq (.region 3 [
    ⟨(some 6), .faddr 5 (.t 1), none, []⟩,
    ⟨(some 7), .load 1 false (.t 6), none, []⟩,
    ⟨(some 2), .mov (.t 7), none, []⟩] false)
  (.mask ⟨[2], []⟩ (.ret)))))⟩
/-- beadle/ast.own -/
def code_ast_own : AFunc := ⟨69, [.tmp 2],
  .seq (.region 0 [
    ⟨(some 1), .box 6 (.t 0), none, []⟩,
    ⟨(some 2), .mov (.c (.d (.bool false))), none, []⟩] false)
  (.seq (.region 1 [
    ⟨(some 7), .faddr 1 (.t 1), none, []⟩,
    ⟨(some 8), .load 1 false (.t 7), none, [0]⟩,
    ⟨(some 9), .bin .eql (.t 8) (.c (.d (.str []))), none, [0, 1]⟩,
    ⟨(some 10), .faddr 2 (.t 1), none, []⟩,
    ⟨(some 11), .load 1 false (.t 10), none, [3]⟩,
    ⟨(some 12), .bin .eql (.t 11) (.c (.d (.int .i64 (0)))), none, [3, 4]⟩,
    ⟨(some 13), .faddr 3 (.t 1), none, []⟩,
    ⟨(some 14), .load 1 false (.t 13), none, [6]⟩,
    ⟨(some 15), .bin .eql (.t 14) (.c (.d (.int .i64 (0)))), none, [6, 7]⟩,
    ⟨(some 16), .faddr 4 (.t 1), none, []⟩,
    ⟨(some 17), .load 1 false (.t 16), none, [9]⟩,
    ⟨(some 18), .bin .eql (.t 17) (.c (.d (.int .i64 (0)))), none, [9, 10]⟩,
    ⟨(some 3), .mov (.t 9), none, [0, 1, 2]⟩,
    ⟨(some 4), .mov (.t 12), none, [0, 1, 2, 3, 4, 5, 12]⟩,
    ⟨(some 5), .mov (.t 15), none, [0, 1, 2, 3, 4, 5, 6, 7, 8, 12, 13]⟩,
    ⟨(some 6), .mov (.t 18), none, [0, 1, 2, 3, 4, 5, 6, 7, 8, 9, 10, 11, 12, 13, 14]⟩] true)
  (.seq (.seq (.region 2 [
    ⟨(some 19), .faddr 0 (.t 1), none, []⟩,
    ⟨(some 20), .load 1 false (.t 19), none, []⟩] false)
  (.block 0 (.seq (.block 6 (.seq (.block 5 (.seq (.block 4 (.seq (.block 3 (.seq (.block 2 (.seq (.block 1 (.seq (.seq (.seq (.region 3 [
    ⟨(some 22), .bin .eql (.t 20) (.c (.d (.int .i64 (1)))), none, []⟩,
    ⟨(some 21), .mov (.t 22), none, []⟩] false)
  (.cond (.t 21)
    (.mask ⟨[1, 3, 5, 6], []⟩ (.exit 1))
    (.skip)))
  (.mask ⟨[1, 3, 4, 5, 6, 20], []⟩ (.seq (.seq (.region 4 [
    ⟨(some 24), .bin .eql (.t 20) (.c (.d (.int .i64 (2)))), none, []⟩,
    ⟨(some 23), .mov (.t 24), none, []⟩] false)
  (.cond (.t 23)
    (.mask ⟨[1, 3, 5, 6], []⟩ (.exit 2))
    (.skip)))
  (.mask ⟨[1, 3, 4, 5, 6, 20], []⟩ (.seq (.seq (.region 5 [
    ⟨(some 26), .bin .eql (.t 20) (.c (.d (.int .i64 (3)))), none, []⟩,
    ⟨(some 25), .mov (.t 26), none, []⟩] false)
  (.cond (.t 25)
    (.mask ⟨[1, 4, 5, 6], []⟩ (.exit 3))
    (.skip)))
  (.mask ⟨[1, 3, 4, 5, 6, 20], []⟩ (.seq (.seq (.region 6 [
    ⟨(some 28), .bin .eql (.t 20) (.c (.d (.int .i64 (13)))), none, []⟩,
    ⟨(some 27), .mov (.t 28), none, []⟩] false)
  (.cond (.t 27)
    (.mask ⟨[1, 4, 5], []⟩ (.exit 4))
    (.skip)))
  (.mask ⟨[1, 3, 4, 5, 6, 20], []⟩ (.seq (.seq (.seq (.region 7 [
    ⟨(some 30), .bin .eql (.t 20) (.c (.d (.int .i64 (5)))), none, []⟩,
    ⟨(some 29), .mov (.t 30), none, []⟩] false)
  (.cond (.t 29)
    (.skip)
    (.seq (.region 8 [
      ⟨(some 31), .bin .eql (.t 20) (.c (.d (.int .i64 (6)))), none, []⟩,
      ⟨(some 29), .mov (.t 31), none, []⟩] false)
    (.cond (.t 29)
      (.skip)
      (.region 9 [
        ⟨(some 32), .bin .eql (.t 20) (.c (.d (.int .i64 (21)))), none, []⟩,
        ⟨(some 29), .mov (.t 32), none, []⟩] false)))))
  (.mask ⟨[1, 3, 4, 5, 6, 20, 29], []⟩ (.cond (.t 29)
    (.mask ⟨[1, 4, 5, 6], []⟩ (.exit 5))
    (.skip))))
  (.mask ⟨[1, 3, 4, 5, 6, 20], []⟩ (.seq (.seq (.region 10 [
    ⟨(some 34), .bin .eql (.t 20) (.c (.d (.int .i64 (22)))), none, []⟩,
    ⟨(some 33), .mov (.t 34), none, []⟩] false)
  (.cond (.t 33)
    (.skip)
    (.seq (.region 11 [
      ⟨(some 35), .bin .eql (.t 20) (.c (.d (.int .i64 (23)))), none, []⟩,
      ⟨(some 33), .mov (.t 35), none, []⟩] false)
    (.cond (.t 33)
      (.skip)
      (.region 12 [
        ⟨(some 36), .bin .eql (.t 20) (.c (.d (.int .i64 (24)))), none, []⟩,
        ⟨(some 33), .mov (.t 36), none, []⟩] false)))))
  (.mask ⟨[1, 3, 4, 5, 6, 33], []⟩ (.cond (.t 33)
    (.mask ⟨[1, 3, 4], []⟩ (.exit 6))
    (.skip))))))))))))))
  (.mask ⟨[3, 4, 5, 6], []⟩ (.exit 0))))
  (.mask ⟨[1, 3, 5, 6], []⟩ (.seq (.region 13 [
    ⟨(some 37), .faddr 2 (.t 1), none, []⟩,
    ⟨(some 38), .load 1 false (.t 37), none, []⟩,
    ⟨(some 39), .bin .geq (.t 38) (.c (.d (.int .i64 (0)))), none, []⟩,
    ⟨(some 4), .mov (.t 39), none, []⟩] false)
  (.mask ⟨[3, 4, 5, 6], []⟩ (.exit 0))))))
  (.mask ⟨[1, 3, 5, 6], []⟩ (.seq (.region 14 [
    ⟨(some 40), .faddr 2 (.t 1), none, []⟩,
    ⟨(some 41), .load 1 false (.t 40), none, []⟩,
    ⟨(some 42), .bin .eql (.t 41) (.c (.d (.int .i64 (0)))), none, []⟩,
    ⟨(some 43), .mov (.t 42), none, []⟩,
    ⟨(some 44), .faddr 2 (.t 1), (some (43, false)), []⟩,
    ⟨(some 45), .load 1 false (.t 44), (some (43, false)), []⟩,
    ⟨(some 46), .bin .eql (.t 45) (.c (.d (.int .i64 (1)))), (some (43, false)), []⟩,
    ⟨(some 47), .pick (.t 43) (.c (.d (.bool true))) (.t 46), none, []⟩,
    ⟨(some 4), .mov (.t 47), none, []⟩] false)
  (.mask ⟨[3, 4, 5, 6], []⟩ (.exit 0))))))
  (.mask ⟨[1, 4, 5, 6], []⟩ (.seq (.region 15 [
    ⟨(some 48), .faddr 1 (.t 1), none, []⟩,
    ⟨(some 49), .load 1 false (.t 48), none, []⟩,
    ⟨(some 50), .call (.c (.fn F_lex_Plain [])) [(.t 49)], none, []⟩,
    ⟨(some 3), .mov (.t 50), none, []⟩] false)
  (.mask ⟨[3, 4, 5, 6], []⟩ (.exit 0))))))
  (.mask ⟨[1, 4, 5], []⟩ (.region 16 [
    ⟨(some 51), .faddr 4 (.t 1), none, []⟩,
    ⟨(some 52), .load 1 false (.t 51), none, []⟩,
    ⟨(some 53), .bin .geq (.t 52) (.c (.d (.int .i64 (0)))), none, []⟩,
    ⟨(some 6), .mov (.t 53), none, []⟩] false))))
  (.mask ⟨[1, 4, 5, 6], []⟩ (.seq (.region 17 [
    ⟨(some 54), .faddr 1 (.t 1), none, []⟩,
    ⟨(some 55), .load 1 false (.t 54), none, []⟩,
    ⟨(some 56), .call (.c (.fn F_lex_Name [])) [(.t 55)], none, []⟩,
    ⟨(some 3), .mov (.t 56), none, []⟩] false)
  (.mask ⟨[3, 4, 5, 6], []⟩ (.exit 0))))))
  (.mask ⟨[1, 3, 4], []⟩ (.seq (.region 18 [
    ⟨(some 57), .load 6 true (.t 1), none, []⟩,
    ⟨(some 58), .call (.c (.fn F_ast_span [])) [(.t 57)], none, []⟩,
    ⟨(some 5), .mov (.t 58), none, []⟩,
    ⟨(some 6), .mov (.c (.d (.bool true))), none, []⟩] false)
  (.mask ⟨[3, 4, 5, 6], []⟩ (.exit 0)))))))
  (.mask ⟨[3, 4, 5, 6], []⟩ (.seq (.region 19 [
    ⟨(some 59), .mov (.t 3), none, []⟩,
    ⟨(some 60), .mov (.t 59), none, []⟩,
    ⟨(some 61), .mov (.t 4), (some (60, true)), []⟩,
    ⟨(some 62), .pick (.t 60) (.t 61) (.c (.d (.bool false))), none, []⟩,
    ⟨(some 63), .mov (.t 62), none, []⟩,
    ⟨(some 64), .mov (.t 5), (some (63, true)), []⟩,
    ⟨(some 65), .pick (.t 63) (.t 64) (.c (.d (.bool false))), none, []⟩,
    ⟨(some 66), .mov (.t 65), none, []⟩,
    ⟨(some 67), .mov (.t 6), (some (66, true)), []⟩,
    ⟨(some 68), .pick (.t 66) (.t 67) (.c (.d (.bool false))), none, []⟩,
    ⟨(some 2), .mov (.t 68), none, []⟩] false)
  (.mask ⟨[2], []⟩ (.ret))))))⟩
def mask_ast_texts_0 : Mask := ⟨[0, 5, 6, 7], []⟩
def body_ast_texts_0 : ACode :=
  .seq (.region 2 [
    ⟨(some 8), .bin .lss (.t 7) (.t 6), none, []⟩] false)
  (.seq (.cond (.t 8)
    (.skip)
    (.mask ⟨[0], []⟩ (.exit 0)))
  (.mask ⟨[0, 5, 6, 7], []⟩ (.seq (.block 1 (.seq (.region 3 [
    ⟨(some 9), .mov (.t 7), none, []⟩,
    ⟨(some 10), .iaddr 6 (.t 5) (.t 7), none, []⟩,
    ⟨(some 11), .load 6 true (.t 10), none, []⟩,
    ⟨(some 4), .box 6 (.c (.agg [(.d (.int .i64 (0))), (.d (.str [])), (.d (.int .i64 (0))), (.d (.int .i64 (0))), (.d (.int .i64 (0))), (.d (.vs true []))])), none, []⟩,
    ⟨(some 3), .mov (.t 9), none, []⟩,
    ⟨none, .store 6 (.t 4) (.t 11), none, []⟩] false)
  (.seq (.region 4 [
    ⟨(some 12), .faddr 0 (.t 4), none, []⟩,
    ⟨(some 13), .load 1 false (.t 12), none, [0]⟩,
    ⟨(some 14), .bin .neq (.t 13) (.c (.d (.int .i64 (3)))), none, [0, 1]⟩,
    ⟨(some 15), .mov (.t 14), none, [0, 1, 2]⟩,
    ⟨(some 16), .load 6 true (.t 4), (some (15, false)), [0, 1, 2, 3]⟩,
    ⟨(some 17), .call (.c (.fn F_ast_may [])) [(.t 16)], (some (15, false)), [0, 1, 2, 3, 4]⟩,
    ⟨(some 18), .un .not (.t 17), (some (15, false)), [0, 1, 2, 3, 4, 5]⟩,
    ⟨(some 19), .pick (.t 15) (.c (.d (.bool true))) (.t 18), none, [0, 1, 2, 3, 4, 5, 6]⟩,
    ⟨(some 20), .mov (.t 19), none, [0, 1, 2, 3, 4, 5, 6, 7]⟩,
    ⟨(some 21), .mov (.t 3), (some (20, false)), [0, 1, 2, 3, 4, 5, 6, 7, 8]⟩,
    ⟨(some 22), .bin .gtr (.t 21) (.c (.d (.int .i64 (0)))), (some (20, false)), [0, 1, 2, 3, 4, 5, 6, 7, 8, 9]⟩,
    ⟨(some 23), .mov (.t 22), (some (20, false)), [0, 1, 2, 3, 4, 5, 6, 7, 8, 9, 10]⟩,
    ⟨(some 24), .faddr 1 (.t 4), (some (23, true)), [0, 1, 2, 3, 4, 5, 6, 7, 8, 9, 10, 11]⟩,
    ⟨(some 25), .load 1 false (.t 24), (some (23, true)), [0, 1, 2, 3, 4, 5, 6, 7, 8, 9, 10, 11, 12]⟩,
    ⟨(some 26), .mov (.t 0), (some (23, true)), [0, 1, 2, 3, 4, 5, 6, 7, 8, 9, 10, 11]⟩,
    ⟨(some 27), .mov (.t 3), (some (23, true)), [0, 1, 2, 3, 4, 5, 6, 7, 8, 9, 10, 11]⟩,
    ⟨(some 28), .bin .sub (.t 27) (.c (.d (.int .i64 (1)))), (some (23, true)), [0, 1, 2, 3, 4, 5, 6, 7, 8, 9, 10, 11, 15]⟩,
    ⟨(some 29), .iaddr 6 (.t 26) (.t 28), (some (23, true)), [0, 1, 2, 3, 4, 5, 6, 7, 8, 9, 10, 11, 14, 15, 16]⟩,
    ⟨(some 30), .faddr 1 (.t 29), (some (23, true)), [0, 1, 2, 3, 4, 5, 6, 7, 8, 9, 10, 11, 14, 15, 16, 17]⟩,
    ⟨(some 31), .load 1 false (.t 30), (some (23, true)), [0, 1, 2, 3, 4, 5, 6, 7, 8, 9, 10, 11, 14, 15, 16, 17, 18]⟩,
    ⟨(some 32), .bin .leq (.t 25) (.t 31), (some (23, true)), [0, 1, 2, 3, 4, 5, 6, 7, 8, 9, 10, 11, 12, 13, 14, 15, 16, 17, 18, 19]⟩,
    ⟨(some 33), .pick (.t 23) (.t 32) (.c (.d (.bool false))), (some (20, false)), [0, 1, 2, 3, 4, 5, 6, 7, 8, 9, 10, 11, 12, 13, 14, 15, 16, 17, 18, 19, 20]⟩,
    ⟨(some 34), .pick (.t 20) (.c (.d (.bool true))) (.t 33), none, [0, 1, 2, 3, 4, 5, 6, 7, 8, 9, 10, 11, 12, 13, 14, 15, 16, 17, 18, 19, 20, 21]⟩] true)
  (.mask ⟨[0, 5, 6, 7, 34], []⟩ (.cond (.t 34)
    (.seq (.region 5 [
      ⟨(some 2), .mov (.c (.d (.bool false))), none, []⟩] false)
    (.mask ⟨[2], []⟩ (.ret)))
    (.skip))))))
  (.mask ⟨[0, 5, 6, 7], []⟩ (.region 6 [
    ⟨(some 35), .bin .add (.t 7) (.c (.d (.int .i64 (1)))), none, []⟩,
    ⟨(some 7), .mov (.t 35), none, []⟩] false)))))
/-- beadle/ast.texts -/
def code_ast_texts : AFunc := ⟨39, [.tmp 2],
  .seq (.region 0 [
    ⟨(some 2), .mov (.c (.d (.bool false))), none, []⟩] false)
  (.seq (.seq (.region 1 [
    ⟨(some 5), .mov (.t 0), none, []⟩,
    ⟨(some 6), .len .sl (.t 5), none, []⟩,
    ⟨(some 7), .mov (.c (.d (.int .i64 (0)))), none, []⟩] false)
  (.block 0 (.loop mask_ast_texts_0 body_ast_texts_0)))
  (.mask ⟨[0], []⟩ (.seq (.region 7 [
    ⟨(some 36), .mov (.t 0), none, []⟩,
    ⟨(some 37), .len .sl (.t 36), none, []⟩,
    ⟨(some 38), .bin .leq (.t 37) (.c (.d (.int .i64 (8)))), none, []⟩,
    ⟨(some 2), .mov (.t 38), none, []⟩] false)
  (.mask ⟨[2], []⟩ (.ret)))))⟩
/-- beadle/ast.Kids -/
def code_ast_Kids : AFunc := ⟨33, [.tmp 2],
  .seq (.region 0 [
    ⟨(some 2), .mov (.c (.d (.int .i64 (0)))), none, []⟩] false)
  (.seq (.seq (.region 1 [
    ⟨(some 3), .mov (.t 0), none, []⟩] false)
  (.block 0 (.seq (.seq (.region 2 [
    ⟨(some 5), .bin .eql (.t 3) (.c (.d (.int .i64 (1)))), none, []⟩,
    ⟨(some 4), .mov (.t 5), none, []⟩] false)
  (.cond (.t 4)
    (.skip)
    (.seq (.region 3 [
      ⟨(some 6), .bin .eql (.t 3) (.c (.d (.int .i64 (2)))), none, []⟩,
      ⟨(some 4), .mov (.t 6), none, []⟩] false)
    (.cond (.t 4)
      (.skip)
      (.seq (.region 4 [
        ⟨(some 7), .bin .eql (.t 3) (.c (.d (.int .i64 (3)))), none, []⟩,
        ⟨(some 4), .mov (.t 7), none, []⟩] false)
      (.cond (.t 4)
        (.skip)
        (.seq (.region 5 [
          ⟨(some 8), .bin .eql (.t 3) (.c (.d (.int .i64 (5)))), none, []⟩,
          ⟨(some 4), .mov (.t 8), none, []⟩] false)
        (.cond (.t 4)
          (.skip)
          (.seq (.region 6 [
            ⟨(some 9), .bin .eql (.t 3) (.c (.d (.int .i64 (6)))), none, []⟩,
            ⟨(some 4), .mov (.t 9), none, []⟩] false)
          (.cond (.t 4)
            (.skip)
            (.seq (.region 7 [
              ⟨(some 10), .bin .eql (.t 3) (.c (.d (.int .i64 (7)))), none, []⟩,
              ⟨(some 4), .mov (.t 10), none, []⟩] false)
            (.cond (.t 4)
              (.skip)
              (.seq (.region 8 [
                ⟨(some 11), .bin .eql (.t 3) (.c (.d (.int .i64 (13)))), none, []⟩,
                ⟨(some 4), .mov (.t 11), none, []⟩] false)
              (.cond (.t 4)
                (.skip)
                (.region 9 [
                  ⟨(some 12), .bin .eql (.t 3) (.c (.d (.int .i64 (21)))), none, []⟩,
                  ⟨(some 4), .mov (.t 12), none, []⟩] false)))))))))))))))
  (.mask ⟨[3, 4], []⟩ (.cond (.t 4)
    (.seq (.region 10 [
      ⟨(some 2), .mov (.c (.d (.int .i64 (0)))), none, []⟩] false)
    (.mask ⟨[2], []⟩ (.ret)))
    (.seq (.seq (.region 11 [
      ⟨(some 14), .bin .eql (.t 3) (.c (.d (.int .i64 (11)))), none, []⟩,
      ⟨(some 13), .mov (.t 14), none, []⟩] false)
    (.cond (.t 13)
      (.skip)
      (.seq (.region 12 [
        ⟨(some 15), .bin .eql (.t 3) (.c (.d (.int .i64 (12)))), none, []⟩,
        ⟨(some 13), .mov (.t 15), none, []⟩] false)
      (.cond (.t 13)
        (.skip)
        (.seq (.region 13 [
          ⟨(some 16), .bin .eql (.t 3) (.c (.d (.int .i64 (18)))), none, []⟩,
          ⟨(some 13), .mov (.t 16), none, []⟩] false)
        (.cond (.t 13)
          (.skip)
          (.seq (.region 14 [
            ⟨(some 17), .bin .eql (.t 3) (.c (.d (.int .i64 (25)))), none, []⟩,
            ⟨(some 13), .mov (.t 17), none, []⟩] false)
          (.cond (.t 13)
            (.skip)
            (.seq (.region 15 [
              ⟨(some 18), .bin .eql (.t 3) (.c (.d (.int .i64 (22)))), none, []⟩,
              ⟨(some 13), .mov (.t 18), none, []⟩] false)
            (.cond (.t 13)
              (.skip)
              (.region 16 [
                ⟨(some 19), .bin .eql (.t 3) (.c (.d (.int .i64 (23)))), none, []⟩,
                ⟨(some 13), .mov (.t 19), none, []⟩] false)))))))))))
    (.mask ⟨[3, 13], []⟩ (.cond (.t 13)
      (.seq (.region 17 [
        ⟨(some 2), .mov (.c (.d (.int .i64 (1)))), none, []⟩] false)
      (.mask ⟨[2], []⟩ (.ret)))
      (.seq (.seq (.region 18 [
        ⟨(some 21), .bin .eql (.t 3) (.c (.d (.int .i64 (8)))), none, []⟩,
        ⟨(some 20), .mov (.t 21), none, []⟩] false)
      (.cond (.t 20)
        (.skip)
        (.seq (.region 19 [
          ⟨(some 22), .bin .eql (.t 3) (.c (.d (.int .i64 (9)))), none, []⟩,
          ⟨(some 20), .mov (.t 22), none, []⟩] false)
        (.cond (.t 20)
          (.skip)
          (.seq (.region 20 [
            ⟨(some 23), .bin .eql (.t 3) (.c (.d (.int .i64 (10)))), none, []⟩,
            ⟨(some 20), .mov (.t 23), none, []⟩] false)
          (.cond (.t 20)
            (.skip)
            (.seq (.region 21 [
              ⟨(some 24), .bin .eql (.t 3) (.c (.d (.int .i64 (14)))), none, []⟩,
              ⟨(some 20), .mov (.t 24), none, []⟩] false)
            (.cond (.t 20)
              (.skip)
              (.seq (.region 22 [
                ⟨(some 25), .bin .eql (.t 3) (.c (.d (.int .i64 (15)))), none, []⟩,
                ⟨(some 20), .mov (.t 25), none, []⟩] false)
              (.cond (.t 20)
                (.skip)
                (.seq (.region 23 [
                  ⟨(some 26), .bin .eql (.t 3) (.c (.d (.int .i64 (16)))), none, []⟩,
                  ⟨(some 20), .mov (.t 26), none, []⟩] false)
                (.cond (.t 20)
                  (.skip)
                  (.seq (.region 24 [
                    ⟨(some 27), .bin .eql (.t 3) (.c (.d (.int .i64 (17)))), none, []⟩,
                    ⟨(some 20), .mov (.t 27), none, []⟩] false)
                  (.cond (.t 20)
                    (.skip)
                    (.seq (.region 25 [
                      ⟨(some 28), .bin .eql (.t 3) (.c (.d (.int .i64 (19)))), none, []⟩,
                      ⟨(some 20), .mov (.t 28), none, []⟩] false)
                    (.cond (.t 20)
                      (.skip)
                      (.seq (.region 26 [
                        ⟨(some 29), .bin .eql (.t 3) (.c (.d (.int .i64 (20)))), none, []⟩,
                        ⟨(some 20), .mov (.t 29), none, []⟩] false)
                      (.cond (.t 20)
                        (.skip)
                        (.region 27 [
                          ⟨(some 30), .bin .eql (.t 3) (.c (.d (.int .i64 (24)))), none, []⟩,
                          ⟨(some 20), .mov (.t 30), none, []⟩] false)))))))))))))))))))
      (.mask ⟨[3, 20], []⟩ (.cond (.t 20)
        (.seq (.region 28 [
          ⟨(some 2), .mov (.c (.d (.int .i64 (2)))), none, []⟩] false)
        (.mask ⟨[2], []⟩ (.ret)))
        (.seq (.region 29 [
          ⟨(some 32), .bin .eql (.t 3) (.c (.d (.int .i64 (4)))), none, []⟩,
          ⟨(some 31), .mov (.t 32), none, []⟩] false)
        (.cond (.t 31)
          (.seq (.region 30 [
            ⟨(some 2), .mov (.c (.d (.int .i64 (-1)))), none, []⟩] false)
          (.mask ⟨[2], []⟩ (.ret)))
          (.skip))))))))))))))
  (.mask ⟨[], []⟩ (.seq (.region 31 [
    ⟨(some 2), .mov (.c (.d (.int .i64 (-2)))), none, []⟩] false)
  (.mask ⟨[2], []⟩ (.ret)))))⟩
/-- slices.ContainsFunc[[]beadle/api.Expr,beadle/api.Expr] -/
def code_slices_ContainsFunc_api_Expr_api_Expr : AFunc := ⟨9, [.tmp 4],
  .seq (.region 0 [
    ⟨(some 4), .mov (.c (.d (.bool false))), none, []⟩] false)
  (.seq (.region 1 [
    ⟨(some 5), .mov (.t 0), none, []⟩,
    ⟨(some 6), .mov (.t 1), none, []⟩,
    ⟨(some 7), .call (.c (.fn F_slices_IndexFunc_api_Expr_api_Expr [])) [(.t 5), (.t 6)], none, []⟩,
    ⟨(some 8), .bin .geq (.t 7) (.c (.d (.int .i64 (0)))), none, []⟩,
    ⟨(some 4), .mov (.t 8), none, []⟩] false)
  (.mask ⟨[4], []⟩ (.ret)))⟩
/-- beadle/ast.may$1 -/
def code_ast_may_1 : AFunc := ⟨6, [.tmp 2],
  .seq (.region 0 [
    ⟨(some 1), .box 6 (.t 0), none, []⟩,
    ⟨(some 2), .mov (.c (.d (.bool false))), none, []⟩] false)
  (.seq (.region 1 [
    ⟨(some 3), .load 6 true (.t 1), none, []⟩,
    ⟨(some 4), .call (.c (.fn F_ast_may [])) [(.t 3)], none, []⟩,
    ⟨(some 5), .un .not (.t 4), none, []⟩,
    ⟨(some 2), .mov (.t 5), none, []⟩] false)
  (.mask ⟨[2], []⟩ (.ret)))⟩
def mask_table_own_0 : Mask := ⟨[2, 3, 21, 22, 23], [.cell 20110 5 22011050 1]⟩
def body_table_own_0 : ACode :=
  .seq (.region 4 [
    ⟨(some 24), .bin .lss (.t 23) (.t 22), none, []⟩] false)
  (.seq (.cond (.t 24)
    (.skip)
    (.mask ⟨[2, 3], [.cell 20110 5 22011050 1]⟩ (.exit 0)))
  (.mask ⟨[2, 3, 21, 22, 23], [.cell 20110 5 22011050 1]⟩ (.seq (.block 1 (.seq (.region 5 [
    ⟨(some 25), .iaddr 6 (.t 21) (.t 23), none, []⟩,
    ⟨(some 26), .load 6 true (.t 25), none, []⟩,
    ⟨(some 5), .box 6 (.c (.agg [(.d (.int .i64 (0))), (.d (.str [])), (.d (.int .i64 (0))), (.d (.int .i64 (0))), (.d (.int .i64 (0))), (.d (.vs true []))])), none, []⟩,
    ⟨none, .store 6 (.t 5) (.t 26), none, []⟩] false)
  (.region 6 [
    ⟨(some 27), .faddr 5 (.t 3), none, []⟩,
    ⟨(some 28), .load 1 false (.t 27), none, []⟩,
    ⟨(some 29), .faddr 1 (.t 5), none, []⟩,
    ⟨(some 30), .load 1 false (.t 29), none, []⟩,
    ⟨(some 31), .buildSl 1 [(.str [])] 1 [(0, (.t 30))], none, []⟩,
    ⟨(some 32), .append 1 (.t 28) (.t 31), none, []⟩,
    ⟨(some 33), .faddr 5 (.t 3), none, []⟩,
    ⟨none, .store 1 (.t 33) (.t 32), none, []⟩] false)))
  (.mask ⟨[2, 3, 21, 22, 23], [.cell 20110 5 22011050 1]⟩ (.region 7 [
    ⟨(some 34), .bin .add (.t 23) (.c (.d (.int .i64 (1)))), none, []⟩,
    ⟨(some 23), .mov (.t 34), none, []⟩] false)))))
/-- beadle/table.own -/
def code_table_own : AFunc := ⟨36, [.cell 2 7 true],
  .seq (.region 0 [
    ⟨(some 1), .box 6 (.t 0), none, []⟩,
    ⟨(some 2), .box 7 (.c (.agg [(.d (.int .i64 (0))), (.d (.str [])), (.d (.int .i64 (0))), (.d (.int .i64 (0))), (.d (.int .i64 (0))), (.d (.vs true [])), (.d (.vs true []))])), none, []⟩] false)
  (.seq (.region 1 [
    ⟨(some 6), .faddr 0 (.t 1), none, []⟩,
    ⟨(some 7), .load 1 false (.t 6), none, []⟩,
    ⟨(some 8), .faddr 1 (.t 1), none, []⟩,
    ⟨(some 9), .load 1 false (.t 8), none, []⟩,
    ⟨(some 10), .faddr 2 (.t 1), none, []⟩,
    ⟨(some 11), .load 1 false (.t 10), none, []⟩,
    ⟨(some 12), .faddr 3 (.t 1), none, []⟩,
    ⟨(some 13), .load 1 false (.t 12), none, []⟩,
    ⟨(some 14), .faddr 4 (.t 1), none, []⟩,
    ⟨(some 15), .load 1 false (.t 14), none, []⟩,
    ⟨(some 16), .build [(.d (.int .i64 (0))), (.d (.str [])), (.d (.int .i64 (0))), (.d (.int .i64 (0))), (.d (.int .i64 (0))), (.d (.vs true [])), (.d (.vs true []))] [(0, 1, (.t 7)), (1, 1, (.t 9)), (2, 1, (.t 11)), (3, 1, (.t 13)), (4, 1, (.t 15))], none, []⟩,
    ⟨(some 3), .box 7 (.c (.agg [(.d (.int .i64 (0))), (.d (.str [])), (.d (.int .i64 (0))), (.d (.int .i64 (0))), (.d (.int .i64 (0))), (.d (.vs true [])), (.d (.vs true []))])), none, []⟩,
    ⟨none, .store 7 (.t 3) (.t 16), none, []⟩] false)
  (.seq (.seq (.region 2 [
    ⟨(some 17), .faddr 0 (.t 1), none, []⟩,
    ⟨(some 18), .load 1 false (.t 17), none, []⟩,
    ⟨(some 19), .bin .eql (.t 18) (.c (.d (.int .i64 (4)))), none, []⟩] false)
  (.cond (.t 19)
    (.seq (.region 3 [
      ⟨(some 20), .faddr 5 (.t 1), none, []⟩,
      ⟨(some 21), .load 1 false (.t 20), none, []⟩,
      ⟨(some 22), .len .sl (.t 21), none, []⟩,
      ⟨(some 23), .mov (.c (.d (.int .i64 (0)))), none, []⟩] false)
    (.block 0 (.loop mask_table_own_0 body_table_own_0)))
    (.skip)))
  (.mask ⟨[2, 3], [.cell 20110 5 22011050 1]⟩ (.seq (.region 8 [
    ⟨(some 35), .load 7 true (.t 3), none, []⟩,
    ⟨none, .store 7 (.t 2) (.t 35), none, []⟩] false)
  (.mask ⟨[2], [.cell 20110 5 22011050 1]⟩ (.ret))))))⟩
/-- beadle/beadleref06.head -/
def code_ref06_head : AFunc := ⟨21, [.tmp 2],
  .seq (.region 0 [
    ⟨(some 2), .mov (.c (.d (.bool false))), none, []⟩] false)
  (.seq (.region 1 [
    ⟨(some 3), .mov (.t 0), none, []⟩,
    ⟨(some 4), .bin .geq (.t 3) (.c (.d (.int .u8 (97)))), none, []⟩,
    ⟨(some 5), .mov (.t 4), none, []⟩,
    ⟨(some 6), .mov (.t 0), (some (5, true)), []⟩,
    ⟨(some 7), .bin .leq (.t 6) (.c (.d (.int .u8 (122)))), (some (5, true)), []⟩,
    ⟨(some 8), .pick (.t 5) (.t 7) (.c (.d (.bool false))), none, []⟩,
    ⟨(some 9), .mov (.t 8), none, []⟩,
    ⟨(some 10), .mov (.t 0), (some (9, false)), []⟩,
    ⟨(some 11), .bin .geq (.t 10) (.c (.d (.int .u8 (65)))), (some (9, false)), []⟩,
    ⟨(some 12), .mov (.t 11), (some (9, false)), []⟩,
    ⟨(some 13), .mov (.t 0), (some (12, true)), []⟩,
    ⟨(some 14), .bin .leq (.t 13) (.c (.d (.int .u8 (90)))), (some (12, true)), []⟩,
    ⟨(some 15), .pick (.t 12) (.t 14) (.c (.d (.bool false))), (some (9, false)), []⟩,
    ⟨(some 16), .pick (.t 9) (.c (.d (.bool true))) (.t 15), none, []⟩,
    ⟨(some 17), .mov (.t 16), none, []⟩,
    ⟨(some 18), .mov (.t 0), (some (17, false)), []⟩,
    ⟨(some 19), .bin .eql (.t 18) (.c (.d (.int .u8 (95)))), (some (17, false)), []⟩,
    ⟨(some 20), .pick (.t 17) (.c (.d (.bool true))) (.t 19), none, []⟩,
    ⟨(some 2), .mov (.t 20), none, []⟩] false)
  (.mask ⟨[2], []⟩ (.ret)))⟩
/-- beadle/beadleref06.tail -/
def code_ref06_tail : AFunc := ⟨13, [.tmp 2],
  .seq (.region 0 [
    ⟨(some 2), .mov (.c (.d (.bool false))), none, []⟩] false)
  (.seq (.region 1 [
    ⟨(some 3), .mov (.t 0), none, []⟩,
    ⟨(some 4), .call (.c (.fn F_ref06_head [])) [(.t 3)], none, []⟩,
    ⟨(some 5), .mov (.t 4), none, []⟩,
    ⟨(some 6), .mov (.t 0), (some (5, false)), []⟩,
    ⟨(some 7), .bin .geq (.t 6) (.c (.d (.int .u8 (48)))), (some (5, false)), []⟩,
    ⟨(some 8), .mov (.t 7), (some (5, false)), []⟩,
    ⟨(some 9), .mov (.t 0), (some (8, true)), []⟩,
    ⟨(some 10), .bin .leq (.t 9) (.c (.d (.int .u8 (57)))), (some (8, true)), []⟩,
    ⟨(some 11), .pick (.t 8) (.t 10) (.c (.d (.bool false))), (some (5, false)), []⟩,
    ⟨(some 12), .pick (.t 5) (.c (.d (.bool true))) (.t 11), none, []⟩,
    ⟨(some 2), .mov (.t 12), none, []⟩] false)
  (.mask ⟨[2], []⟩ (.ret)))⟩
/-- (*beadle/octet.In).bad -/
def code_octet_In_bad : AFunc := ⟨8, [],
  .region 0 [
    ⟨(some 2), .mov (.t 0), none, []⟩,
    ⟨(some 3), .mov (.t 0), none, []⟩,
    ⟨(some 4), .nilchk (.t 2), none, []⟩,
    ⟨(some 5), .faddr 0 (.t 4), none, []⟩,
    ⟨none, .store 1 (.t 5) (.c (.d (.vs true []))), none, []⟩,
    ⟨(some 6), .nilchk (.t 3), none, []⟩,
    ⟨(some 7), .faddr 2 (.t 6), none, []⟩,
    ⟨none, .store 1 (.t 7) (.c (.d (.int .i64 (16)))), none, []⟩] false⟩
def mask_slices_Equal_string_string_0 : Mask := ⟨[0, 1, 12, 13], []⟩
def body_slices_Equal_string_string_0 : ACode :=
  .seq (.region 4 [
    ⟨(some 14), .bin .lss (.t 13) (.t 12), none, []⟩] false)
  (.seq (.cond (.t 14)
    (.skip)
    (.mask ⟨[], []⟩ (.exit 0)))
  (.mask ⟨[0, 1, 12, 13], []⟩ (.seq (.block 1 (.seq (.region 5 [
    ⟨(some 15), .mov (.t 13), none, []⟩,
    ⟨(some 5), .mov (.t 15), none, []⟩] false)
  (.seq (.region 6 [
    ⟨(some 16), .mov (.t 0), none, []⟩,
    ⟨(some 17), .mov (.t 5), none, []⟩,
    ⟨(some 18), .iaddr 1 (.t 16) (.t 17), none, [0, 1]⟩,
    ⟨(some 19), .load 1 false (.t 18), none, [0, 1, 2]⟩,
    ⟨(some 20), .mov (.t 1), none, []⟩,
    ⟨(some 21), .mov (.t 5), none, []⟩,
    ⟨(some 22), .iaddr 1 (.t 20) (.t 21), none, [4, 5]⟩,
    ⟨(some 23), .load 1 false (.t 22), none, [4, 5, 6]⟩,
    ⟨(some 24), .bin .neq (.t 19) (.t 23), none, [0, 1, 2, 3, 4, 5, 6, 7]⟩] true)
  (.cond (.t 24)
    (.seq (.region 7 [
      ⟨(some 4), .mov (.c (.d (.bool false))), none, []⟩] false)
    (.mask ⟨[4], []⟩ (.ret)))
    (.skip)))))
  (.mask ⟨[0, 1, 12, 13], []⟩ (.region 8 [
    ⟨(some 25), .bin .add (.t 13) (.c (.d (.int .i64 (1)))), none, []⟩,
    ⟨(some 13), .mov (.t 25), none, []⟩] false)))))
/-- slices.Equal[[]string,string] -/
def code_slices_Equal_string_string : AFunc := ⟨26, [.tmp 4],
  .seq (.region 0 [
    ⟨(some 4), .mov (.c (.d (.bool false))), none, []⟩] false)
  (.seq (.seq (.region 1 [
    ⟨(some 6), .mov (.t 0), none, []⟩,
    ⟨(some 7), .len .sl (.t 6), none, []⟩,
    ⟨(some 8), .mov (.t 1), none, []⟩,
    ⟨(some 9), .len .sl (.t 8), none, []⟩,
    ⟨(some 10), .bin .neq (.t 7) (.t 9), none, []⟩] false)
  (.cond (.t 10)
    (.seq (.region 2 [
      ⟨(some 4), .mov (.c (.d (.bool false))), none, []⟩] false)
    (.mask ⟨[4], []⟩ (.ret)))
    (.skip)))
  (.mask ⟨[0, 1], []⟩ (.seq (.seq (.region 3 [
    ⟨(some 11), .mov (.t 0), none, []⟩,
    ⟨(some 12), .len .sl (.t 11), none, []⟩,
    ⟨(some 13), .mov (.c (.d (.int .i64 (0)))), none, []⟩] false)
  (.block 0 (.loop mask_slices_Equal_string_string_0 body_slices_Equal_string_string_0)))
  (.mask ⟨[], []⟩ (.seq (.region 9 [
    ⟨(some 4), .mov (.c (.d (.bool true))), none, []⟩] false)
  (.mask ⟨[4], []⟩ (.ret)))))))⟩
def mask_slices_Equal_int_int_0 : Mask := ⟨[0, 1, 12, 13], []⟩
def body_slices_Equal_int_int_0 : ACode :=
  .seq (.region 4 [
    ⟨(some 14), .bin .lss (.t 13) (.t 12), none, []⟩] false)
  (.seq (.cond (.t 14)
    (.skip)
    (.mask ⟨[], []⟩ (.exit 0)))
  (.mask ⟨[0, 1, 12, 13], []⟩ (.seq (.block 1 (.seq (.region 5 [
    ⟨(some 15), .mov (.t 13), none, []⟩,
    ⟨(some 5), .mov (.t 15), none, []⟩] false)
  (.seq (.region 6 [
    ⟨(some 16), .mov (.t 0), none, []⟩,
    ⟨(some 17), .mov (.t 5), none, []⟩,
    ⟨(some 18), .iaddr 1 (.t 16) (.t 17), none, [0, 1]⟩,
    ⟨(some 19), .load 1 false (.t 18), none, [0, 1, 2]⟩,
    ⟨(some 20), .mov (.t 1), none, []⟩,
    ⟨(some 21), .mov (.t 5), none, []⟩,
    ⟨(some 22), .iaddr 1 (.t 20) (.t 21), none, [4, 5]⟩,
    ⟨(some 23), .load 1 false (.t 22), none, [4, 5, 6]⟩,
    ⟨(some 24), .bin .neq (.t 19) (.t 23), none, [0, 1, 2, 3, 4, 5, 6, 7]⟩] true)
  (.cond (.t 24)
    (.seq (.region 7 [
      ⟨(some 4), .mov (.c (.d (.bool false))), none, []⟩] false)
    (.mask ⟨[4], []⟩ (.ret)))
    (.skip)))))
  (.mask ⟨[0, 1, 12, 13], []⟩ (.region 8 [
    ⟨(some 25), .bin .add (.t 13) (.c (.d (.int .i64 (1)))), none, []⟩,
    ⟨(some 13), .mov (.t 25), none, []⟩] false)))))
/-- slices.Equal[[]int,int] -/
def code_slices_Equal_int_int : AFunc := ⟨26, [.tmp 4],
  .seq (.region 0 [
    ⟨(some 4), .mov (.c (.d (.bool false))), none, []⟩] false)
  (.seq (.seq (.region 1 [
    ⟨(some 6), .mov (.t 0), none, []⟩,
    ⟨(some 7), .len .sl (.t 6), none, []⟩,
    ⟨(some 8), .mov (.t 1), none, []⟩,
    ⟨(some 9), .len .sl (.t 8), none, []⟩,
    ⟨(some 10), .bin .neq (.t 7) (.t 9), none, []⟩] false)
  (.cond (.t 10)
    (.seq (.region 2 [
      ⟨(some 4), .mov (.c (.d (.bool false))), none, []⟩] false)
    (.mask ⟨[4], []⟩ (.ret)))
    (.skip)))
  (.mask ⟨[0, 1], []⟩ (.seq (.seq (.region 3 [
    ⟨(some 11), .mov (.t 0), none, []⟩,
    ⟨(some 12), .len .sl (.t 11), none, []⟩,
    ⟨(some 13), .mov (.c (.d (.int .i64 (0)))), none, []⟩] false)
  (.block 0 (.loop mask_slices_Equal_int_int_0 body_slices_Equal_int_int_0)))
  (.mask ⟨[], []⟩ (.seq (.region 9 [
    ⟨(some 4), .mov (.c (.d (.bool true))), none, []⟩] false)
  (.mask ⟨[4], []⟩ (.ret)))))))⟩
/-- beadle/lex.Plain -/
def code_lex_Plain : AFunc := ⟨16, [.tmp 2],
  .seq (.region 0 [
    ⟨(some 2), .mov (.c (.d (.bool false))), none, []⟩] false)
  (.seq (.region 1 [
    ⟨(some 3), .mov (.t 0), none, []⟩,
    ⟨(some 4), .len .str (.t 3), none, []⟩,
    ⟨(some 5), .bin .leq (.t 4) (.c (.d (.int .i64 (32)))), none, []⟩,
    ⟨(some 6), .mov (.t 5), none, []⟩,
    ⟨(some 7), .mov (.t 0), (some (6, true)), []⟩,
    ⟨(some 8), .call (.c (.fn F_strings_IndexByte [])) [(.t 7), (.c (.d (.int .u8 (34))))], (some (6, true)), []⟩,
    ⟨(some 9), .bin .lss (.t 8) (.c (.d (.int .i64 (0)))), (some (6, true)), []⟩,
    ⟨(some 10), .pick (.t 6) (.t 9) (.c (.d (.bool false))), none, []⟩,
    ⟨(some 11), .mov (.t 10), none, []⟩,
    ⟨(some 12), .mov (.t 0), (some (11, true)), []⟩,
    ⟨(some 13), .call (.c (.fn F_strings_IndexByte [])) [(.t 12), (.c (.d (.int .u8 (10))))], (some (11, true)), []⟩,
    ⟨(some 14), .bin .lss (.t 13) (.c (.d (.int .i64 (0)))), (some (11, true)), []⟩,
    ⟨(some 15), .pick (.t 11) (.t 14) (.c (.d (.bool false))), none, []⟩,
    ⟨(some 2), .mov (.t 15), none, []⟩] false)
  (.mask ⟨[2], []⟩ (.ret)))⟩
def mask_lex_Name_0 : Mask := ⟨[0, 5, 6], []⟩
def body_lex_Name_0 : ACode :=
  .seq (.region 2 [
    ⟨(some 7), .bin .lss (.t 6) (.t 5), none, []⟩] false)
  (.seq (.cond (.t 7)
    (.skip)
    (.mask ⟨[0], []⟩ (.exit 0)))
  (.mask ⟨[0, 5, 6], []⟩ (.seq (.block 1 (.seq (.region 3 [
    ⟨(some 8), .mov (.t 6), none, []⟩,
    ⟨(some 3), .mov (.t 8), none, []⟩] false)
  (.seq (.region 4 [
    ⟨(some 9), .mov (.t 0), none, []⟩,
    ⟨(some 10), .mov (.t 3), none, []⟩,
    ⟨(some 11), .idx (.t 9) (.t 10), none, []⟩,
    ⟨(some 12), .call (.c (.fn F_lex_letter [])) [(.t 11)], none, []⟩,
    ⟨(some 13), .un .not (.t 12), none, []⟩,
    ⟨(some 14), .mov (.t 13), none, []⟩,
    ⟨(some 15), .mov (.t 3), (some (14, true)), []⟩,
    ⟨(some 16), .bin .eql (.t 15) (.c (.d (.int .i64 (0)))), (some (14, true)), []⟩,
    ⟨(some 17), .mov (.t 16), (some (14, true)), []⟩,
    ⟨(some 18), .mov (.t 0), (some (17, false)), []⟩,
    ⟨(some 19), .mov (.t 3), (some (17, false)), []⟩,
    ⟨(some 20), .idx (.t 18) (.t 19), (some (17, false)), []⟩,
    ⟨(some 21), .call (.c (.fn F_lex_digit [])) [(.t 20)], (some (17, false)), []⟩,
    ⟨(some 22), .un .not (.t 21), (some (17, false)), []⟩,
    ⟨(some 23), .pick (.t 17) (.c (.d (.bool true))) (.t 22), (some (14, true)), []⟩,
    ⟨(some 24), .pick (.t 14) (.t 23) (.c (.d (.bool false))), none, []⟩] false)
  (.mask ⟨[0, 5, 6, 24], []⟩ (.cond (.t 24)
    (.seq (.region 5 [
      ⟨(some 2), .mov (.c (.d (.bool false))), none, []⟩] false)
    (.mask ⟨[2], []⟩ (.ret)))
    (.skip))))))
  (.mask ⟨[0, 5, 6], []⟩ (.region 6 [
    ⟨(some 25), .bin .add (.t 6) (.c (.d (.int .i64 (1)))), none, []⟩,
    ⟨(some 6), .mov (.t 25), none, []⟩] false)))))
/-- beadle/lex.Name -/
def code_lex_Name : AFunc := ⟨33, [.tmp 2],
  .seq (.region 0 [
    ⟨(some 2), .mov (.c (.d (.bool false))), none, []⟩] false)
  (.seq (.seq (.region 1 [
    ⟨(some 4), .mov (.t 0), none, []⟩,
    ⟨(some 5), .len .str (.t 4), none, []⟩,
    ⟨(some 6), .mov (.c (.d (.int .i64 (0)))), none, []⟩] false)
  (.block 0 (.loop mask_lex_Name_0 body_lex_Name_0)))
  (.mask ⟨[0], []⟩ (.seq (.region 7 [
    ⟨(some 26), .mov (.t 0), none, []⟩,
    ⟨(some 27), .bin .neq (.t 26) (.c (.d (.str []))), none, []⟩,
    ⟨(some 28), .mov (.t 27), none, []⟩,
    ⟨(some 29), .mov (.t 0), (some (28, true)), []⟩,
    ⟨(some 30), .len .str (.t 29), (some (28, true)), []⟩,
    ⟨(some 31), .bin .leq (.t 30) (.c (.d (.int .i64 (16)))), (some (28, true)), []⟩,
    ⟨(some 32), .pick (.t 28) (.t 31) (.c (.d (.bool false))), none, []⟩,
    ⟨(some 2), .mov (.t 32), none, []⟩] false)
  (.mask ⟨[2], []⟩ (.ret)))))⟩
/-- beadle/ast.span -/
def code_ast_span : AFunc := ⟨18, [.tmp 2],
  .seq (.region 0 [
    ⟨(some 1), .box 6 (.t 0), none, []⟩,
    ⟨(some 2), .mov (.c (.d (.bool false))), none, []⟩] false)
  (.seq (.region 1 [
    ⟨(some 3), .faddr 3 (.t 1), none, []⟩,
    ⟨(some 4), .load 1 false (.t 3), none, []⟩,
    ⟨(some 5), .bin .geq (.t 4) (.c (.d (.int .i64 (0)))), none, []⟩,
    ⟨(some 6), .mov (.t 5), none, []⟩,
    ⟨(some 7), .faddr 4 (.t 1), (some (6, true)), []⟩,
    ⟨(some 8), .load 1 false (.t 7), (some (6, true)), []⟩,
    ⟨(some 9), .faddr 3 (.t 1), (some (6, true)), []⟩,
    ⟨(some 10), .load 1 false (.t 9), (some (6, true)), []⟩,
    ⟨(some 11), .bin .geq (.t 8) (.t 10), (some (6, true)), []⟩,
    ⟨(some 12), .mov (.t 11), (some (6, true)), []⟩,
    ⟨(some 13), .faddr 4 (.t 1), (some (12, false)), []⟩,
    ⟨(some 14), .load 1 false (.t 13), (some (12, false)), []⟩,
    ⟨(some 15), .bin .eql (.t 14) (.c (.d (.int .i64 (-1)))), (some (12, false)), []⟩,
    ⟨(some 16), .pick (.t 12) (.c (.d (.bool true))) (.t 15), (some (6, true)), []⟩,
    ⟨(some 17), .pick (.t 6) (.t 16) (.c (.d (.bool false))), none, []⟩,
    ⟨(some 2), .mov (.t 17), none, []⟩] false)
  (.mask ⟨[2], []⟩ (.ret)))⟩
def mask_slices_IndexFunc_api_Expr_api_Expr_0 : Mask := ⟨[0, 1, 7, 8], []⟩
def body_slices_IndexFunc_api_Expr_api_Expr_0 : ACode :=
  .seq (.region 2 [
    ⟨(some 9), .bin .lss (.t 8) (.t 7), none, []⟩] false)
  (.seq (.cond (.t 9)
    (.skip)
    (.mask ⟨[], []⟩ (.exit 0)))
  (.mask ⟨[0, 1, 7, 8], []⟩ (.seq (.block 1 (.seq (.region 3 [
    ⟨(some 10), .mov (.t 8), none, []⟩,
    ⟨(some 5), .mov (.t 10), none, []⟩] false)
  (.seq (.region 4 [
    ⟨(some 11), .mov (.t 1), none, []⟩,
    ⟨(some 12), .mov (.t 0), none, []⟩,
    ⟨(some 13), .mov (.t 5), none, []⟩,
    ⟨(some 14), .iaddr 6 (.t 12) (.t 13), none, []⟩,
    ⟨(some 15), .load 6 true (.t 14), none, []⟩,
    ⟨(some 16), .call (.t 11) [(.t 15)], none, []⟩] false)
  (.cond (.t 16)
    (.seq (.region 5 [
      ⟨(some 17), .mov (.t 5), none, []⟩,
      ⟨(some 4), .mov (.t 17), none, []⟩] false)
    (.mask ⟨[4], []⟩ (.ret)))
    (.skip)))))
  (.mask ⟨[0, 1, 7, 8], []⟩ (.region 6 [
    ⟨(some 18), .bin .add (.t 8) (.c (.d (.int .i64 (1)))), none, []⟩,
    ⟨(some 8), .mov (.t 18), none, []⟩] false)))))
/-- slices.IndexFunc[[]beadle/api.Expr,beadle/api.Expr] -/
def code_slices_IndexFunc_api_Expr_api_Expr : AFunc := ⟨19, [.tmp 4],
  .seq (.region 0 [
    ⟨(some 4), .mov (.c (.d (.int .i64 (0)))), none, []⟩] false)
  (.seq (.seq (.region 1 [
    ⟨(some 6), .mov (.t 0), none, []⟩,
    ⟨(some 7), .len .sl (.t 6), none, []⟩,
    ⟨(some 8), .mov (.c (.d (.int .i64 (0)))), none, []⟩] false)
  (.block 0 (.loop mask_slices_IndexFunc_api_Expr_api_Expr_0 body_slices_IndexFunc_api_Expr_api_Expr_0)))
  (.mask ⟨[], []⟩ (.seq (.region 7 [
    ⟨(some 4), .mov (.c (.d (.int .i64 (-1)))), none, []⟩] false)
  (.mask ⟨[4], []⟩ (.ret)))))⟩
/-- strings.IndexByte -/
def code_strings_IndexByte : AFunc := ⟨8, [.tmp 4],
  .seq (.region 0 [
    ⟨(some 4), .mov (.c (.d (.int .i64 (0)))), none, []⟩] false)
  (.seq (.region 1 [
    ⟨(some 5), .mov (.t 0), none, []⟩,
    ⟨(some 6), .mov (.t 1), none, []⟩,
    ⟨(some 7), .call (.c (.fn F_internal_stringslite_IndexByte [])) [(.t 5), (.t 6)], none, []⟩,
    ⟨(some 4), .mov (.t 7), none, []⟩] false)
  (.mask ⟨[4], []⟩ (.ret)))⟩
/-- beadle/lex.letter -/
def code_lex_letter : AFunc := ⟨15, [.tmp 2],
  .seq (.region 0 [
    ⟨(some 2), .mov (.c (.d (.bool false))), none, []⟩] false)
  (.seq (.region 1 [
    ⟨(some 3), .mov (.t 0), none, []⟩,
    ⟨(some 4), .bin .or (.t 3) (.c (.d (.int .u8 (32)))), none, []⟩,
    ⟨(some 5), .bin .geq (.t 4) (.c (.d (.int .u8 (97)))), none, []⟩,
    ⟨(some 6), .mov (.t 5), none, []⟩,
    ⟨(some 7), .mov (.t 0), (some (6, true)), []⟩,
    ⟨(some 8), .bin .or (.t 7) (.c (.d (.int .u8 (32)))), (some (6, true)), []⟩,
    ⟨(some 9), .bin .leq (.t 8) (.c (.d (.int .u8 (122)))), (some (6, true)), []⟩,
    ⟨(some 10), .pick (.t 6) (.t 9) (.c (.d (.bool false))), none, []⟩,
    ⟨(some 11), .mov (.t 10), none, []⟩,
    ⟨(some 12), .mov (.t 0), (some (11, false)), []⟩,
    ⟨(some 13), .bin .eql (.t 12) (.c (.d (.int .u8 (95)))), (some (11, false)), []⟩,
    ⟨(some 14), .pick (.t 11) (.c (.d (.bool true))) (.t 13), none, []⟩,
    ⟨(some 2), .mov (.t 14), none, []⟩] false)
  (.mask ⟨[2], []⟩ (.ret)))⟩
/-- beadle/lex.digit -/
def code_lex_digit : AFunc := ⟨9, [.tmp 2],
  .seq (.region 0 [
    ⟨(some 2), .mov (.c (.d (.bool false))), none, []⟩] false)
  (.seq (.region 1 [
    ⟨(some 3), .mov (.t 0), none, []⟩,
    ⟨(some 4), .bin .geq (.t 3) (.c (.d (.int .u8 (48)))), none, []⟩,
    ⟨(some 5), .mov (.t 4), none, []⟩,
    ⟨(some 6), .mov (.t 0), (some (5, true)), []⟩,
    ⟨(some 7), .bin .leq (.t 6) (.c (.d (.int .u8 (57)))), (some (5, true)), []⟩,
    ⟨(some 8), .pick (.t 5) (.t 7) (.c (.d (.bool false))), none, []⟩,
    ⟨(some 2), .mov (.t 8), none, []⟩] false)
  (.mask ⟨[2], []⟩ (.ret)))⟩
/-- internal/stringslite.IndexByte -/
def code_internal_stringslite_IndexByte : AFunc := ⟨8, [.tmp 4],
  .seq (.region 0 [
    ⟨(some 4), .mov (.c (.d (.int .i64 (0)))), none, []⟩] false)
  (.seq (.region 1 [
    ⟨(some 5), .mov (.t 0), none, []⟩,
    ⟨(some 6), .mov (.t 1), none, []⟩,
    ⟨(some 7), .call (.c (.fn F_internal_bytealg_IndexByteString [])) [(.t 5), (.t 6)], none, []⟩,
    ⟨(some 4), .mov (.t 7), none, []⟩] false)
  (.mask ⟨[4], []⟩ (.ret)))⟩
def codeL : List (Nat × AFunc) := [(F_law14_PackWrites, code_law14_PackWrites),
  (F_law14_PackReads, code_law14_PackReads),
  (F_law14_PackBack, code_law14_PackBack),
  (F_law14_PackOnce, code_law14_PackOnce),
  (F_law14_alive, code_law14_alive),
  (F_pack_Put, code_pack_Put),
  (F_law14_rows, code_law14_rows),
  (F_ref13_Back, code_ref13_Back),
  (F_ref13_Octets, code_ref13_Octets),
  (F_pack_Expr, code_pack_Expr),
  (F_ref07_Check, code_ref07_Check),
  (F_ref13_Of, code_ref13_Of),
  (F_ref13_Read, code_ref13_Read),
  (F_pack_Read, code_pack_Read),
  (F_pack_Back, code_pack_Back),
  (F_plain_Expr, code_plain_Expr),
  (F_ref13_Same, code_ref13_Same),
  (F_table_Check, code_table_Check),
  (F_octet_Out_Byte, code_octet_Out_Byte),
  (F_pack_row, code_pack_row),
  (F_octet_Out_Done, code_octet_Out_Done),
  (F_ref13_grow, code_ref13_grow),
  (F_ref04_Text, code_ref04_Text),
  (F_ref04_Int, code_ref04_Int),
  (F_ast_Check, code_ast_Check),
  (F_table_Of, code_table_Of),
  (F_ref07_Depth, code_ref07_Depth),
  (F_ref07_All, code_ref07_All),
  (F_ref07_Kids, code_ref07_Kids),
  (F_ref07_set, code_ref07_set),
  (F_ref07_fits, code_ref07_fits),
  (F_ref04_Byte, code_ref04_Byte),
  (F_ref13_row, code_ref13_row),
  (F_ref04_Left, code_ref04_Left),
  (F_octet_Open, code_octet_Open),
  (F_octet_In_Byte, code_octet_In_Byte),
  (F_pack_get, code_pack_get),
  (F_octet_In_Err, code_octet_In_Err),
  (F_octet_In_Left, code_octet_In_Left),
  (F_table_Back, code_table_Back),
  (F_octet_Out_fail, code_octet_Out_fail),
  (F_octet_Out_Text, code_octet_Out_Text),
  (F_octet_Out_Int, code_octet_Out_Int),
  (F_ast_Depth, code_ast_Depth),
  (F_ast_Size, code_ast_Size),
  (F_ast_may, code_ast_may),
  (F_table_Of_1, code_table_Of_1),
  (F_ref06_Plain, code_ref06_Plain),
  (F_ref06_Name, code_ref06_Name),
  (F_ref04_take, code_ref04_take),
  (F_ref04_Words, code_ref04_Words),
  (F_ref04_Number, code_ref04_Number),
  (F_octet_In_take, code_octet_In_take),
  (F_octet_In_Text, code_octet_In_Text),
  (F_octet_In_Int, code_octet_In_Int),
  (F_table_back, code_table_back),
  (F_slices_EqualFunc_table_Row_table_Row_table_Row_table_Row, code_slices_EqualFunc_table_Row_table_Row_table_Row_table_Row),
  (F_table_same, code_table_same),
  (F_ast_Clone, code_ast_Clone),
  (F_ast_inner, code_ast_inner),
  (F_ast_own, code_ast_own),
  (F_ast_texts, code_ast_texts),
  (F_ast_Kids, code_ast_Kids),
  (F_slices_ContainsFunc_api_Expr_api_Expr, code_slices_ContainsFunc_api_Expr_api_Expr),
  (F_ast_may_1, code_ast_may_1),
  (F_table_own, code_table_own),
  (F_ref06_head, code_ref06_head),
  (F_ref06_tail, code_ref06_tail),
  (F_octet_In_bad, code_octet_In_bad),
  (F_slices_Equal_string_string, code_slices_Equal_string_string),
  (F_slices_Equal_int_int, code_slices_Equal_int_int),
  (F_lex_Plain, code_lex_Plain),
  (F_lex_Name, code_lex_Name),
  (F_ast_span, code_ast_span),
  (F_slices_IndexFunc_api_Expr_api_Expr, code_slices_IndexFunc_api_Expr_api_Expr),
  (F_strings_IndexByte, code_strings_IndexByte),
  (F_lex_letter, code_lex_letter),
  (F_lex_digit, code_lex_digit),
  (F_internal_stringslite_IndexByte, code_internal_stringslite_IndexByte)]
def code : Nat → Option AFunc := tableAt codeL
theorem at_law14_PackWrites : code F_law14_PackWrites = some code_law14_PackWrites := by kernel_rfl
theorem at_law14_PackReads : code F_law14_PackReads = some code_law14_PackReads := by kernel_rfl
theorem at_law14_PackBack : code F_law14_PackBack = some code_law14_PackBack := by kernel_rfl
theorem at_law14_PackOnce : code F_law14_PackOnce = some code_law14_PackOnce := by kernel_rfl
theorem at_law14_alive : code F_law14_alive = some code_law14_alive := by kernel_rfl
theorem at_pack_Put : code F_pack_Put = some code_pack_Put := by kernel_rfl
theorem at_law14_rows : code F_law14_rows = some code_law14_rows := by kernel_rfl
theorem at_ref13_Back : code F_ref13_Back = some code_ref13_Back := by kernel_rfl
theorem at_ref13_Octets : code F_ref13_Octets = some code_ref13_Octets := by kernel_rfl
theorem at_pack_Expr : code F_pack_Expr = some code_pack_Expr := by kernel_rfl
theorem at_ref07_Check : code F_ref07_Check = some code_ref07_Check := by kernel_rfl
theorem at_ref13_Of : code F_ref13_Of = some code_ref13_Of := by kernel_rfl
theorem at_ref13_Read : code F_ref13_Read = some code_ref13_Read := by kernel_rfl
theorem at_pack_Read : code F_pack_Read = some code_pack_Read := by kernel_rfl
theorem at_pack_Back : code F_pack_Back = some code_pack_Back := by kernel_rfl
theorem at_plain_Expr : code F_plain_Expr = some code_plain_Expr := by kernel_rfl
theorem at_ref13_Same : code F_ref13_Same = some code_ref13_Same := by kernel_rfl
theorem at_table_Check : code F_table_Check = some code_table_Check := by kernel_rfl
theorem at_octet_Out_Byte : code F_octet_Out_Byte = some code_octet_Out_Byte := by kernel_rfl
theorem at_pack_row : code F_pack_row = some code_pack_row := by kernel_rfl
theorem at_octet_Out_Done : code F_octet_Out_Done = some code_octet_Out_Done := by kernel_rfl
theorem at_ref13_grow : code F_ref13_grow = some code_ref13_grow := by kernel_rfl
theorem at_ref04_Text : code F_ref04_Text = some code_ref04_Text := by kernel_rfl
theorem at_ref04_Int : code F_ref04_Int = some code_ref04_Int := by kernel_rfl
theorem at_ast_Check : code F_ast_Check = some code_ast_Check := by kernel_rfl
theorem at_table_Of : code F_table_Of = some code_table_Of := by kernel_rfl
theorem at_ref07_Depth : code F_ref07_Depth = some code_ref07_Depth := by kernel_rfl
theorem at_ref07_All : code F_ref07_All = some code_ref07_All := by kernel_rfl
theorem at_ref07_Kids : code F_ref07_Kids = some code_ref07_Kids := by kernel_rfl
theorem at_ref07_set : code F_ref07_set = some code_ref07_set := by kernel_rfl
theorem at_ref07_fits : code F_ref07_fits = some code_ref07_fits := by kernel_rfl
theorem at_ref04_Byte : code F_ref04_Byte = some code_ref04_Byte := by kernel_rfl
theorem at_ref13_row : code F_ref13_row = some code_ref13_row := by kernel_rfl
theorem at_ref04_Left : code F_ref04_Left = some code_ref04_Left := by kernel_rfl
theorem at_octet_Open : code F_octet_Open = some code_octet_Open := by kernel_rfl
theorem at_octet_In_Byte : code F_octet_In_Byte = some code_octet_In_Byte := by kernel_rfl
theorem at_pack_get : code F_pack_get = some code_pack_get := by kernel_rfl
theorem at_octet_In_Err : code F_octet_In_Err = some code_octet_In_Err := by kernel_rfl
theorem at_octet_In_Left : code F_octet_In_Left = some code_octet_In_Left := by kernel_rfl
theorem at_table_Back : code F_table_Back = some code_table_Back := by kernel_rfl
theorem at_octet_Out_fail : code F_octet_Out_fail = some code_octet_Out_fail := by kernel_rfl
theorem at_octet_Out_Text : code F_octet_Out_Text = some code_octet_Out_Text := by kernel_rfl
theorem at_octet_Out_Int : code F_octet_Out_Int = some code_octet_Out_Int := by kernel_rfl
theorem at_ast_Depth : code F_ast_Depth = some code_ast_Depth := by kernel_rfl
theorem at_ast_Size : code F_ast_Size = some code_ast_Size := by kernel_rfl
theorem at_ast_may : code F_ast_may = some code_ast_may := by kernel_rfl
theorem at_table_Of_1 : code F_table_Of_1 = some code_table_Of_1 := by kernel_rfl
theorem at_ref06_Plain : code F_ref06_Plain = some code_ref06_Plain := by kernel_rfl
theorem at_ref06_Name : code F_ref06_Name = some code_ref06_Name := by kernel_rfl
theorem at_ref04_take : code F_ref04_take = some code_ref04_take := by kernel_rfl
theorem at_ref04_Words : code F_ref04_Words = some code_ref04_Words := by kernel_rfl
theorem at_ref04_Number : code F_ref04_Number = some code_ref04_Number := by kernel_rfl
theorem at_octet_In_take : code F_octet_In_take = some code_octet_In_take := by kernel_rfl
theorem at_octet_In_Text : code F_octet_In_Text = some code_octet_In_Text := by kernel_rfl
theorem at_octet_In_Int : code F_octet_In_Int = some code_octet_In_Int := by kernel_rfl
theorem at_table_back : code F_table_back = some code_table_back := by kernel_rfl
theorem at_slices_EqualFunc_table_Row_table_Row_table_Row_table_Row : code F_slices_EqualFunc_table_Row_table_Row_table_Row_table_Row = some code_slices_EqualFunc_table_Row_table_Row_table_Row_table_Row := by kernel_rfl
theorem at_table_same : code F_table_same = some code_table_same := by kernel_rfl
theorem at_ast_Clone : code F_ast_Clone = some code_ast_Clone := by kernel_rfl
theorem at_ast_inner : code F_ast_inner = some code_ast_inner := by kernel_rfl
theorem at_ast_own : code F_ast_own = some code_ast_own := by kernel_rfl
theorem at_ast_texts : code F_ast_texts = some code_ast_texts := by kernel_rfl
theorem at_ast_Kids : code F_ast_Kids = some code_ast_Kids := by kernel_rfl
theorem at_slices_ContainsFunc_api_Expr_api_Expr : code F_slices_ContainsFunc_api_Expr_api_Expr = some code_slices_ContainsFunc_api_Expr_api_Expr := by kernel_rfl
theorem at_ast_may_1 : code F_ast_may_1 = some code_ast_may_1 := by kernel_rfl
theorem at_table_own : code F_table_own = some code_table_own := by kernel_rfl
theorem at_ref06_head : code F_ref06_head = some code_ref06_head := by kernel_rfl
theorem at_ref06_tail : code F_ref06_tail = some code_ref06_tail := by kernel_rfl
theorem at_octet_In_bad : code F_octet_In_bad = some code_octet_In_bad := by kernel_rfl
theorem at_slices_Equal_string_string : code F_slices_Equal_string_string = some code_slices_Equal_string_string := by kernel_rfl
theorem at_slices_Equal_int_int : code F_slices_Equal_int_int = some code_slices_Equal_int_int := by kernel_rfl
theorem at_lex_Plain : code F_lex_Plain = some code_lex_Plain := by kernel_rfl
theorem at_lex_Name : code F_lex_Name = some code_lex_Name := by kernel_rfl
theorem at_ast_span : code F_ast_span = some code_ast_span := by kernel_rfl
theorem at_slices_IndexFunc_api_Expr_api_Expr : code F_slices_IndexFunc_api_Expr_api_Expr = some code_slices_IndexFunc_api_Expr_api_Expr := by kernel_rfl
theorem at_strings_IndexByte : code F_strings_IndexByte = some code_strings_IndexByte := by kernel_rfl
theorem at_lex_letter : code F_lex_letter = some code_lex_letter := by kernel_rfl
theorem at_lex_digit : code F_lex_digit = some code_lex_digit := by kernel_rfl
theorem at_internal_stringslite_IndexByte : code F_internal_stringslite_IndexByte = some code_internal_stringslite_IndexByte := by kernel_rfl
end Bz.S
