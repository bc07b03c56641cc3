/- The code of functions, as the clean machine reads it (printed by a program of ours out of the seat's translation). -/
import Derived.Test.YtfmebmnifpjmpaaBz0
import Derived.KernelRfl
set_option linter.unusedSimpArgs false
set_option linter.unusedVariables false
set_option maxRecDepth 100000
namespace Bz.S
open Go Bz
def F_law05_StoreKeeps : Nat := 3
def F_law07_AstChecks : Nat := 4
def F_law07_AstMeasures : Nat := 5
def F_law07_AstParts : Nat := 6
def F_law07_AstSame : Nat := 7
def F_law05_alive : Nat := 8
def F_plain_Rising : Nat := 9
def F_store_New : Nat := 10
def F_store_Store_Set : Nat := 11
def F_law05_long : Nat := 12
def F_store_Store_Get : Nat := 13
def F_plain_Texts : Nat := 14
def F_law07_alive : Nat := 15
def F_ast_Check : Nat := 16
def F_ref07_Check : Nat := 17
def F_ast_Kids : Nat := 18
def F_ref07_Kids : Nat := 19
def F_ast_Depth : Nat := 20
def F_ref07_Depth : Nat := 21
def F_ast_Size : Nat := 22
def F_ref07_All : Nat := 23
def F_ast_Past : Nat := 24
def F_ref07_Past : Nat := 25
def F_plain_Copy : Nat := 26
def F_ast_Clone : Nat := 27
def F_ast_Same : Nat := 28
def F_plain_Expr : Nat := 29
def F_law07_spoil : Nat := 30
def F_store_Store_Count : Nat := 31
def F_plain_In : Nat := 32
def F_store_Store_Kind : Nat := 33
def F_store_Store_is : Nat := 34
def F_value_Check : Nat := 35
def F_store_own : Nat := 36
def F_value_Zero : Nat := 37
def F_law07_sum : Nat := 38
def F_ast_may : Nat := 39
def F_ref07_set : Nat := 40
def F_ref07_fits : Nat := 41
def F_ast_inner : Nat := 42
def F_slices_ContainsFunc_api_Expr_api_Expr : Nat := 43
def F_ref07_Looks : Nat := 44
def F_slices_EqualFunc_api_Expr_api_Expr_api_Expr_api_Expr : Nat := 45
def F_value_long : Nat := 46
def F_slices_ContainsFunc_string_string : Nat := 47
def F_value_odd : Nat := 48
def F_slices_Clone_string_string : Nat := 49
def F_ast_own : Nat := 50
def F_ast_texts : Nat := 51
def F_ast_may_1 : Nat := 52
def F_ref06_Plain : Nat := 53
def F_ref06_Name : Nat := 54
def F_slices_IndexFunc_api_Expr_api_Expr : Nat := 55
def F_slices_IndexFunc_string_string : Nat := 56
def F_value_rises : Nat := 57
def F_lex_Plain : Nat := 58
def F_lex_Name : Nat := 59
def F_ast_span : Nat := 60
def F_ref06_head : Nat := 61
def F_ref06_tail : Nat := 62
def F_strings_IndexByte : Nat := 63
def F_lex_letter : Nat := 64
def F_lex_digit : Nat := 65
def F_internal_stringslite_IndexByte : Nat := 66
def F_internal_bytealg_IndexByteString : Nat := 67
def mask_law05_StoreKeeps_0 : Mask := ⟨[0, 1, 7, 8, 9, 10], [.slot 9 10000090 1]⟩
def body_law05_StoreKeeps_0 : ACode :=
  .seq (.seq (.region 9 [
    ⟨(some 42), .mov (.t 10), none, []⟩,
    ⟨(some 43), .faddr 3 (.t 7), none, []⟩,
    ⟨(some 44), .load 1 false (.t 43), none, []⟩,
    ⟨(some 45), .len .sl (.t 44), none, []⟩,
    ⟨(some 46), .bin .lss (.t 42) (.t 45), none, []⟩] false)
  (.cond (.t 46)
    (.skip)
    (.mask ⟨[0, 1, 8, 9], [.slot 9 10000090 1]⟩ (.exit 0))))
  (.mask ⟨[0, 1, 7, 8, 9, 10], [.slot 9 10000090 1]⟩ (.seq (.block 1 (.region 11 [
    ⟨(some 49), .faddr 3 (.t 7), none, []⟩,
    ⟨(some 50), .load 1 false (.t 49), none, []⟩,
    ⟨(some 51), .mov (.t 10), none, []⟩,
    ⟨(some 52), .iaddr 1 (.t 50) (.t 51), none, []⟩,
    ⟨none, .store 1 (.t 52) (.c (.d (.str [45]))), none, []⟩] false))
  (.mask ⟨[0, 1, 7, 8, 9, 10], [.slot 9 10000090 1]⟩ (.region 10 [
    ⟨(some 47), .mov (.t 10), none, []⟩,
    ⟨(some 48), .bin .add (.t 47) (.c (.d (.int .i64 (1)))), none, []⟩,
    ⟨(some 10), .mov (.t 48), none, []⟩] false))))
def mask_law05_StoreKeeps_1 : Mask := ⟨[0, 1, 8, 9, 11, 13], [.slot 9 10000090 1]⟩
def body_law05_StoreKeeps_1 : ACode :=
  .seq (.seq (.region 16 [
    ⟨(some 65), .mov (.t 13), none, []⟩,
    ⟨(some 66), .faddr 3 (.t 11), none, []⟩,
    ⟨(some 67), .load 1 false (.t 66), none, []⟩,
    ⟨(some 68), .len .sl (.t 67), none, []⟩,
    ⟨(some 69), .bin .lss (.t 65) (.t 68), none, []⟩] false)
  (.cond (.t 69)
    (.skip)
    (.mask ⟨[0, 1, 8, 9], [.slot 9 10000090 1]⟩ (.exit 2))))
  (.mask ⟨[0, 1, 8, 9, 11, 13], [.slot 9 10000090 1]⟩ (.seq (.block 3 (.region 18 [
    ⟨(some 72), .faddr 3 (.t 11), none, []⟩,
    ⟨(some 73), .load 1 false (.t 72), none, []⟩,
    ⟨(some 74), .mov (.t 13), none, []⟩,
    ⟨(some 75), .iaddr 1 (.t 73) (.t 74), none, []⟩,
    ⟨none, .store 1 (.t 75) (.c (.d (.str [43]))), none, []⟩] false))
  (.mask ⟨[0, 1, 8, 9, 11, 13], [.slot 9 10000090 1]⟩ (.region 17 [
    ⟨(some 70), .mov (.t 13), none, []⟩,
    ⟨(some 71), .bin .add (.t 70) (.c (.d (.int .i64 (1)))), none, []⟩,
    ⟨(some 13), .mov (.t 71), none, []⟩] false))))
/-- beadle/beadlelaw05.StoreKeeps -/
def code_law05_StoreKeeps : AFunc := ⟨90, [.tmp 6],
  .seq (.region 0 [
    ⟨(some 6), .mov (.c (.d (.bool false))), none, []⟩] false)
  (.seq (.seq (.region 1 [
    ⟨(some 16), .call (.c (.fn F_law05_alive [])) [], none, []⟩,
    ⟨(some 17), .un .not (.t 16), none, []⟩] false)
  (.cond (.t 17)
    (.seq (.region 2 [
      ⟨(some 6), .mov (.c (.d (.bool false))), none, []⟩] false)
    (.mask ⟨[6], []⟩ (.ret)))
    (.skip)))
  (.mask ⟨[0, 1, 2], []⟩ (.seq (.region 3 [
    ⟨(some 18), .mov (.t 2), none, []⟩,
    ⟨(some 19), .call (.c (.fn F_plain_Rising [])) [(.t 18)], none, []⟩,
    ⟨(some 20), .build [(.d (.int .i64 (0))), (.d (.int .i64 (0))), (.d (.str [])), (.d (.vs true []))] [(0, 1, (.c (.d (.int .i64 (4))))), (3, 1, (.t 19))], none, []⟩,
    ⟨(some 7), .box 4 (.c (.agg [(.d (.int .i64 (0))), (.d (.int .i64 (0))), (.d (.str [])), (.d (.vs true []))])), none, []⟩,
    ⟨none, .store 4 (.t 7) (.t 20), none, []⟩] false)
  (.seq (.region 4 [
    ⟨(some 21), .mov (.t 1), none, []⟩,
    ⟨(some 22), .build [(.d (.str [])), (.d (.int .i64 (0)))] [(0, 1, (.t 21)), (1, 1, (.c (.d (.int .i64 (4)))))], none, []⟩,
    ⟨(some 23), .buildSl 2 [(.str []), (.int .i64 (0))] 1 [(0, (.t 22))], none, []⟩,
    ⟨(some 24), .call (.c (.fn F_store_New [])) [(.t 23)], none, []⟩,
    ⟨(some 8), .mov (.t 24), none, []⟩] false)
  (.seq (.region 5 [
    ⟨(some 25), .buildSl 1 [(.str [])] 0 [], none, []⟩,
    ⟨(some 26), .faddr 3 (.t 7), none, []⟩,
    ⟨(some 27), .load 1 false (.t 26), none, []⟩,
    ⟨(some 28), .append 1 (.t 25) (.t 27), none, []⟩,
    ⟨(some 9), .mov (.t 28), none, []⟩] false)
  (.seq (.seq (.region 6 [
    ⟨(some 29), .mov (.t 8), none, []⟩,
    ⟨(some 30), .mov (.t 0), none, []⟩,
    ⟨(some 31), .mov (.t 1), none, []⟩,
    ⟨(some 32), .load 4 true (.t 7), none, []⟩,
    ⟨(some 33), .call (.c (.fn F_store_Store_Set [])) [(.t 29), (.t 30), (.t 31), (.t 32)], none, []⟩,
    ⟨(some 34), .bin .neq (.t 33) (.c (.d (.int .i64 (0)))), none, []⟩] false)
  (.cond (.t 34)
    (.seq (.region 7 [
      ⟨(some 35), .mov (.t 9), none, []⟩,
      ⟨(some 36), .len .sl (.t 35), none, []⟩,
      ⟨(some 37), .bin .gtr (.t 36) (.c (.d (.int .i64 (8)))), none, []⟩,
      ⟨(some 38), .mov (.t 37), none, []⟩,
      ⟨(some 39), .mov (.t 9), (some (38, false)), []⟩,
      ⟨(some 40), .call (.c (.fn F_law05_long [])) [(.t 39)], (some (38, false)), []⟩,
      ⟨(some 41), .pick (.t 38) (.c (.d (.bool true))) (.t 40), none, []⟩,
      ⟨(some 6), .mov (.t 41), none, []⟩] false)
    (.mask ⟨[6], []⟩ (.ret)))
    (.skip)))
  (.mask ⟨[0, 1, 7, 8, 9], [.slot 9 10000090 1]⟩ (.seq (.seq (.region 8 [
    ⟨(some 10), .mov (.c (.d (.int .i64 (0)))), none, []⟩] false)
  (.block 0 (.loop mask_law05_StoreKeeps_0 body_law05_StoreKeeps_0)))
  (.mask ⟨[0, 1, 8, 9], [.slot 9 10000090 1]⟩ (.seq (.region 12 [
    ⟨(some 54), .mov (.t 8), none, []⟩,
    ⟨(some 55), .mov (.t 0), none, []⟩,
    ⟨(some 56), .mov (.t 1), none, []⟩,
    ⟨(some 57), .call (.c (.fn F_store_Store_Get [])) [(.t 54), (.t 55), (.t 56)], none, []⟩,
    ⟨(some 53), .mov (.t 57), none, []⟩,
    ⟨(some 58), .extract (.t 53) 0, none, []⟩,
    ⟨(some 59), .extract (.t 53) 1, none, []⟩,
    ⟨(some 11), .box 4 (.c (.agg [(.d (.int .i64 (0))), (.d (.int .i64 (0))), (.d (.str [])), (.d (.vs true []))])), none, []⟩,
    ⟨none, .store 4 (.t 11) (.t 58), none, []⟩,
    ⟨(some 12), .mov (.t 59), none, []⟩] false)
  (.seq (.seq (.region 13 [
    ⟨(some 60), .faddr 3 (.t 11), none, []⟩,
    ⟨(some 61), .load 1 false (.t 60), none, []⟩,
    ⟨(some 62), .mov (.t 9), none, []⟩,
    ⟨(some 63), .call (.c (.fn F_plain_Texts [])) [(.t 61), (.t 62)], none, []⟩,
    ⟨(some 64), .un .not (.t 63), none, []⟩] false)
  (.cond (.t 64)
    (.seq (.region 14 [
      ⟨(some 6), .mov (.c (.d (.bool false))), none, []⟩] false)
    (.mask ⟨[6], []⟩ (.ret)))
    (.skip)))
  (.mask ⟨[0, 1, 8, 9, 11], [.slot 9 10000090 1]⟩ (.seq (.seq (.region 15 [
    ⟨(some 13), .mov (.c (.d (.int .i64 (0)))), none, []⟩] false)
  (.block 2 (.loop mask_law05_StoreKeeps_1 body_law05_StoreKeeps_1)))
  (.mask ⟨[0, 1, 8, 9], [.slot 9 10000090 1]⟩ (.seq (.region 19 [
    ⟨(some 77), .mov (.t 8), none, []⟩,
    ⟨(some 78), .mov (.t 0), none, []⟩,
    ⟨(some 79), .mov (.t 1), none, []⟩,
    ⟨(some 80), .call (.c (.fn F_store_Store_Get [])) [(.t 77), (.t 78), (.t 79)], none, []⟩,
    ⟨(some 76), .mov (.t 80), none, []⟩,
    ⟨(some 81), .extract (.t 76) 0, none, []⟩,
    ⟨(some 82), .extract (.t 76) 1, none, []⟩,
    ⟨(some 14), .box 4 (.c (.agg [(.d (.int .i64 (0))), (.d (.int .i64 (0))), (.d (.str [])), (.d (.vs true []))])), none, []⟩,
    ⟨none, .store 4 (.t 14) (.t 81), none, []⟩,
    ⟨(some 15), .mov (.t 82), none, []⟩] false)
  (.seq (.region 20 [
    ⟨(some 83), .mov (.t 15), none, []⟩,
    ⟨(some 84), .mov (.t 83), none, []⟩,
    ⟨(some 85), .faddr 3 (.t 14), (some (84, true)), []⟩,
    ⟨(some 86), .load 1 false (.t 85), (some (84, true)), []⟩,
    ⟨(some 87), .mov (.t 9), (some (84, true)), []⟩,
    ⟨(some 88), .call (.c (.fn F_plain_Texts [])) [(.t 86), (.t 87)], (some (84, true)), []⟩,
    ⟨(some 89), .pick (.t 84) (.t 88) (.c (.d (.bool false))), none, []⟩,
    ⟨(some 6), .mov (.t 89), none, []⟩] false)
  (.mask ⟨[6], []⟩ (.ret))))))))))))))))))⟩
/-- beadle/beadlelaw07.AstChecks -/
def code_law07_AstChecks : AFunc := ⟨11, [.tmp 2],
  .seq (.region 0 [
    ⟨(some 1), .box 6 (.t 0), none, []⟩,
    ⟨(some 2), .mov (.c (.d (.bool false))), none, []⟩] false)
  (.seq (.region 1 [
    ⟨(some 3), .call (.c (.fn F_law07_alive [])) [], none, []⟩,
    ⟨(some 4), .mov (.t 3), none, [0]⟩,
    ⟨(some 5), .load 6 true (.t 1), (some (4, true)), [0, 1]⟩,
    ⟨(some 6), .call (.c (.fn F_ast_Check [])) [(.t 5)], (some (4, true)), [0, 1, 2]⟩,
    ⟨(some 7), .load 6 true (.t 1), (some (4, true)), [0, 1]⟩,
    ⟨(some 8), .call (.c (.fn F_ref07_Check [])) [(.t 7)], (some (4, true)), [0, 1, 2, 3, 4]⟩,
    ⟨(some 9), .bin .eql (.t 6) (.t 8), (some (4, true)), [0, 1, 2, 3, 4, 5]⟩,
    ⟨(some 10), .pick (.t 4) (.t 9) (.c (.d (.bool false))), none, [0, 1, 2, 3, 4, 5, 6]⟩,
    ⟨(some 2), .mov (.t 10), none, [0, 1, 2, 3, 4, 5, 6, 7]⟩] true)
  (.mask ⟨[2], []⟩ (.ret)))⟩
/-- beadle/beadlelaw07.AstMeasures -/
def code_law07_AstMeasures : AFunc := ⟨34, [.tmp 4],
  .seq (.region 0 [
    ⟨(some 2), .box 6 (.t 0), none, []⟩,
    ⟨(some 4), .mov (.c (.d (.bool false))), none, []⟩] false)
  (.seq (.seq (.region 1 [
    ⟨(some 5), .call (.c (.fn F_law07_alive [])) [], none, []⟩,
    ⟨(some 6), .un .not (.t 5), none, []⟩] false)
  (.cond (.t 6)
    (.seq (.region 2 [
      ⟨(some 4), .mov (.c (.d (.bool false))), none, []⟩] false)
    (.mask ⟨[4], []⟩ (.ret)))
    (.skip)))
  (.mask ⟨[1, 2], []⟩ (.seq (.region 3 [
    ⟨(some 7), .mov (.t 1), none, []⟩,
    ⟨(some 8), .call (.c (.fn F_ast_Kids [])) [(.t 7)], none, [0]⟩,
    ⟨(some 9), .mov (.t 1), none, []⟩,
    ⟨(some 10), .call (.c (.fn F_ref07_Kids [])) [(.t 9)], none, [0, 1, 2]⟩,
    ⟨(some 11), .bin .eql (.t 8) (.t 10), none, [0, 1, 2, 3]⟩,
    ⟨(some 12), .mov (.t 11), none, [0, 1, 2, 3, 4]⟩,
    ⟨(some 13), .load 6 true (.t 2), (some (12, true)), [0, 1, 2, 3, 4, 5]⟩,
    ⟨(some 14), .call (.c (.fn F_ast_Depth [])) [(.t 13)], (some (12, true)), [0, 1, 2, 3, 4, 5, 6]⟩,
    ⟨(some 15), .load 6 true (.t 2), (some (12, true)), [0, 1, 2, 3, 4, 5]⟩,
    ⟨(some 16), .call (.c (.fn F_ref07_Depth [])) [(.t 15)], (some (12, true)), [0, 1, 2, 3, 4, 5, 6, 7, 8]⟩,
    ⟨(some 17), .bin .eql (.t 14) (.t 16), (some (12, true)), [0, 1, 2, 3, 4, 5, 6, 7, 8, 9]⟩,
    ⟨(some 18), .pick (.t 12) (.t 17) (.c (.d (.bool false))), none, [0, 1, 2, 3, 4, 5, 6, 7, 8, 9, 10]⟩,
    ⟨(some 19), .mov (.t 18), none, [0, 1, 2, 3, 4, 5, 6, 7, 8, 9, 10, 11]⟩,
    ⟨(some 20), .load 6 true (.t 2), (some (19, true)), [0, 1, 2, 3, 4, 5, 6, 7, 8, 9, 10, 11, 12]⟩,
    ⟨(some 21), .call (.c (.fn F_ast_Size [])) [(.t 20)], (some (19, true)), [0, 1, 2, 3, 4, 5, 6, 7, 8, 9, 10, 11, 12, 13]⟩,
    ⟨(some 22), .load 6 true (.t 2), (some (19, true)), [0, 1, 2, 3, 4, 5, 6, 7, 8, 9, 10, 11, 12]⟩,
    ⟨(some 23), .call (.c (.fn F_ref07_All [])) [(.t 22)], (some (19, true)), [0, 1, 2, 3, 4, 5, 6, 7, 8, 9, 10, 11, 12, 13, 14, 15]⟩,
    ⟨(some 24), .len .sl (.t 23), (some (19, true)), [0, 1, 2, 3, 4, 5, 6, 7, 8, 9, 10, 11, 12, 13, 14, 15, 16]⟩,
    ⟨(some 25), .bin .eql (.t 21) (.t 24), (some (19, true)), [0, 1, 2, 3, 4, 5, 6, 7, 8, 9, 10, 11, 12, 13, 14, 15, 16, 17]⟩,
    ⟨(some 26), .pick (.t 19) (.t 25) (.c (.d (.bool false))), none, [0, 1, 2, 3, 4, 5, 6, 7, 8, 9, 10, 11, 12, 13, 14, 15, 16, 17, 18]⟩,
    ⟨(some 27), .mov (.t 26), none, [0, 1, 2, 3, 4, 5, 6, 7, 8, 9, 10, 11, 12, 13, 14, 15, 16, 17, 18, 19]⟩,
    ⟨(some 28), .load 6 true (.t 2), (some (27, true)), [0, 1, 2, 3, 4, 5, 6, 7, 8, 9, 10, 11, 12, 13, 14, 15, 16, 17, 18, 19, 20]⟩,
    ⟨(some 29), .call (.c (.fn F_ast_Past [])) [(.t 28)], (some (27, true)), [0, 1, 2, 3, 4, 5, 6, 7, 8, 9, 10, 11, 12, 13, 14, 15, 16, 17, 18, 19, 20, 21]⟩,
    ⟨(some 30), .load 6 true (.t 2), (some (27, true)), [0, 1, 2, 3, 4, 5, 6, 7, 8, 9, 10, 11, 12, 13, 14, 15, 16, 17, 18, 19, 20]⟩,
    ⟨(some 31), .call (.c (.fn F_ref07_Past [])) [(.t 30)], (some (27, true)), [0, 1, 2, 3, 4, 5, 6, 7, 8, 9, 10, 11, 12, 13, 14, 15, 16, 17, 18, 19, 20, 21, 22, 23]⟩,
    ⟨(some 32), .binb false (.t 29) (.t 31), (some (27, true)), [0, 1, 2, 3, 4, 5, 6, 7, 8, 9, 10, 11, 12, 13, 14, 15, 16, 17, 18, 19, 20, 21, 22, 23, 24]⟩,
    ⟨(some 33), .pick (.t 27) (.t 32) (.c (.d (.bool false))), none, [0, 1, 2, 3, 4, 5, 6, 7, 8, 9, 10, 11, 12, 13, 14, 15, 16, 17, 18, 19, 20, 21, 22, 23, 24, 25]⟩,
    ⟨(some 4), .mov (.t 33), none, [0, 1, 2, 3, 4, 5, 6, 7, 8, 9, 10, 11, 12, 13, 14, 15, 16, 17, 18, 19, 20, 21, 22, 23, 24, 25, 26]⟩] true)
  (.mask ⟨[4], []⟩ (.ret)))))⟩
def mask_law07_AstParts_0 : Mask := ⟨[1, 3], []⟩
def body_law07_AstParts_0 : ACode :=
  .seq (.seq (.region 6 [
    ⟨(some 10), .mov (.t 3), none, []⟩,
    ⟨(some 11), .faddr 5 (.t 1), none, []⟩,
    ⟨(some 12), .load 1 false (.t 11), none, []⟩,
    ⟨(some 13), .len .sl (.t 12), none, []⟩,
    ⟨(some 14), .bin .lss (.t 10) (.t 13), none, []⟩] false)
  (.cond (.t 14)
    (.skip)
    (.mask ⟨[1], []⟩ (.exit 0))))
  (.mask ⟨[1, 3], []⟩ (.seq (.block 1 (.seq (.region 8 [
    ⟨(some 17), .faddr 5 (.t 1), none, []⟩,
    ⟨(some 18), .load 1 false (.t 17), none, []⟩,
    ⟨(some 19), .mov (.t 3), none, []⟩,
    ⟨(some 20), .iaddr 6 (.t 18) (.t 19), none, []⟩,
    ⟨(some 21), .load 6 true (.t 20), none, []⟩,
    ⟨(some 4), .box 6 (.c (.agg [(.d (.int .i64 (0))), (.d (.str [])), (.d (.int .i64 (0))), (.d (.int .i64 (0))), (.d (.int .i64 (0))), (.d (.vs true []))])), none, []⟩,
    ⟨none, .store 6 (.t 4) (.t 21), none, []⟩] false)
  (.seq (.region 9 [
    ⟨(some 22), .load 6 true (.t 4), none, []⟩,
    ⟨(some 23), .call (.c (.fn F_ast_Check [])) [(.t 22)], none, [0]⟩,
    ⟨(some 24), .bin .neq (.t 23) (.c (.d (.int .i64 (0)))), none, [0, 1]⟩,
    ⟨(some 25), .mov (.t 24), none, [0, 1, 2]⟩,
    ⟨(some 26), .faddr 0 (.t 1), (some (25, false)), [0, 1, 2, 3]⟩,
    ⟨(some 27), .load 1 false (.t 26), (some (25, false)), [0, 1, 2, 3, 4]⟩,
    ⟨(some 28), .bin .neq (.t 27) (.c (.d (.int .i64 (4)))), (some (25, false)), [0, 1, 2, 3, 4, 5]⟩,
    ⟨(some 29), .mov (.t 28), (some (25, false)), [0, 1, 2, 3, 4, 5, 6]⟩,
    ⟨(some 30), .load 6 true (.t 4), (some (29, true)), [0, 1, 2, 3, 4, 5, 6, 7]⟩,
    ⟨(some 31), .call (.c (.fn F_ast_Depth [])) [(.t 30)], (some (29, true)), [0, 1, 2, 3, 4, 5, 6, 7, 8]⟩,
    ⟨(some 32), .load 6 true (.t 1), (some (29, true)), [0, 1, 2, 3, 4, 5, 6, 7]⟩,
    ⟨(some 33), .call (.c (.fn F_ast_Depth [])) [(.t 32)], (some (29, true)), [0, 1, 2, 3, 4, 5, 6, 7, 8, 9, 10]⟩,
    ⟨(some 34), .bin .geq (.t 31) (.t 33), (some (29, true)), [0, 1, 2, 3, 4, 5, 6, 7, 8, 9, 10, 11]⟩,
    ⟨(some 35), .pick (.t 29) (.t 34) (.c (.d (.bool false))), (some (25, false)), [0, 1, 2, 3, 4, 5, 6, 7, 8, 9, 10, 11, 12]⟩,
    ⟨(some 36), .pick (.t 25) (.c (.d (.bool true))) (.t 35), none, [0, 1, 2, 3, 4, 5, 6, 7, 8, 9, 10, 11, 12, 13]⟩,
    ⟨(some 37), .mov (.t 36), none, [0, 1, 2, 3, 4, 5, 6, 7, 8, 9, 10, 11, 12, 13, 14]⟩,
    ⟨(some 38), .load 6 true (.t 4), (some (37, false)), [0, 1, 2, 3, 4, 5, 6, 7, 8, 9, 10, 11, 12, 13, 14, 15]⟩,
    ⟨(some 39), .call (.c (.fn F_ast_Past [])) [(.t 38)], (some (37, false)), [0, 1, 2, 3, 4, 5, 6, 7, 8, 9, 10, 11, 12, 13, 14, 15, 16]⟩,
    ⟨(some 40), .mov (.t 39), (some (37, false)), [0, 1, 2, 3, 4, 5, 6, 7, 8, 9, 10, 11, 12, 13, 14, 15, 16, 17]⟩,
    ⟨(some 41), .load 6 true (.t 1), (some (40, true)), [0, 1, 2, 3, 4, 5, 6, 7, 8, 9, 10, 11, 12, 13, 14, 15, 16, 17, 18]⟩,
    ⟨(some 42), .call (.c (.fn F_ast_Past [])) [(.t 41)], (some (40, true)), [0, 1, 2, 3, 4, 5, 6, 7, 8, 9, 10, 11, 12, 13, 14, 15, 16, 17, 18, 19]⟩,
    ⟨(some 43), .un .not (.t 42), (some (40, true)), [0, 1, 2, 3, 4, 5, 6, 7, 8, 9, 10, 11, 12, 13, 14, 15, 16, 17, 18, 19, 20]⟩,
    ⟨(some 44), .pick (.t 40) (.t 43) (.c (.d (.bool false))), (some (37, false)), [0, 1, 2, 3, 4, 5, 6, 7, 8, 9, 10, 11, 12, 13, 14, 15, 16, 17, 18, 19, 20, 21]⟩,
    ⟨(some 45), .pick (.t 37) (.c (.d (.bool true))) (.t 44), none, [0, 1, 2, 3, 4, 5, 6, 7, 8, 9, 10, 11, 12, 13, 14, 15, 16, 17, 18, 19, 20, 21, 22]⟩] true)
  (.mask ⟨[1, 3, 45], []⟩ (.cond (.t 45)
    (.seq (.region 10 [
      ⟨(some 2), .mov (.c (.d (.bool false))), none, []⟩] false)
    (.mask ⟨[2], []⟩ (.ret)))
    (.skip))))))
  (.mask ⟨[1, 3], []⟩ (.region 7 [
    ⟨(some 15), .mov (.t 3), none, []⟩,
    ⟨(some 16), .bin .add (.t 15) (.c (.d (.int .i64 (1)))), none, []⟩,
    ⟨(some 3), .mov (.t 16), none, []⟩] false))))
/-- beadle/beadlelaw07.AstParts -/
def code_law07_AstParts : AFunc := ⟨58, [.tmp 2],
  .seq (.region 0 [
    ⟨(some 1), .box 6 (.t 0), none, []⟩,
    ⟨(some 2), .mov (.c (.d (.bool false))), none, []⟩] false)
  (.seq (.seq (.region 1 [
    ⟨(some 5), .call (.c (.fn F_law07_alive [])) [], none, []⟩,
    ⟨(some 6), .un .not (.t 5), none, []⟩] false)
  (.cond (.t 6)
    (.seq (.region 2 [
      ⟨(some 2), .mov (.c (.d (.bool false))), none, []⟩] false)
    (.mask ⟨[2], []⟩ (.ret)))
    (.skip)))
  (.mask ⟨[1], []⟩ (.seq (.seq (.region 3 [
    ⟨(some 7), .load 6 true (.t 1), none, []⟩,
    ⟨(some 8), .call (.c (.fn F_ast_Check [])) [(.t 7)], none, []⟩,
    ⟨(some 9), .bin .neq (.t 8) (.c (.d (.int .i64 (0)))), none, []⟩] false)
  (.cond (.t 9)
    (.seq (.region 4 [
      ⟨(some 2), .mov (.c (.d (.bool true))), none, []⟩] false)
    (.mask ⟨[2], []⟩ (.ret)))
    (.skip)))
  (.mask ⟨[1], []⟩ (.seq (.seq (.region 5 [
    ⟨(some 3), .mov (.c (.d (.int .i64 (0)))), none, []⟩] false)
  (.block 0 (.loop mask_law07_AstParts_0 body_law07_AstParts_0)))
  (.mask ⟨[1], []⟩ (.seq (.region 11 [
    ⟨(some 46), .faddr 0 (.t 1), none, []⟩,
    ⟨(some 47), .load 1 false (.t 46), none, [0]⟩,
    ⟨(some 48), .call (.c (.fn F_ast_Kids [])) [(.t 47)], none, [0, 1]⟩,
    ⟨(some 49), .faddr 5 (.t 1), none, []⟩,
    ⟨(some 50), .load 1 false (.t 49), none, [3]⟩,
    ⟨(some 51), .len .sl (.t 50), none, [3, 4]⟩,
    ⟨(some 52), .bin .eql (.t 48) (.t 51), none, [0, 1, 2, 3, 4, 5]⟩,
    ⟨(some 53), .mov (.t 52), none, [0, 1, 2, 3, 4, 5, 6]⟩,
    ⟨(some 54), .faddr 0 (.t 1), (some (53, false)), [0, 1, 2, 3, 4, 5, 6, 7]⟩,
    ⟨(some 55), .load 1 false (.t 54), (some (53, false)), [0, 1, 2, 3, 4, 5, 6, 7, 8]⟩,
    ⟨(some 56), .bin .eql (.t 55) (.c (.d (.int .i64 (4)))), (some (53, false)), [0, 1, 2, 3, 4, 5, 6, 7, 8, 9]⟩,
    ⟨(some 57), .pick (.t 53) (.c (.d (.bool true))) (.t 56), none, [0, 1, 2, 3, 4, 5, 6, 7, 8, 9, 10]⟩,
    ⟨(some 2), .mov (.t 57), none, [0, 1, 2, 3, 4, 5, 6, 7, 8, 9, 10, 11]⟩] true)
  (.mask ⟨[2], []⟩ (.ret)))))))))⟩
/-- beadle/beadlelaw07.AstSame -/
def code_law07_AstSame : AFunc := ⟨46, [.tmp 4],
  .seq (.region 0 [
    ⟨(some 2), .box 6 (.t 0), none, []⟩,
    ⟨(some 3), .box 6 (.t 1), none, []⟩,
    ⟨(some 4), .mov (.c (.d (.bool false))), none, []⟩] false)
  (.seq (.seq (.region 1 [
    ⟨(some 8), .call (.c (.fn F_law07_alive [])) [], none, []⟩,
    ⟨(some 9), .un .not (.t 8), none, []⟩] false)
  (.cond (.t 9)
    (.seq (.region 2 [
      ⟨(some 4), .mov (.c (.d (.bool false))), none, []⟩] false)
    (.mask ⟨[4], []⟩ (.ret)))
    (.skip)))
  (.mask ⟨[2, 3], []⟩ (.seq (.region 3 [
    ⟨(some 10), .load 6 true (.t 2), none, []⟩,
    ⟨(some 11), .call (.c (.fn F_plain_Copy [])) [(.t 10)], none, []⟩,
    ⟨(some 5), .box 6 (.c (.agg [(.d (.int .i64 (0))), (.d (.str [])), (.d (.int .i64 (0))), (.d (.int .i64 (0))), (.d (.int .i64 (0))), (.d (.vs true []))])), none, []⟩,
    ⟨none, .store 6 (.t 5) (.t 11), none, []⟩] false)
  (.seq (.region 4 [
    ⟨(some 12), .load 6 true (.t 2), none, []⟩,
    ⟨(some 13), .call (.c (.fn F_ast_Clone [])) [(.t 12)], none, []⟩,
    ⟨(some 6), .box 6 (.c (.agg [(.d (.int .i64 (0))), (.d (.str [])), (.d (.int .i64 (0))), (.d (.int .i64 (0))), (.d (.int .i64 (0))), (.d (.vs true []))])), none, []⟩,
    ⟨none, .store 6 (.t 6) (.t 13), none, []⟩] false)
  (.seq (.region 5 [
    ⟨(some 14), .load 6 true (.t 6), none, []⟩,
    ⟨(some 15), .call (.c (.fn F_ast_Clone [])) [(.t 14)], none, []⟩,
    ⟨(some 7), .box 6 (.c (.agg [(.d (.int .i64 (0))), (.d (.str [])), (.d (.int .i64 (0))), (.d (.int .i64 (0))), (.d (.int .i64 (0))), (.d (.vs true []))])), none, []⟩,
    ⟨none, .store 6 (.t 7) (.t 15), none, []⟩] false)
  (.seq (.seq (.region 6 [
    ⟨(some 16), .load 6 true (.t 2), none, []⟩,
    ⟨(some 17), .load 6 true (.t 3), none, []⟩,
    ⟨(some 18), .call (.c (.fn F_ast_Same [])) [(.t 16), (.t 17)], none, [0, 1]⟩,
    ⟨(some 19), .load 6 true (.t 2), none, []⟩,
    ⟨(some 20), .load 6 true (.t 3), none, []⟩,
    ⟨(some 21), .call (.c (.fn F_plain_Expr [])) [(.t 19), (.t 20)], none, [0, 1, 2, 3, 4]⟩,
    ⟨(some 22), .binb true (.t 18) (.t 21), none, [0, 1, 2, 3, 4, 5]⟩,
    ⟨(some 23), .mov (.t 22), none, [0, 1, 2, 3, 4, 5, 6]⟩,
    ⟨(some 24), .load 6 true (.t 2), (some (23, false)), [0, 1, 2, 3, 4, 5, 6, 7]⟩,
    ⟨(some 25), .load 6 true (.t 6), (some (23, false)), [0, 1, 2, 3, 4, 5, 6, 7]⟩,
    ⟨(some 26), .call (.c (.fn F_ast_Same [])) [(.t 24), (.t 25)], (some (23, false)), [0, 1, 2, 3, 4, 5, 6, 7, 8, 9]⟩,
    ⟨(some 27), .un .not (.t 26), (some (23, false)), [0, 1, 2, 3, 4, 5, 6, 7, 8, 9, 10]⟩,
    ⟨(some 28), .pick (.t 23) (.c (.d (.bool true))) (.t 27), none, [0, 1, 2, 3, 4, 5, 6, 7, 8, 9, 10, 11]⟩,
    ⟨(some 29), .mov (.t 28), none, [0, 1, 2, 3, 4, 5, 6, 7, 8, 9, 10, 11, 12]⟩,
    ⟨(some 30), .load 6 true (.t 2), (some (29, false)), [0, 1, 2, 3, 4, 5, 6, 7, 8, 9, 10, 11, 12, 13]⟩,
    ⟨(some 31), .load 6 true (.t 6), (some (29, false)), [0, 1, 2, 3, 4, 5, 6, 7, 8, 9, 10, 11, 12, 13]⟩,
    ⟨(some 32), .call (.c (.fn F_plain_Expr [])) [(.t 30), (.t 31)], (some (29, false)), [0, 1, 2, 3, 4, 5, 6, 7, 8, 9, 10, 11, 12, 13, 14, 15]⟩,
    ⟨(some 33), .un .not (.t 32), (some (29, false)), [0, 1, 2, 3, 4, 5, 6, 7, 8, 9, 10, 11, 12, 13, 14, 15, 16]⟩,
    ⟨(some 34), .pick (.t 29) (.c (.d (.bool true))) (.t 33), none, [0, 1, 2, 3, 4, 5, 6, 7, 8, 9, 10, 11, 12, 13, 14, 15, 16, 17]⟩] true)
  (.mask ⟨[2, 5, 6, 7, 34], []⟩ (.cond (.t 34)
    (.seq (.region 7 [
      ⟨(some 4), .mov (.c (.d (.bool false))), none, []⟩] false)
    (.mask ⟨[4], []⟩ (.ret)))
    (.skip))))
  (.mask ⟨[2, 5, 6, 7], []⟩ (.seq (.region 8 [
    ⟨(some 35), .faddr 5 (.t 6), none, []⟩,
    ⟨(some 36), .load 1 false (.t 35), none, []⟩,
    ⟨(some 37), .call (.c (.fn F_law07_spoil [])) [(.t 36)], none, []⟩] false)
  (.seq (.region 9 [
    ⟨(some 38), .load 6 true (.t 2), none, []⟩,
    ⟨(some 39), .load 6 true (.t 5), none, []⟩,
    ⟨(some 40), .call (.c (.fn F_plain_Expr [])) [(.t 38), (.t 39)], none, []⟩,
    ⟨(some 41), .mov (.t 40), none, []⟩,
    ⟨(some 42), .load 6 true (.t 7), (some (41, true)), []⟩,
    ⟨(some 43), .load 6 true (.t 5), (some (41, true)), []⟩,
    ⟨(some 44), .call (.c (.fn F_plain_Expr [])) [(.t 42), (.t 43)], (some (41, true)), []⟩,
    ⟨(some 45), .pick (.t 41) (.t 44) (.c (.d (.bool false))), none, []⟩,
    ⟨(some 4), .mov (.t 45), none, []⟩] false)
  (.mask ⟨[4], []⟩ (.ret)))))))))))⟩
/-- beadle/beadlelaw05.alive -/
def code_law05_alive : AFunc := ⟨51, [.tmp 0],
  .seq (.region 0 [
    ⟨(some 0), .mov (.c (.d (.bool false))), none, []⟩] false)
  (.seq (.region 1 [
    ⟨(some 7), .build [(.d (.str [])), (.d (.int .i64 (0)))] [(0, 1, (.c (.d (.str [110])))), (1, 1, (.c (.d (.int .i64 (1)))))], none, []⟩,
    ⟨(some 8), .buildSl 2 [(.str []), (.int .i64 (0))] 1 [(0, (.t 7))], none, []⟩,
    ⟨(some 9), .call (.c (.fn F_store_New [])) [(.t 8)], none, []⟩,
    ⟨(some 1), .mov (.t 9), none, []⟩] false)
  (.seq (.region 2 [
    ⟨(some 10), .mov (.t 1), none, []⟩,
    ⟨(some 11), .build [(.d (.int .i64 (0))), (.d (.int .i64 (0))), (.d (.str [])), (.d (.vs true []))] [(0, 1, (.c (.d (.int .i64 (1))))), (1, 1, (.c (.d (.int .i64 (3)))))], none, []⟩,
    ⟨(some 12), .call (.c (.fn F_store_Store_Set [])) [(.t 10), (.c (.d (.str [120]))), (.c (.d (.str [110]))), (.t 11)], none, []⟩,
    ⟨(some 2), .mov (.t 12), none, []⟩] false)
  (.seq (.region 3 [
    ⟨(some 14), .mov (.t 1), none, []⟩,
    ⟨(some 15), .call (.c (.fn F_store_Store_Get [])) [(.t 14), (.c (.d (.str [120]))), (.c (.d (.str [110])))], none, []⟩,
    ⟨(some 13), .mov (.t 15), none, []⟩,
    ⟨(some 16), .extract (.t 13) 0, none, []⟩,
    ⟨(some 17), .extract (.t 13) 1, none, []⟩,
    ⟨(some 3), .box 4 (.c (.agg [(.d (.int .i64 (0))), (.d (.int .i64 (0))), (.d (.str [])), (.d (.vs true []))])), none, []⟩,
    ⟨none, .store 4 (.t 3) (.t 16), none, []⟩,
    ⟨(some 4), .mov (.t 17), none, []⟩] false)
  (.seq (.region 4 [
    ⟨(some 19), .mov (.t 1), none, []⟩,
    ⟨(some 20), .call (.c (.fn F_store_Store_Get [])) [(.t 19), (.c (.d (.str [121]))), (.c (.d (.str [110])))], none, []⟩,
    ⟨(some 18), .mov (.t 20), none, []⟩,
    ⟨(some 21), .extract (.t 18) 0, none, []⟩,
    ⟨(some 22), .extract (.t 18) 1, none, []⟩,
    ⟨(some 5), .box 4 (.c (.agg [(.d (.int .i64 (0))), (.d (.int .i64 (0))), (.d (.str [])), (.d (.vs true []))])), none, []⟩,
    ⟨none, .store 4 (.t 5) (.t 21), none, []⟩,
    ⟨(some 6), .mov (.t 22), none, []⟩] false)
  (.seq (.region 5 [
    ⟨(some 23), .mov (.t 2), none, []⟩,
    ⟨(some 24), .bin .eql (.t 23) (.c (.d (.int .i64 (0)))), none, []⟩,
    ⟨(some 25), .mov (.t 24), none, []⟩,
    ⟨(some 26), .mov (.t 4), (some (25, true)), []⟩,
    ⟨(some 27), .pick (.t 25) (.t 26) (.c (.d (.bool false))), none, []⟩,
    ⟨(some 28), .mov (.t 27), none, []⟩,
    ⟨(some 29), .faddr 1 (.t 3), (some (28, true)), []⟩,
    ⟨(some 30), .load 1 false (.t 29), (some (28, true)), []⟩,
    ⟨(some 31), .bin .eql (.t 30) (.c (.d (.int .i64 (3)))), (some (28, true)), []⟩,
    ⟨(some 32), .pick (.t 28) (.t 31) (.c (.d (.bool false))), none, []⟩,
    ⟨(some 33), .mov (.t 32), none, []⟩,
    ⟨(some 34), .mov (.t 6), (some (33, true)), []⟩,
    ⟨(some 35), .pick (.t 33) (.t 34) (.c (.d (.bool false))), none, []⟩,
    ⟨(some 36), .mov (.t 35), none, []⟩,
    ⟨(some 37), .faddr 0 (.t 5), (some (36, true)), []⟩,
    ⟨(some 38), .load 1 false (.t 37), (some (36, true)), []⟩,
    ⟨(some 39), .bin .eql (.t 38) (.c (.d (.int .i64 (1)))), (some (36, true)), []⟩,
    ⟨(some 40), .pick (.t 36) (.t 39) (.c (.d (.bool false))), none, []⟩,
    ⟨(some 41), .mov (.t 40), none, []⟩,
    ⟨(some 42), .faddr 1 (.t 5), (some (41, true)), []⟩,
    ⟨(some 43), .load 1 false (.t 42), (some (41, true)), []⟩,
    ⟨(some 44), .bin .eql (.t 43) (.c (.d (.int .i64 (0)))), (some (41, true)), []⟩,
    ⟨(some 45), .pick (.t 41) (.t 44) (.c (.d (.bool false))), none, []⟩,
    ⟨(some 46), .mov (.t 45), none, []⟩,
    ⟨(some 47), .mov (.t 1), (some (46, true)), []⟩,
    ⟨(some 48), .call (.c (.fn F_store_Store_Count [])) [(.t 47)], (some (46, true)), []⟩,
    ⟨(some 49), .bin .eql (.t 48) (.c (.d (.int .i64 (1)))), (some (46, true)), []⟩,
    ⟨(some 50), .pick (.t 46) (.t 49) (.c (.d (.bool false))), none, []⟩,
    ⟨(some 0), .mov (.t 50), none, []⟩] false)
  (.mask ⟨[0], []⟩ (.ret)))))))⟩
def mask_plain_Rising_0 : Mask := ⟨[0, 3, 4, 5], [.slot 3 10000030 1]⟩
def body_plain_Rising_0 : ACode :=
  .seq (.seq (.region 7 [
    ⟨(some 19), .mov (.t 5), none, []⟩,
    ⟨(some 20), .mov (.t 3), none, []⟩,
    ⟨(some 21), .len .sl (.t 20), none, [1]⟩,
    ⟨(some 22), .bin .lss (.t 19) (.t 21), none, [0, 1, 2]⟩,
    ⟨(some 23), .mov (.t 22), none, [0, 1, 2, 3]⟩,
    ⟨(some 24), .mov (.t 3), (some (23, true)), [0, 1, 2, 3, 4]⟩,
    ⟨(some 25), .mov (.t 5), (some (23, true)), [0, 1, 2, 3, 4]⟩,
    ⟨(some 26), .iaddr 1 (.t 24) (.t 25), (some (23, true)), [0, 1, 2, 3, 4, 5, 6]⟩,
    ⟨(some 27), .load 1 false (.t 26), (some (23, true)), [0, 1, 2, 3, 4, 5, 6, 7]⟩,
    ⟨(some 28), .mov (.t 0), (some (23, true)), [0, 1, 2, 3, 4]⟩,
    ⟨(some 29), .mov (.t 4), (some (23, true)), [0, 1, 2, 3, 4]⟩,
    ⟨(some 30), .iaddr 1 (.t 28) (.t 29), (some (23, true)), [0, 1, 2, 3, 4, 9, 10]⟩,
    ⟨(some 31), .load 1 false (.t 30), (some (23, true)), [0, 1, 2, 3, 4, 9, 10, 11]⟩,
    ⟨(some 32), .bin .lss (.t 27) (.t 31), (some (23, true)), [0, 1, 2, 3, 4, 5, 6, 7, 8, 9, 10, 11, 12]⟩,
    ⟨(some 33), .pick (.t 23) (.t 32) (.c (.d (.bool false))), none, [0, 1, 2, 3, 4, 5, 6, 7, 8, 9, 10, 11, 12, 13]⟩] true)
  (.mask ⟨[0, 3, 4, 5, 33], [.slot 3 10000030 1]⟩ (.cond (.t 33)
    (.skip)
    (.mask ⟨[0, 3, 4, 5], [.slot 3 10000030 1]⟩ (.exit 2)))))
  (.mask ⟨[0, 3, 4, 5], [.slot 3 10000030 1]⟩ (.block 3 (.region 8 [
    ⟨(some 34), .mov (.t 5), none, []⟩,
    ⟨(some 35), .bin .add (.t 34) (.c (.d (.int .i64 (1)))), none, []⟩,
    ⟨(some 5), .mov (.t 35), none, []⟩] false)))
def mask_plain_Rising_1 : Mask := ⟨[0, 3, 4], [.slot 3 10000030 1]⟩
def body_plain_Rising_1 : ACode :=
  .seq (.seq (.region 3 [
    ⟨(some 7), .mov (.t 4), none, []⟩,
    ⟨(some 8), .mov (.t 0), none, []⟩,
    ⟨(some 9), .len .sl (.t 8), none, []⟩,
    ⟨(some 10), .bin .lss (.t 7) (.t 9), none, []⟩] false)
  (.cond (.t 10)
    (.skip)
    (.mask ⟨[3], [.slot 3 10000030 1]⟩ (.exit 0))))
  (.mask ⟨[0, 3, 4], [.slot 3 10000030 1]⟩ (.seq (.block 1 (.seq (.seq (.region 5 [
    ⟨(some 13), .mov (.t 3), none, []⟩,
    ⟨(some 14), .mov (.t 0), none, []⟩,
    ⟨(some 15), .mov (.t 4), none, []⟩,
    ⟨(some 16), .iaddr 1 (.t 14) (.t 15), none, []⟩,
    ⟨(some 17), .load 1 false (.t 16), none, []⟩,
    ⟨(some 18), .call (.c (.fn F_plain_In [])) [(.t 13), (.t 17)], none, []⟩] false)
  (.cond (.t 18)
    (.mask ⟨[0, 3, 4], [.slot 3 10000030 1]⟩ (.exit 1))
    (.skip)))
  (.mask ⟨[0, 3, 4], [.slot 3 10000030 1]⟩ (.seq (.region 6 [
    ⟨(some 5), .mov (.c (.d (.int .i64 (0)))), none, []⟩] false)
  (.seq (.block 2 (.loop mask_plain_Rising_0 body_plain_Rising_0))
  (.mask ⟨[0, 3, 4, 5], [.slot 3 10000030 1]⟩ (.seq (.region 9 [
    ⟨(some 6), .mov (.c (.d (.vs true []))), none, []⟩] false)
  (.seq (.region 10 [
    ⟨(some 36), .mov (.t 6), none, []⟩,
    ⟨(some 37), .mov (.t 3), none, []⟩,
    ⟨(some 38), .mov (.t 5), none, []⟩,
    ⟨(some 39), .slice 1 (.t 37) none (some (.t 38)) none, none, []⟩,
    ⟨(some 40), .append 1 (.t 36) (.t 39), none, []⟩,
    ⟨(some 6), .mov (.t 40), none, []⟩] false)
  (.seq (.region 11 [
    ⟨(some 41), .mov (.t 6), none, []⟩,
    ⟨(some 42), .mov (.t 0), none, []⟩,
    ⟨(some 43), .mov (.t 4), none, []⟩,
    ⟨(some 44), .iaddr 1 (.t 42) (.t 43), none, []⟩,
    ⟨(some 45), .load 1 false (.t 44), none, []⟩,
    ⟨(some 46), .buildSl 1 [(.str [])] 1 [(0, (.t 45))], none, []⟩,
    ⟨(some 47), .append 1 (.t 41) (.t 46), none, []⟩,
    ⟨(some 6), .mov (.t 47), none, []⟩] false)
  (.seq (.region 12 [
    ⟨(some 48), .mov (.t 6), none, []⟩,
    ⟨(some 49), .mov (.t 3), none, []⟩,
    ⟨(some 50), .mov (.t 5), none, []⟩,
    ⟨(some 51), .slice 1 (.t 49) (some (.t 50)) none none, none, []⟩,
    ⟨(some 52), .append 1 (.t 48) (.t 51), none, []⟩,
    ⟨(some 6), .mov (.t 52), none, []⟩] false)
  (.region 13 [
    ⟨(some 53), .mov (.t 6), none, []⟩,
    ⟨(some 3), .mov (.t 53), none, []⟩] false)))))))))))
  (.mask ⟨[0, 3, 4], [.slot 3 10000030 1]⟩ (.region 4 [
    ⟨(some 11), .mov (.t 4), none, []⟩,
    ⟨(some 12), .bin .add (.t 11) (.c (.d (.int .i64 (1)))), none, []⟩,
    ⟨(some 4), .mov (.t 12), none, []⟩] false))))
/-- beadle/beadleplain.Rising -/
def code_plain_Rising : AFunc := ⟨55, [.tmp 2],
  .seq (.region 0 [
    ⟨(some 2), .mov (.c (.d (.vs true []))), none, []⟩] false)
  (.seq (.region 1 [
    ⟨(some 3), .mov (.c (.d (.vs true []))), none, []⟩] false)
  (.seq (.seq (.region 2 [
    ⟨(some 4), .mov (.c (.d (.int .i64 (0)))), none, []⟩] false)
  (.block 0 (.loop mask_plain_Rising_1 body_plain_Rising_1)))
  (.mask ⟨[3], [.slot 3 10000030 1]⟩ (.seq (.region 14 [
    ⟨(some 54), .mov (.t 3), none, []⟩,
    ⟨(some 2), .mov (.t 54), none, []⟩] false)
  (.mask ⟨[2], [.slot 2 10000020 1]⟩ (.ret))))))⟩
def mask_store_New_0 : Mask := ⟨[3, 12, 13, 14], []⟩
def body_store_New_0 : ACode :=
  .seq (.region 3 [
    ⟨(some 15), .bin .lss (.t 14) (.t 13), none, []⟩] false)
  (.seq (.cond (.t 15)
    (.skip)
    (.mask ⟨[3], []⟩ (.exit 0)))
  (.mask ⟨[3, 12, 13, 14], []⟩ (.seq (.block 1 (.seq (.region 4 [
    ⟨(some 16), .iaddr 2 (.t 12) (.t 14), none, []⟩,
    ⟨(some 17), .load 2 true (.t 16), none, []⟩,
    ⟨(some 5), .box 2 (.c (.agg [(.d (.str [])), (.d (.int .i64 (0)))])), none, []⟩,
    ⟨none, .store 2 (.t 5) (.t 17), none, []⟩] false)
  (.seq (.region 5 [
    ⟨(some 19), .mov (.t 3), none, []⟩,
    ⟨(some 20), .nilchk (.t 19), none, [0]⟩,
    ⟨(some 21), .faddr 0 (.t 20), none, [0, 1]⟩,
    ⟨(some 22), .load 1 false (.t 21), none, [0, 1, 2]⟩,
    ⟨(some 23), .faddr 0 (.t 5), none, []⟩,
    ⟨(some 24), .load 1 false (.t 23), none, [4]⟩,
    ⟨(some 25), .lookup false [.str] (.d (.int .i64 (0))) (.t 22) (.t 24) true, none, [0, 1, 2, 3, 4, 5]⟩,
    ⟨(some 18), .mov (.t 25), none, [0, 1, 2, 3, 4, 5, 6]⟩,
    ⟨(some 26), .extract (.t 18) 0, none, [0, 1, 2, 3, 4, 5, 6, 7]⟩,
    ⟨(some 27), .extract (.t 18) 1, none, [0, 1, 2, 3, 4, 5, 6, 7]⟩,
    ⟨(some 6), .mov (.t 26), none, [0, 1, 2, 3, 4, 5, 6, 7, 8]⟩,
    ⟨(some 7), .mov (.t 27), none, [0, 1, 2, 3, 4, 5, 6, 7, 8, 9, 10]⟩] true)
  (.seq (.region 6 [
    ⟨(some 28), .mov (.t 7), none, []⟩,
    ⟨(some 29), .un .not (.t 28), none, []⟩,
    ⟨(some 30), .mov (.t 29), none, []⟩,
    ⟨(some 31), .faddr 1 (.t 5), (some (30, true)), []⟩,
    ⟨(some 32), .load 1 false (.t 31), (some (30, true)), []⟩,
    ⟨(some 33), .bin .geq (.t 32) (.c (.d (.int .i64 (1)))), (some (30, true)), []⟩,
    ⟨(some 34), .pick (.t 30) (.t 33) (.c (.d (.bool false))), none, []⟩,
    ⟨(some 35), .mov (.t 34), none, []⟩,
    ⟨(some 36), .faddr 1 (.t 5), (some (35, true)), []⟩,
    ⟨(some 37), .load 1 false (.t 36), (some (35, true)), []⟩,
    ⟨(some 38), .bin .leq (.t 37) (.c (.d (.int .i64 (4)))), (some (35, true)), []⟩,
    ⟨(some 39), .pick (.t 35) (.t 38) (.c (.d (.bool false))), none, []⟩] false)
  (.mask ⟨[3, 5, 12, 13, 14, 39], []⟩ (.cond (.t 39)
    (.region 7 [
      ⟨(some 40), .mov (.t 3), none, []⟩,
      ⟨(some 41), .nilchk (.t 40), none, [0]⟩,
      ⟨(some 42), .faddr 0 (.t 41), none, [0, 1]⟩,
      ⟨(some 43), .load 1 false (.t 42), none, [0, 1, 2]⟩,
      ⟨(some 44), .faddr 0 (.t 5), none, []⟩,
      ⟨(some 45), .load 1 false (.t 44), none, [4]⟩,
      ⟨(some 46), .faddr 1 (.t 5), none, []⟩,
      ⟨(some 47), .load 1 false (.t 46), none, [6]⟩,
      ⟨none, .mapupd false [.str] (.t 43) (.t 45) (.t 47), none, [0, 1, 2, 3, 4, 5, 6, 7]⟩] true)
    (.skip)))))))
  (.mask ⟨[3, 12, 13, 14], []⟩ (.region 8 [
    ⟨(some 48), .bin .add (.t 14) (.c (.d (.int .i64 (1)))), none, []⟩,
    ⟨(some 14), .mov (.t 48), none, []⟩] false)))))
/-- beadle/store.New -/
def code_store_New : AFunc := ⟨50, [.tmp 2],
  .seq (.region 0 [
    ⟨(some 2), .mov (.c (.d .nilp)), none, []⟩] false)
  (.seq (.region 1 [
    ⟨(some 8), .mkmap false [.str], none, []⟩,
    ⟨(some 9), .mkmap true [.str, .str], none, []⟩,
    ⟨(some 10), .build [(.d .nilm), (.d .nilm)] [(0, 1, (.t 8)), (1, 1, (.t 9))], none, []⟩,
    ⟨(some 11), .box 2 (.t 10), none, []⟩,
    ⟨(some 3), .mov (.t 11), none, []⟩] false)
  (.seq (.seq (.region 2 [
    ⟨(some 12), .mov (.t 0), none, []⟩,
    ⟨(some 13), .len .sl (.t 12), none, []⟩,
    ⟨(some 14), .mov (.c (.d (.int .i64 (0)))), none, []⟩] false)
  (.block 0 (.loop mask_store_New_0 body_store_New_0)))
  (.mask ⟨[3], []⟩ (.seq (.region 9 [
    ⟨(some 49), .mov (.t 3), none, []⟩,
    ⟨(some 2), .mov (.t 49), none, []⟩] false)
  (.mask ⟨[2], []⟩ (.ret))))))⟩
/-- (*beadle/store.Store).Set -/
def code_store_Store_Set : AFunc := ⟨40, [.tmp 8],
  .seq (.region 0 [
    ⟨(some 7), .box 4 (.t 3), none, []⟩,
    ⟨(some 8), .mov (.c (.d (.int .i64 (0)))), none, []⟩] false)
  (.seq (.seq (.region 1 [
    ⟨(some 11), .mov (.t 0), none, []⟩,
    ⟨(some 12), .mov (.t 2), none, []⟩,
    ⟨(some 13), .call (.c (.fn F_store_Store_Kind [])) [(.t 11), (.t 12)], none, []⟩,
    ⟨(some 9), .mov (.t 13), none, []⟩] false)
  (.block 0 (.seq (.region 2 [
    ⟨(some 15), .mov (.t 0), none, []⟩,
    ⟨(some 16), .call (.c (.fn F_store_Store_is [])) [(.t 15)], none, []⟩,
    ⟨(some 17), .un .not (.t 16), none, []⟩,
    ⟨(some 14), .mov (.t 17), none, []⟩] false)
  (.cond (.t 14)
    (.seq (.region 3 [
      ⟨(some 8), .mov (.c (.d (.int .i64 (9)))), none, []⟩] false)
    (.mask ⟨[8], []⟩ (.ret)))
    (.seq (.region 4 [
      ⟨(some 19), .mov (.t 9), none, []⟩,
      ⟨(some 20), .bin .eql (.t 19) (.c (.d (.int .i64 (0)))), none, []⟩,
      ⟨(some 18), .mov (.t 20), none, []⟩] false)
    (.cond (.t 18)
      (.seq (.region 5 [
        ⟨(some 8), .mov (.c (.d (.int .i64 (14)))), none, []⟩] false)
      (.mask ⟨[8], []⟩ (.ret)))
      (.seq (.region 6 [
        ⟨(some 22), .mov (.t 9), none, []⟩,
        ⟨(some 23), .faddr 0 (.t 7), none, []⟩,
        ⟨(some 24), .load 1 false (.t 23), none, []⟩,
        ⟨(some 25), .bin .neq (.t 22) (.t 24), none, []⟩,
        ⟨(some 21), .mov (.t 25), none, []⟩] false)
      (.cond (.t 21)
        (.seq (.region 7 [
          ⟨(some 8), .mov (.c (.d (.int .i64 (31)))), none, []⟩] false)
        (.mask ⟨[8], []⟩ (.ret)))
        (.skip)))))))))
  (.mask ⟨[0, 1, 2, 7], []⟩ (.seq (.seq (.region 8 [
    ⟨(some 26), .load 4 true (.t 7), none, []⟩,
    ⟨(some 27), .call (.c (.fn F_value_Check [])) [(.t 26)], none, []⟩,
    ⟨(some 10), .mov (.t 27), none, []⟩] false)
  (.seq (.region 9 [
    ⟨(some 28), .mov (.t 10), none, []⟩,
    ⟨(some 29), .bin .neq (.t 28) (.c (.d (.int .i64 (0)))), none, []⟩] false)
  (.cond (.t 29)
    (.seq (.region 10 [
      ⟨(some 30), .mov (.t 10), none, []⟩,
      ⟨(some 8), .mov (.t 30), none, []⟩] false)
    (.mask ⟨[8], []⟩ (.ret)))
    (.skip))))
  (.mask ⟨[0, 1, 2, 7], []⟩ (.seq (.region 11 [
    ⟨(some 31), .mov (.t 0), none, []⟩,
    ⟨(some 32), .nilchk (.t 31), none, [0]⟩,
    ⟨(some 33), .faddr 1 (.t 32), none, [0, 1]⟩,
    ⟨(some 34), .load 1 false (.t 33), none, [0, 1, 2]⟩,
    ⟨(some 35), .mov (.t 1), none, []⟩,
    ⟨(some 36), .mov (.t 2), none, []⟩,
    ⟨(some 37), .build [(.d (.str [])), (.d (.str []))] [(0, 1, (.t 35)), (1, 1, (.t 36))], none, [4, 5]⟩,
    ⟨(some 38), .load 4 true (.t 7), none, []⟩,
    ⟨(some 39), .call (.c (.fn F_store_own [])) [(.t 38)], none, [7]⟩,
    ⟨none, .mapupd true [.str, .str] (.t 34) (.t 37) (.t 39), none, [0, 1, 2, 3, 4, 5, 6, 7, 8]⟩] true)
  (.seq (.region 12 [
    ⟨(some 8), .mov (.c (.d (.int .i64 (0)))), none, []⟩] false)
  (.mask ⟨[8], []⟩ (.ret))))))))⟩
def mask_law05_long_0 : Mask := ⟨[0, 3], []⟩
def body_law05_long_0 : ACode :=
  .seq (.seq (.region 2 [
    ⟨(some 4), .mov (.t 3), none, []⟩,
    ⟨(some 5), .mov (.t 0), none, []⟩,
    ⟨(some 6), .len .sl (.t 5), none, []⟩,
    ⟨(some 7), .bin .lss (.t 4) (.t 6), none, []⟩] false)
  (.cond (.t 7)
    (.skip)
    (.mask ⟨[], []⟩ (.exit 0))))
  (.mask ⟨[0, 3], []⟩ (.seq (.block 1 (.seq (.region 4 [
    ⟨(some 10), .mov (.t 0), none, []⟩,
    ⟨(some 11), .mov (.t 3), none, []⟩,
    ⟨(some 12), .iaddr 1 (.t 10) (.t 11), none, []⟩,
    ⟨(some 13), .load 1 false (.t 12), none, []⟩,
    ⟨(some 14), .len .str (.t 13), none, []⟩,
    ⟨(some 15), .bin .gtr (.t 14) (.c (.d (.int .i64 (32)))), none, []⟩] false)
  (.cond (.t 15)
    (.seq (.region 5 [
      ⟨(some 2), .mov (.c (.d (.bool true))), none, []⟩] false)
    (.mask ⟨[2], []⟩ (.ret)))
    (.skip))))
  (.mask ⟨[0, 3], []⟩ (.region 3 [
    ⟨(some 8), .mov (.t 3), none, []⟩,
    ⟨(some 9), .bin .add (.t 8) (.c (.d (.int .i64 (1)))), none, []⟩,
    ⟨(some 3), .mov (.t 9), none, []⟩] false))))
/-- beadle/beadlelaw05.long -/
def code_law05_long : AFunc := ⟨16, [.tmp 2],
  .seq (.region 0 [
    ⟨(some 2), .mov (.c (.d (.bool false))), none, []⟩] false)
  (.seq (.seq (.region 1 [
    ⟨(some 3), .mov (.c (.d (.int .i64 (0)))), none, []⟩] false)
  (.block 0 (.loop mask_law05_long_0 body_law05_long_0)))
  (.mask ⟨[], []⟩ (.seq (.region 6 [
    ⟨(some 2), .mov (.c (.d (.bool false))), none, []⟩] false)
  (.mask ⟨[2], []⟩ (.ret)))))⟩
/-- (*beadle/store.Store).Get -/
def code_store_Store_Get : AFunc := ⟨33, [.cell 6 4 true, .tmp 7],
  .seq (.region 0 [
    ⟨(some 6), .box 4 (.c (.agg [(.d (.int .i64 (0))), (.d (.int .i64 (0))), (.d (.str [])), (.d (.vs true []))])), none, []⟩,
    ⟨(some 7), .mov (.c (.d (.bool false))), none, []⟩] false)
  (.seq (.region 1 [
    ⟨(some 11), .mov (.t 0), none, []⟩,
    ⟨(some 12), .mov (.t 2), none, []⟩,
    ⟨(some 13), .call (.c (.fn F_store_Store_Kind [])) [(.t 11), (.t 12)], none, []⟩,
    ⟨(some 8), .mov (.t 13), none, []⟩] false)
  (.seq (.seq (.region 2 [
    ⟨(some 14), .mov (.t 8), none, []⟩,
    ⟨(some 15), .bin .eql (.t 14) (.c (.d (.int .i64 (0)))), none, []⟩] false)
  (.cond (.t 15)
    (.seq (.region 3 [
      ⟨(some 16), .build [(.d (.int .i64 (0))), (.d (.int .i64 (0))), (.d (.str [])), (.d (.vs true []))] [], none, []⟩,
      ⟨none, .store 4 (.t 6) (.t 16), none, []⟩,
      ⟨(some 7), .mov (.c (.d (.bool false))), none, []⟩] false)
    (.mask ⟨[6, 7], []⟩ (.ret)))
    (.skip)))
  (.mask ⟨[0, 1, 2, 6, 8], []⟩ (.seq (.seq (.region 4 [
    ⟨(some 18), .mov (.t 0), none, []⟩,
    ⟨(some 19), .nilchk (.t 18), none, []⟩,
    ⟨(some 20), .faddr 1 (.t 19), none, []⟩,
    ⟨(some 21), .load 1 false (.t 20), none, []⟩,
    ⟨(some 22), .mov (.t 1), none, []⟩,
    ⟨(some 23), .mov (.t 2), none, []⟩,
    ⟨(some 24), .build [(.d (.str [])), (.d (.str []))] [(0, 1, (.t 22)), (1, 1, (.t 23))], none, []⟩,
    ⟨(some 25), .lookup true [.str, .str] (.agg [(.d (.int .i64 (0))), (.d (.int .i64 (0))), (.d (.str [])), (.d (.vs false []))]) (.t 21) (.t 24) true, none, []⟩,
    ⟨(some 17), .mov (.t 25), none, []⟩,
    ⟨(some 26), .extract (.t 17) 0, none, []⟩,
    ⟨(some 27), .extract (.t 17) 1, none, []⟩,
    ⟨(some 9), .box 4 (.c (.agg [(.d (.int .i64 (0))), (.d (.int .i64 (0))), (.d (.str [])), (.d (.vs true []))])), none, []⟩,
    ⟨none, .store 4 (.t 9) (.t 26), none, []⟩,
    ⟨(some 10), .mov (.t 27), none, []⟩] false)
  (.seq (.region 5 [
    ⟨(some 28), .mov (.t 10), none, []⟩] false)
  (.cond (.t 28)
    (.seq (.region 6 [
      ⟨(some 29), .load 4 true (.t 9), none, []⟩,
      ⟨(some 30), .call (.c (.fn F_store_own [])) [(.t 29)], none, []⟩,
      ⟨none, .store 4 (.t 6) (.t 30), none, []⟩,
      ⟨(some 7), .mov (.c (.d (.bool true))), none, []⟩] false)
    (.mask ⟨[6, 7], []⟩ (.ret)))
    (.skip))))
  (.mask ⟨[6, 8], []⟩ (.seq (.region 7 [
    ⟨(some 31), .mov (.t 8), none, []⟩,
    ⟨(some 32), .call (.c (.fn F_value_Zero [])) [(.t 31)], none, []⟩,
    ⟨none, .store 4 (.t 6) (.t 32), none, []⟩,
    ⟨(some 7), .mov (.c (.d (.bool true))), none, []⟩] false)
  (.mask ⟨[6, 7], []⟩ (.ret))))))))⟩
def mask_plain_Texts_0 : Mask := ⟨[0, 1, 5], []⟩
def body_plain_Texts_0 : ACode :=
  .seq (.seq (.region 4 [
    ⟨(some 11), .mov (.t 5), none, []⟩,
    ⟨(some 12), .mov (.t 0), none, []⟩,
    ⟨(some 13), .len .sl (.t 12), none, []⟩,
    ⟨(some 14), .bin .lss (.t 11) (.t 13), none, []⟩] false)
  (.cond (.t 14)
    (.skip)
    (.mask ⟨[], []⟩ (.exit 0))))
  (.mask ⟨[0, 1, 5], []⟩ (.seq (.block 1 (.seq (.region 6 [
    ⟨(some 17), .mov (.t 0), none, []⟩,
    ⟨(some 18), .mov (.t 5), none, []⟩,
    ⟨(some 19), .iaddr 1 (.t 17) (.t 18), none, [0, 1]⟩,
    ⟨(some 20), .load 1 false (.t 19), none, [0, 1, 2]⟩,
    ⟨(some 21), .mov (.t 1), none, []⟩,
    ⟨(some 22), .mov (.t 5), none, []⟩,
    ⟨(some 23), .iaddr 1 (.t 21) (.t 22), none, [4, 5]⟩,
    ⟨(some 24), .load 1 false (.t 23), none, [4, 5, 6]⟩,
    ⟨(some 25), .bin .neq (.t 20) (.t 24), none, [0, 1, 2, 3, 4, 5, 6, 7]⟩] true)
  (.cond (.t 25)
    (.seq (.region 7 [
      ⟨(some 4), .mov (.c (.d (.bool false))), none, []⟩] false)
    (.mask ⟨[4], []⟩ (.ret)))
    (.skip))))
  (.mask ⟨[0, 1, 5], []⟩ (.region 5 [
    ⟨(some 15), .mov (.t 5), none, []⟩,
    ⟨(some 16), .bin .add (.t 15) (.c (.d (.int .i64 (1)))), none, []⟩,
    ⟨(some 5), .mov (.t 16), none, []⟩] false))))
/-- beadle/beadleplain.Texts -/
def code_plain_Texts : AFunc := ⟨26, [.tmp 4],
  .seq (.region 0 [
    ⟨(some 4), .mov (.c (.d (.bool false))), none, []⟩] false)
  (.seq (.seq (.region 1 [
    ⟨(some 6), .mov (.t 0), none, []⟩,
    ⟨(some 7), .len .sl (.t 6), none, []⟩,
    ⟨(some 8), .mov (.t 1), none, []⟩,
    ⟨(some 9), .len .sl (.t 8), none, []⟩,
    ⟨(some 10), .bin .neq (.t 7) (.t 9), none, []⟩] false)
  (.cond (.t 10)
    (.seq (.region 2 [
      ⟨(some 4), .mov (.c (.d (.bool false))), none, []⟩] false)
    (.mask ⟨[4], []⟩ (.ret)))
    (.skip)))
  (.mask ⟨[0, 1], []⟩ (.seq (.seq (.region 3 [
    ⟨(some 5), .mov (.c (.d (.int .i64 (0)))), none, []⟩] false)
  (.block 0 (.loop mask_plain_Texts_0 body_plain_Texts_0)))
  (.mask ⟨[], []⟩ (.seq (.region 8 [
    ⟨(some 4), .mov (.c (.d (.bool true))), none, []⟩] false)
  (.mask ⟨[4], []⟩ (.ret)))))))⟩
/-- beadle/beadlelaw07.alive -/
def code_law07_alive : AFunc := ⟨35, [.tmp 0],
  .seq (.region 0 [
    ⟨(some 0), .mov (.c (.d (.bool false))), none, []⟩] false)
  (.seq (.region 1 [
    ⟨(some 2), .call (.c (.fn F_law07_sum [])) [], none, []⟩,
    ⟨(some 1), .box 6 (.c (.agg [(.d (.int .i64 (0))), (.d (.str [])), (.d (.int .i64 (0))), (.d (.int .i64 (0))), (.d (.int .i64 (0))), (.d (.vs true []))])), none, []⟩,
    ⟨none, .store 6 (.t 1) (.t 2), none, []⟩] false)
  (.seq (.region 2 [
    ⟨(some 3), .load 6 true (.t 1), none, []⟩,
    ⟨(some 4), .call (.c (.fn F_ast_Check [])) [(.t 3)], none, []⟩,
    ⟨(some 5), .bin .eql (.t 4) (.c (.d (.int .i64 (0)))), none, []⟩,
    ⟨(some 6), .mov (.t 5), none, []⟩,
    ⟨(some 7), .load 6 true (.t 1), (some (6, true)), []⟩,
    ⟨(some 8), .call (.c (.fn F_ast_Depth [])) [(.t 7)], (some (6, true)), []⟩,
    ⟨(some 9), .bin .eql (.t 8) (.c (.d (.int .i64 (2)))), (some (6, true)), []⟩,
    ⟨(some 10), .pick (.t 6) (.t 9) (.c (.d (.bool false))), none, []⟩,
    ⟨(some 11), .mov (.t 10), none, []⟩,
    ⟨(some 12), .load 6 true (.t 1), (some (11, true)), []⟩,
    ⟨(some 13), .call (.c (.fn F_ast_Size [])) [(.t 12)], (some (11, true)), []⟩,
    ⟨(some 14), .bin .eql (.t 13) (.c (.d (.int .i64 (3)))), (some (11, true)), []⟩,
    ⟨(some 15), .pick (.t 11) (.t 14) (.c (.d (.bool false))), none, []⟩,
    ⟨(some 16), .mov (.t 15), none, []⟩,
    ⟨(some 17), .load 6 true (.t 1), (some (16, true)), []⟩,
    ⟨(some 18), .load 6 true (.t 1), (some (16, true)), []⟩,
    ⟨(some 19), .call (.c (.fn F_ast_Same [])) [(.t 17), (.t 18)], (some (16, true)), []⟩,
    ⟨(some 20), .pick (.t 16) (.t 19) (.c (.d (.bool false))), none, []⟩,
    ⟨(some 21), .mov (.t 20), none, []⟩,
    ⟨(some 22), .load 6 true (.t 1), (some (21, true)), []⟩,
    ⟨(some 23), .call (.c (.fn F_ast_Past [])) [(.t 22)], (some (21, true)), []⟩,
    ⟨(some 24), .un .not (.t 23), (some (21, true)), []⟩,
    ⟨(some 25), .pick (.t 21) (.t 24) (.c (.d (.bool false))), none, []⟩,
    ⟨(some 26), .mov (.t 25), none, []⟩,
    ⟨(some 27), .call (.c (.fn F_ast_Kids [])) [(.c (.d (.int .i64 (8))))], (some (26, true)), []⟩,
    ⟨(some 28), .bin .eql (.t 27) (.c (.d (.int .i64 (2)))), (some (26, true)), []⟩,
    ⟨(some 29), .pick (.t 26) (.t 28) (.c (.d (.bool false))), none, []⟩,
    ⟨(some 30), .mov (.t 29), none, []⟩,
    ⟨(some 31), .build [(.d (.int .i64 (0))), (.d (.str [])), (.d (.int .i64 (0))), (.d (.int .i64 (0))), (.d (.int .i64 (0))), (.d (.vs true []))] [], (some (30, true)), []⟩,
    ⟨(some 32), .call (.c (.fn F_ast_Check [])) [(.t 31)], (some (30, true)), []⟩,
    ⟨(some 33), .bin .eql (.t 32) (.c (.d (.int .i64 (12)))), (some (30, true)), []⟩,
    ⟨(some 34), .pick (.t 30) (.t 33) (.c (.d (.bool false))), none, []⟩,
    ⟨(some 0), .mov (.t 34), none, []⟩] false)
  (.mask ⟨[0], []⟩ (.ret))))⟩
/-- beadle/ast.Check -/
def code_ast_Check : AFunc := ⟨15, [.tmp 2],
  .seq (.region 0 [
    ⟨(some 1), .box 6 (.t 0), none, []⟩,
    ⟨(some 2), .mov (.c (.d (.int .i64 (0)))), none, []⟩] false)
  (.seq (.block 0 (.seq (.region 1 [
    ⟨(some 4), .load 6 true (.t 1), none, []⟩,
    ⟨(some 5), .call (.c (.fn F_ast_Depth [])) [(.t 4)], none, []⟩,
    ⟨(some 6), .bin .gtr (.t 5) (.c (.d (.int .i64 (12)))), none, []⟩,
    ⟨(some 3), .mov (.t 6), none, []⟩] false)
  (.cond (.t 3)
    (.seq (.region 2 [
      ⟨(some 2), .mov (.c (.d (.int .i64 (32)))), none, []⟩] false)
    (.mask ⟨[2], []⟩ (.ret)))
    (.seq (.region 3 [
      ⟨(some 8), .load 6 true (.t 1), none, []⟩,
      ⟨(some 9), .call (.c (.fn F_ast_Size [])) [(.t 8)], none, []⟩,
      ⟨(some 10), .bin .gtr (.t 9) (.c (.d (.int .i64 (64)))), none, []⟩,
      ⟨(some 7), .mov (.t 10), none, []⟩] false)
    (.cond (.t 7)
      (.seq (.region 4 [
        ⟨(some 2), .mov (.c (.d (.int .i64 (3)))), none, []⟩] false)
      (.mask ⟨[2], []⟩ (.ret)))
      (.seq (.region 5 [
        ⟨(some 12), .load 6 true (.t 1), none, []⟩,
        ⟨(some 13), .call (.c (.fn F_ast_may [])) [(.t 12)], none, []⟩,
        ⟨(some 14), .un .not (.t 13), none, []⟩,
        ⟨(some 11), .mov (.t 14), none, []⟩] false)
      (.cond (.t 11)
        (.seq (.region 6 [
          ⟨(some 2), .mov (.c (.d (.int .i64 (12)))), none, []⟩] false)
        (.mask ⟨[2], []⟩ (.ret)))
        (.skip))))))))
  (.mask ⟨[], []⟩ (.seq (.region 7 [
    ⟨(some 2), .mov (.c (.d (.int .i64 (0)))), none, []⟩] false)
  (.mask ⟨[2], []⟩ (.ret)))))⟩
def mask_ref07_Check_0 : Mask := ⟨[3, 4], []⟩
def body_ref07_Check_0 : ACode :=
  .seq (.seq (.region 7 [
    ⟨(some 14), .mov (.t 4), none, []⟩,
    ⟨(some 15), .mov (.t 3), none, []⟩,
    ⟨(some 16), .len .sl (.t 15), none, []⟩,
    ⟨(some 17), .bin .lss (.t 14) (.t 16), none, []⟩] false)
  (.cond (.t 17)
    (.skip)
    (.mask ⟨[], []⟩ (.exit 0))))
  (.mask ⟨[3, 4], []⟩ (.seq (.block 1 (.seq (.region 9 [
    ⟨(some 20), .mov (.t 3), none, []⟩,
    ⟨(some 21), .mov (.t 4), none, []⟩,
    ⟨(some 22), .iaddr 6 (.t 20) (.t 21), none, []⟩,
    ⟨(some 23), .faddr 0 (.t 22), none, []⟩,
    ⟨(some 24), .load 1 false (.t 23), none, []⟩,
    ⟨(some 25), .call (.c (.fn F_ref07_Kids [])) [(.t 24)], none, []⟩,
    ⟨(some 5), .mov (.t 25), none, []⟩] false)
  (.seq (.region 10 [
    ⟨(some 26), .mov (.t 5), none, []⟩,
    ⟨(some 27), .bin .eql (.t 26) (.c (.d (.int .i64 (-2)))), none, []⟩,
    ⟨(some 28), .mov (.t 27), none, []⟩,
    ⟨(some 29), .mov (.t 5), (some (28, false)), []⟩,
    ⟨(some 30), .bin .geq (.t 29) (.c (.d (.int .i64 (0)))), (some (28, false)), []⟩,
    ⟨(some 31), .mov (.t 30), (some (28, false)), []⟩,
    ⟨(some 32), .mov (.t 3), (some (31, true)), []⟩,
    ⟨(some 33), .mov (.t 4), (some (31, true)), []⟩,
    ⟨(some 34), .iaddr 6 (.t 32) (.t 33), (some (31, true)), []⟩,
    ⟨(some 35), .faddr 5 (.t 34), (some (31, true)), []⟩,
    ⟨(some 36), .load 1 false (.t 35), (some (31, true)), []⟩,
    ⟨(some 37), .len .sl (.t 36), (some (31, true)), []⟩,
    ⟨(some 38), .mov (.t 5), (some (31, true)), []⟩,
    ⟨(some 39), .bin .neq (.t 37) (.t 38), (some (31, true)), []⟩,
    ⟨(some 40), .pick (.t 31) (.t 39) (.c (.d (.bool false))), (some (28, false)), []⟩,
    ⟨(some 41), .pick (.t 28) (.c (.d (.bool true))) (.t 40), none, []⟩,
    ⟨(some 42), .mov (.t 41), none, []⟩,
    ⟨(some 43), .mov (.t 5), (some (42, false)), []⟩,
    ⟨(some 44), .bin .eql (.t 43) (.c (.d (.int .i64 (-1)))), (some (42, false)), []⟩,
    ⟨(some 45), .mov (.t 44), (some (42, false)), []⟩,
    ⟨(some 46), .mov (.t 3), (some (45, true)), []⟩,
    ⟨(some 47), .mov (.t 4), (some (45, true)), []⟩,
    ⟨(some 48), .iaddr 6 (.t 46) (.t 47), (some (45, true)), []⟩,
    ⟨(some 49), .load 6 true (.t 48), (some (45, true)), []⟩,
    ⟨(some 50), .call (.c (.fn F_ref07_set [])) [(.t 49)], (some (45, true)), []⟩,
    ⟨(some 51), .un .not (.t 50), (some (45, true)), []⟩,
    ⟨(some 52), .pick (.t 45) (.t 51) (.c (.d (.bool false))), (some (42, false)), []⟩,
    ⟨(some 53), .pick (.t 42) (.c (.d (.bool true))) (.t 52), none, []⟩,
    ⟨(some 54), .mov (.t 53), none, []⟩,
    ⟨(some 55), .mov (.t 3), (some (54, false)), []⟩,
    ⟨(some 56), .mov (.t 4), (some (54, false)), []⟩,
    ⟨(some 57), .iaddr 6 (.t 55) (.t 56), (some (54, false)), []⟩,
    ⟨(some 58), .load 6 true (.t 57), (some (54, false)), []⟩,
    ⟨(some 59), .call (.c (.fn F_ref07_fits [])) [(.t 58)], (some (54, false)), []⟩,
    ⟨(some 60), .un .not (.t 59), (some (54, false)), []⟩,
    ⟨(some 61), .pick (.t 54) (.c (.d (.bool true))) (.t 60), none, []⟩] false)
  (.mask ⟨[3, 4, 61], []⟩ (.cond (.t 61)
    (.seq (.region 11 [
      ⟨(some 2), .mov (.c (.d (.int .i64 (12)))), none, []⟩] false)
    (.mask ⟨[2], []⟩ (.ret)))
    (.skip))))))
  (.mask ⟨[3, 4], []⟩ (.region 8 [
    ⟨(some 18), .mov (.t 4), none, []⟩,
    ⟨(some 19), .bin .add (.t 18) (.c (.d (.int .i64 (1)))), none, []⟩,
    ⟨(some 4), .mov (.t 19), none, []⟩] false))))
/-- beadle/beadleref07.Check -/
def code_ref07_Check : AFunc := ⟨62, [.tmp 2],
  .seq (.region 0 [
    ⟨(some 1), .box 6 (.t 0), none, []⟩,
    ⟨(some 2), .mov (.c (.d (.int .i64 (0)))), none, []⟩] false)
  (.seq (.seq (.region 1 [
    ⟨(some 6), .load 6 true (.t 1), none, []⟩,
    ⟨(some 7), .call (.c (.fn F_ref07_Depth [])) [(.t 6)], none, []⟩,
    ⟨(some 8), .bin .gtr (.t 7) (.c (.d (.int .i64 (12)))), none, []⟩] false)
  (.cond (.t 8)
    (.seq (.region 2 [
      ⟨(some 2), .mov (.c (.d (.int .i64 (32)))), none, []⟩] false)
    (.mask ⟨[2], []⟩ (.ret)))
    (.skip)))
  (.mask ⟨[1], []⟩ (.seq (.region 3 [
    ⟨(some 9), .load 6 true (.t 1), none, []⟩,
    ⟨(some 10), .call (.c (.fn F_ref07_All [])) [(.t 9)], none, []⟩,
    ⟨(some 3), .mov (.t 10), none, []⟩] false)
  (.seq (.seq (.region 4 [
    ⟨(some 11), .mov (.t 3), none, []⟩,
    ⟨(some 12), .len .sl (.t 11), none, []⟩,
    ⟨(some 13), .bin .gtr (.t 12) (.c (.d (.int .i64 (64)))), none, []⟩] false)
  (.cond (.t 13)
    (.seq (.region 5 [
      ⟨(some 2), .mov (.c (.d (.int .i64 (3)))), none, []⟩] false)
    (.mask ⟨[2], []⟩ (.ret)))
    (.skip)))
  (.mask ⟨[3], []⟩ (.seq (.seq (.region 6 [
    ⟨(some 4), .mov (.c (.d (.int .i64 (0)))), none, []⟩] false)
  (.block 0 (.loop mask_ref07_Check_0 body_ref07_Check_0)))
  (.mask ⟨[], []⟩ (.seq (.region 12 [
    ⟨(some 2), .mov (.c (.d (.int .i64 (0)))), none, []⟩] false)
  (.mask ⟨[2], []⟩ (.ret))))))))))⟩
/-- beadle/ast.Kids -/
def code_ast_Kids : AFunc := ⟨33, [.tmp 2],
  .seq (.region 0 [
    ⟨(some 2), .mov (.c (.d (.int .i64 (0)))), none, []⟩] false)
  (.seq (.seq (.region 1 [
    ⟨(some 3), .mov (.t 0), none, []⟩] false)
  (.block 0 (.seq (.seq (.region 2 [
    ⟨(some 5), .bin .eql (.t 3) (.c (.d (.int .i64 (1)))), none, []⟩,
    ⟨(some 4), .mov (.t 5), none, []⟩] false)
  (.cond (.t 4)
    (.skip)
    (.seq (.region 3 [
      ⟨(some 6), .bin .eql (.t 3) (.c (.d (.int .i64 (2)))), none, []⟩,
      ⟨(some 4), .mov (.t 6), none, []⟩] false)
    (.cond (.t 4)
      (.skip)
      (.seq (.region 4 [
        ⟨(some 7), .bin .eql (.t 3) (.c (.d (.int .i64 (3)))), none, []⟩,
        ⟨(some 4), .mov (.t 7), none, []⟩] false)
      (.cond (.t 4)
        (.skip)
        (.seq (.region 5 [
          ⟨(some 8), .bin .eql (.t 3) (.c (.d (.int .i64 (5)))), none, []⟩,
          ⟨(some 4), .mov (.t 8), none, []⟩] false)
        (.cond (.t 4)
          (.skip)
          (.seq (.region 6 [
            ⟨(some 9), .bin .eql (.t 3) (.c (.d (.int .i64 (6)))), none, []⟩,
            ⟨(some 4), .mov (.t 9), none, []⟩] false)
          (.cond (.t 4)
            (.skip)
            (.seq (.region 7 [
              ⟨(some 10), .bin .eql (.t 3) (.c (.d (.int .i64 (7)))), none, []⟩,
              ⟨(some 4), .mov (.t 10), none, []⟩] false)
            (.cond (.t 4)
              (.skip)
              (.seq (.region 8 [
                ⟨(some 11), .bin .eql (.t 3) (.c (.d (.int .i64 (13)))), none, []⟩,
                ⟨(some 4), .mov (.t 11), none, []⟩] false)
              (.cond (.t 4)
                (.skip)
                (.region 9 [
                  ⟨(some 12), .bin .eql (.t 3) (.c (.d (.int .i64 (21)))), none, []⟩,
                  ⟨(some 4), .mov (.t 12), none, []⟩] false)))))))))))))))
  (.mask ⟨[3, 4], []⟩ (.cond (.t 4)
    (.seq (.region 10 [
      ⟨(some 2), .mov (.c (.d (.int .i64 (0)))), none, []⟩] false)
    (.mask ⟨[2], []⟩ (.ret)))
    (.seq (.seq (.region 11 [
      ⟨(some 14), .bin .eql (.t 3) (.c (.d (.int .i64 (11)))), none, []⟩,
      ⟨(some 13), .mov (.t 14), none, []⟩] false)
    (.cond (.t 13)
      (.skip)
      (.seq (.region 12 [
        ⟨(some 15), .bin .eql (.t 3) (.c (.d (.int .i64 (12)))), none, []⟩,
        ⟨(some 13), .mov (.t 15), none, []⟩] false)
      (.cond (.t 13)
        (.skip)
        (.seq (.region 13 [
          ⟨(some 16), .bin .eql (.t 3) (.c (.d (.int .i64 (18)))), none, []⟩,
          ⟨(some 13), .mov (.t 16), none, []⟩] false)
        (.cond (.t 13)
          (.skip)
          (.seq (.region 14 [
            ⟨(some 17), .bin .eql (.t 3) (.c (.d (.int .i64 (25)))), none, []⟩,
            ⟨(some 13), .mov (.t 17), none, []⟩] false)
          (.cond (.t 13)
            (.skip)
            (.seq (.region 15 [
              ⟨(some 18), .bin .eql (.t 3) (.c (.d (.int .i64 (22)))), none, []⟩,
              ⟨(some 13), .mov (.t 18), none, []⟩] false)
            (.cond (.t 13)
              (.skip)
              (.region 16 [
                ⟨(some 19), .bin .eql (.t 3) (.c (.d (.int .i64 (23)))), none, []⟩,
                ⟨(some 13), .mov (.t 19), none, []⟩] false)))))))))))
    (.mask ⟨[3, 13], []⟩ (.cond (.t 13)
      (.seq (.region 17 [
        ⟨(some 2), .mov (.c (.d (.int .i64 (1)))), none, []⟩] false)
      (.mask ⟨[2], []⟩ (.ret)))
      (.seq (.seq (.region 18 [
        ⟨(some 21), .bin .eql (.t 3) (.c (.d (.int .i64 (8)))), none, []⟩,
        ⟨(some 20), .mov (.t 21), none, []⟩] false)
      (.cond (.t 20)
        (.skip)
        (.seq (.region 19 [
          ⟨(some 22), .bin .eql (.t 3) (.c (.d (.int .i64 (9)))), none, []⟩,
          ⟨(some 20), .mov (.t 22), none, []⟩] false)
        (.cond (.t 20)
          (.skip)
          (.seq (.region 20 [
            ⟨(some 23), .bin .eql (.t 3) (.c (.d (.int .i64 (10)))), none, []⟩,
            ⟨(some 20), .mov (.t 23), none, []⟩] false)
          (.cond (.t 20)
            (.skip)
            (.seq (.region 21 [
              ⟨(some 24), .bin .eql (.t 3) (.c (.d (.int .i64 (14)))), none, []⟩,
              ⟨(some 20), .mov (.t 24), none, []⟩] false)
            (.cond (.t 20)
              (.skip)
              (.seq (.region 22 [
                ⟨(some 25), .bin .eql (.t 3) (.c (.d (.int .i64 (15)))), none, []⟩,
                ⟨(some 20), .mov (.t 25), none, []⟩] false)
              (.cond (.t 20)
                (.skip)
                (.seq (.region 23 [
                  ⟨(some 26), .bin .eql (.t 3) (.c (.d (.int .i64 (16)))), none, []⟩,
                  ⟨(some 20), .mov (.t 26), none, []⟩] false)
                (.cond (.t 20)
                  (.skip)
                  (.seq (.region 24 [
                    ⟨(some 27), .bin .eql (.t 3) (.c (.d (.int .i64 (17)))), none, []⟩,
                    ⟨(some 20), .mov (.t 27), none, []⟩] false)
                  (.cond (.t 20)
                    (.skip)
                    (.seq (.region 25 [
                      ⟨(some 28), .bin .eql (.t 3) (.c (.d (.int .i64 (19)))), none, []⟩,
                      ⟨(some 20), .mov (.t 28), none, []⟩] false)
                    (.cond (.t 20)
                      (.skip)
                      (.seq (.region 26 [
                        ⟨(some 29), .bin .eql (.t 3) (.c (.d (.int .i64 (20)))), none, []⟩,
                        ⟨(some 20), .mov (.t 29), none, []⟩] false)
                      (.cond (.t 20)
                        (.skip)
                        (.region 27 [
                          ⟨(some 30), .bin .eql (.t 3) (.c (.d (.int .i64 (24)))), none, []⟩,
                          ⟨(some 20), .mov (.t 30), none, []⟩] false)))))))))))))))))))
      (.mask ⟨[3, 20], []⟩ (.cond (.t 20)
        (.seq (.region 28 [
          ⟨(some 2), .mov (.c (.d (.int .i64 (2)))), none, []⟩] false)
        (.mask ⟨[2], []⟩ (.ret)))
        (.seq (.region 29 [
          ⟨(some 32), .bin .eql (.t 3) (.c (.d (.int .i64 (4)))), none, []⟩,
          ⟨(some 31), .mov (.t 32), none, []⟩] false)
        (.cond (.t 31)
          (.seq (.region 30 [
            ⟨(some 2), .mov (.c (.d (.int .i64 (-1)))), none, []⟩] false)
          (.mask ⟨[2], []⟩ (.ret)))
          (.skip))))))))))))))
  (.mask ⟨[], []⟩ (.seq (.region 31 [
    ⟨(some 2), .mov (.c (.d (.int .i64 (-2)))), none, []⟩] false)
  (.mask ⟨[2], []⟩ (.ret)))))⟩
/-- beadle/beadleref07.Kids -/
def code_ref07_Kids : AFunc := ⟨43, [.tmp 2],
  .seq (.region 0 [
    ⟨(some 2), .mov (.c (.d (.int .i64 (0)))), none, []⟩] false)
  (.seq (.seq (.region 1 [
    ⟨(some 3), .mov (.t 0), none, []⟩,
    ⟨(some 4), .bin .lss (.t 3) (.c (.d (.int .i64 (1)))), none, []⟩,
    ⟨(some 5), .mov (.t 4), none, []⟩,
    ⟨(some 6), .mov (.t 0), (some (5, false)), []⟩,
    ⟨(some 7), .bin .gtr (.t 6) (.c (.d (.int .i64 (25)))), (some (5, false)), []⟩,
    ⟨(some 8), .pick (.t 5) (.c (.d (.bool true))) (.t 7), none, []⟩] false)
  (.mask ⟨[0, 8], []⟩ (.cond (.t 8)
    (.seq (.region 2 [
      ⟨(some 2), .mov (.c (.d (.int .i64 (-2)))), none, []⟩] false)
    (.mask ⟨[2], []⟩ (.ret)))
    (.skip))))
  (.mask ⟨[0], []⟩ (.seq (.seq (.region 3 [
    ⟨(some 9), .mov (.t 0), none, []⟩,
    ⟨(some 10), .bin .eql (.t 9) (.c (.d (.int .i64 (4)))), none, []⟩] false)
  (.cond (.t 10)
    (.seq (.region 4 [
      ⟨(some 2), .mov (.c (.d (.int .i64 (-1)))), none, []⟩] false)
    (.mask ⟨[2], []⟩ (.ret)))
    (.skip)))
  (.mask ⟨[0], []⟩ (.seq (.seq (.region 5 [
    ⟨(some 11), .mov (.t 0), none, []⟩,
    ⟨(some 12), .bin .leq (.t 11) (.c (.d (.int .i64 (7)))), none, []⟩,
    ⟨(some 13), .mov (.t 12), none, []⟩,
    ⟨(some 14), .mov (.t 0), (some (13, false)), []⟩,
    ⟨(some 15), .bin .eql (.t 14) (.c (.d (.int .i64 (13)))), (some (13, false)), []⟩,
    ⟨(some 16), .pick (.t 13) (.c (.d (.bool true))) (.t 15), none, []⟩,
    ⟨(some 17), .mov (.t 16), none, []⟩,
    ⟨(some 18), .mov (.t 0), (some (17, false)), []⟩,
    ⟨(some 19), .bin .eql (.t 18) (.c (.d (.int .i64 (21)))), (some (17, false)), []⟩,
    ⟨(some 20), .pick (.t 17) (.c (.d (.bool true))) (.t 19), none, []⟩] false)
  (.mask ⟨[0, 20], []⟩ (.cond (.t 20)
    (.seq (.region 6 [
      ⟨(some 2), .mov (.c (.d (.int .i64 (0)))), none, []⟩] false)
    (.mask ⟨[2], []⟩ (.ret)))
    (.skip))))
  (.mask ⟨[0], []⟩ (.seq (.seq (.region 7 [
    ⟨(some 21), .mov (.t 0), none, []⟩,
    ⟨(some 22), .bin .eql (.t 21) (.c (.d (.int .i64 (11)))), none, []⟩,
    ⟨(some 23), .mov (.t 22), none, []⟩,
    ⟨(some 24), .mov (.t 0), (some (23, false)), []⟩,
    ⟨(some 25), .bin .eql (.t 24) (.c (.d (.int .i64 (12)))), (some (23, false)), []⟩,
    ⟨(some 26), .pick (.t 23) (.c (.d (.bool true))) (.t 25), none, []⟩,
    ⟨(some 27), .mov (.t 26), none, []⟩,
    ⟨(some 28), .mov (.t 0), (some (27, false)), []⟩,
    ⟨(some 29), .bin .eql (.t 28) (.c (.d (.int .i64 (18)))), (some (27, false)), []⟩,
    ⟨(some 30), .pick (.t 27) (.c (.d (.bool true))) (.t 29), none, []⟩,
    ⟨(some 31), .mov (.t 30), none, []⟩,
    ⟨(some 32), .mov (.t 0), (some (31, false)), []⟩,
    ⟨(some 33), .bin .eql (.t 32) (.c (.d (.int .i64 (25)))), (some (31, false)), []⟩,
    ⟨(some 34), .pick (.t 31) (.c (.d (.bool true))) (.t 33), none, []⟩,
    ⟨(some 35), .mov (.t 34), none, []⟩,
    ⟨(some 36), .mov (.t 0), (some (35, false)), []⟩,
    ⟨(some 37), .bin .eql (.t 36) (.c (.d (.int .i64 (22)))), (some (35, false)), []⟩,
    ⟨(some 38), .pick (.t 35) (.c (.d (.bool true))) (.t 37), none, []⟩,
    ⟨(some 39), .mov (.t 38), none, []⟩,
    ⟨(some 40), .mov (.t 0), (some (39, false)), []⟩,
    ⟨(some 41), .bin .eql (.t 40) (.c (.d (.int .i64 (23)))), (some (39, false)), []⟩,
    ⟨(some 42), .pick (.t 39) (.c (.d (.bool true))) (.t 41), none, []⟩] false)
  (.mask ⟨[42], []⟩ (.cond (.t 42)
    (.seq (.region 8 [
      ⟨(some 2), .mov (.c (.d (.int .i64 (1)))), none, []⟩] false)
    (.mask ⟨[2], []⟩ (.ret)))
    (.skip))))
  (.mask ⟨[], []⟩ (.seq (.region 9 [
    ⟨(some 2), .mov (.c (.d (.int .i64 (2)))), none, []⟩] false)
  (.mask ⟨[2], []⟩ (.ret)))))))))))⟩
def mask_ast_Depth_0 : Mask := ⟨[3, 7, 8, 9], []⟩
def body_ast_Depth_0 : ACode :=
  .seq (.region 3 [
    ⟨(some 10), .bin .lss (.t 9) (.t 8), none, []⟩] false)
  (.seq (.cond (.t 10)
    (.skip)
    (.mask ⟨[3], []⟩ (.exit 0)))
  (.mask ⟨[3, 7, 8, 9], []⟩ (.seq (.block 1 (.seq (.region 4 [
    ⟨(some 11), .iaddr 6 (.t 7) (.t 9), none, []⟩,
    ⟨(some 12), .load 6 true (.t 11), none, []⟩,
    ⟨(some 5), .box 6 (.c (.agg [(.d (.int .i64 (0))), (.d (.str [])), (.d (.int .i64 (0))), (.d (.int .i64 (0))), (.d (.int .i64 (0))), (.d (.vs true []))])), none, []⟩,
    ⟨none, .store 6 (.t 5) (.t 12), none, []⟩] false)
  (.region 5 [
    ⟨(some 13), .mov (.t 3), none, []⟩,
    ⟨(some 14), .load 6 true (.t 5), none, []⟩,
    ⟨(some 15), .call (.c (.fn F_ast_Depth [])) [(.t 14)], none, []⟩,
    ⟨(some 16), .best true [(.t 13), (.t 15)], none, []⟩,
    ⟨(some 3), .mov (.t 16), none, []⟩] false)))
  (.mask ⟨[3, 7, 8, 9], []⟩ (.region 6 [
    ⟨(some 17), .bin .add (.t 9) (.c (.d (.int .i64 (1)))), none, []⟩,
    ⟨(some 9), .mov (.t 17), none, []⟩] false)))))
/-- beadle/ast.Depth -/
def code_ast_Depth : AFunc := ⟨20, [.tmp 2],
  .seq (.region 0 [
    ⟨(some 1), .box 6 (.t 0), none, []⟩,
    ⟨(some 2), .mov (.c (.d (.int .i64 (0)))), none, []⟩] false)
  (.seq (.region 1 [
    ⟨(some 3), .mov (.c (.d (.int .i64 (0)))), none, []⟩] false)
  (.seq (.seq (.region 2 [
    ⟨(some 6), .load 6 true (.t 1), none, []⟩,
    ⟨(some 7), .call (.c (.fn F_ast_inner [])) [(.t 6)], none, []⟩,
    ⟨(some 8), .len .sl (.t 7), none, []⟩,
    ⟨(some 9), .mov (.c (.d (.int .i64 (0)))), none, []⟩] false)
  (.block 0 (.loop mask_ast_Depth_0 body_ast_Depth_0)))
  (.mask ⟨[3], []⟩ (.seq (.region 7 [
    ⟨(some 18), .mov (.t 3), none, []⟩,
    ⟨(some 19), .bin .add (.t 18) (.c (.d (.int .i64 (1)))), none, []⟩,
    ⟨(some 2), .mov (.t 19), none, []⟩] false)
  (.mask ⟨[2], []⟩ (.ret))))))⟩
def mask_ref07_Depth_0 : Mask := ⟨[1, 3, 4], []⟩
def body_ref07_Depth_0 : ACode :=
  .seq (.seq (.region 5 [
    ⟨(some 9), .mov (.t 4), none, []⟩,
    ⟨(some 10), .faddr 5 (.t 1), none, []⟩,
    ⟨(some 11), .load 1 false (.t 10), none, []⟩,
    ⟨(some 12), .len .sl (.t 11), none, []⟩,
    ⟨(some 13), .bin .lss (.t 9) (.t 12), none, []⟩] false)
  (.cond (.t 13)
    (.skip)
    (.mask ⟨[3], []⟩ (.exit 0))))
  (.mask ⟨[1, 3, 4], []⟩ (.seq (.block 1 (.seq (.region 7 [
    ⟨(some 16), .faddr 5 (.t 1), none, []⟩,
    ⟨(some 17), .load 1 false (.t 16), none, []⟩,
    ⟨(some 18), .mov (.t 4), none, []⟩,
    ⟨(some 19), .iaddr 6 (.t 17) (.t 18), none, []⟩,
    ⟨(some 20), .load 6 true (.t 19), none, []⟩,
    ⟨(some 21), .call (.c (.fn F_ref07_Depth [])) [(.t 20)], none, []⟩,
    ⟨(some 5), .mov (.t 21), none, []⟩] false)
  (.seq (.region 8 [
    ⟨(some 22), .mov (.t 5), none, []⟩,
    ⟨(some 23), .mov (.t 3), none, []⟩,
    ⟨(some 24), .bin .gtr (.t 22) (.t 23), none, []⟩] false)
  (.cond (.t 24)
    (.region 9 [
      ⟨(some 25), .mov (.t 5), none, []⟩,
      ⟨(some 3), .mov (.t 25), none, []⟩] false)
    (.skip)))))
  (.mask ⟨[1, 3, 4], []⟩ (.region 6 [
    ⟨(some 14), .mov (.t 4), none, []⟩,
    ⟨(some 15), .bin .add (.t 14) (.c (.d (.int .i64 (1)))), none, []⟩,
    ⟨(some 4), .mov (.t 15), none, []⟩] false))))
/-- beadle/beadleref07.Depth -/
def code_ref07_Depth : AFunc := ⟨28, [.tmp 2],
  .seq (.region 0 [
    ⟨(some 1), .box 6 (.t 0), none, []⟩,
    ⟨(some 2), .mov (.c (.d (.int .i64 (0)))), none, []⟩] false)
  (.seq (.seq (.region 1 [
    ⟨(some 6), .faddr 0 (.t 1), none, []⟩,
    ⟨(some 7), .load 1 false (.t 6), none, []⟩,
    ⟨(some 8), .bin .eql (.t 7) (.c (.d (.int .i64 (4)))), none, []⟩] false)
  (.cond (.t 8)
    (.seq (.region 2 [
      ⟨(some 2), .mov (.c (.d (.int .i64 (1)))), none, []⟩] false)
    (.mask ⟨[2], []⟩ (.ret)))
    (.skip)))
  (.mask ⟨[1], []⟩ (.seq (.region 3 [
    ⟨(some 3), .mov (.c (.d (.int .i64 (0)))), none, []⟩] false)
  (.seq (.seq (.region 4 [
    ⟨(some 4), .mov (.c (.d (.int .i64 (0)))), none, []⟩] false)
  (.block 0 (.loop mask_ref07_Depth_0 body_ref07_Depth_0)))
  (.mask ⟨[3], []⟩ (.seq (.region 10 [
    ⟨(some 26), .mov (.t 3), none, []⟩,
    ⟨(some 27), .bin .add (.t 26) (.c (.d (.int .i64 (1)))), none, []⟩,
    ⟨(some 2), .mov (.t 27), none, []⟩] false)
  (.mask ⟨[2], []⟩ (.ret))))))))⟩
def mask_ast_Size_0 : Mask := ⟨[3, 7, 8, 9], []⟩
def body_ast_Size_0 : ACode :=
  .seq (.region 3 [
    ⟨(some 10), .bin .lss (.t 9) (.t 8), none, []⟩] false)
  (.seq (.cond (.t 10)
    (.skip)
    (.mask ⟨[3], []⟩ (.exit 0)))
  (.mask ⟨[3, 7, 8, 9], []⟩ (.seq (.block 1 (.seq (.region 4 [
    ⟨(some 11), .iaddr 6 (.t 7) (.t 9), none, []⟩,
    ⟨(some 12), .load 6 true (.t 11), none, []⟩,
    ⟨(some 5), .box 6 (.c (.agg [(.d (.int .i64 (0))), (.d (.str [])), (.d (.int .i64 (0))), (.d (.int .i64 (0))), (.d (.int .i64 (0))), (.d (.vs true []))])), none, []⟩,
    ⟨none, .store 6 (.t 5) (.t 12), none, []⟩] false)
  (.region 5 [
    ⟨(some 13), .mov (.t 3), none, []⟩,
    ⟨(some 14), .load 6 true (.t 5), none, []⟩,
    ⟨(some 15), .call (.c (.fn F_ast_Size [])) [(.t 14)], none, []⟩,
    ⟨(some 16), .bin .add (.t 13) (.t 15), none, []⟩,
    ⟨(some 3), .mov (.t 16), none, []⟩] false)))
  (.mask ⟨[3, 7, 8, 9], []⟩ (.region 6 [
    ⟨(some 17), .bin .add (.t 9) (.c (.d (.int .i64 (1)))), none, []⟩,
    ⟨(some 9), .mov (.t 17), none, []⟩] false)))))
/-- beadle/ast.Size -/
def code_ast_Size : AFunc := ⟨19, [.tmp 2],
  .seq (.region 0 [
    ⟨(some 1), .box 6 (.t 0), none, []⟩,
    ⟨(some 2), .mov (.c (.d (.int .i64 (0)))), none, []⟩] false)
  (.seq (.region 1 [
    ⟨(some 3), .mov (.c (.d (.int .i64 (1)))), none, []⟩] false)
  (.seq (.seq (.region 2 [
    ⟨(some 6), .load 6 true (.t 1), none, []⟩,
    ⟨(some 7), .call (.c (.fn F_ast_inner [])) [(.t 6)], none, []⟩,
    ⟨(some 8), .len .sl (.t 7), none, []⟩,
    ⟨(some 9), .mov (.c (.d (.int .i64 (0)))), none, []⟩] false)
  (.block 0 (.loop mask_ast_Size_0 body_ast_Size_0)))
  (.mask ⟨[3], []⟩ (.seq (.region 7 [
    ⟨(some 18), .mov (.t 3), none, []⟩,
    ⟨(some 2), .mov (.t 18), none, []⟩] false)
  (.mask ⟨[2], []⟩ (.ret))))))⟩
def mask_ref07_All_0 : Mask := ⟨[1, 3, 4], [.slot 3 10000030 6]⟩
def body_ref07_All_0 : ACode :=
  .seq (.seq (.region 5 [
    ⟨(some 11), .mov (.t 4), none, []⟩,
    ⟨(some 12), .faddr 5 (.t 1), none, []⟩,
    ⟨(some 13), .load 1 false (.t 12), none, []⟩,
    ⟨(some 14), .len .sl (.t 13), none, []⟩,
    ⟨(some 15), .bin .lss (.t 11) (.t 14), none, []⟩] false)
  (.cond (.t 15)
    (.skip)
    (.mask ⟨[3], [.slot 3 10000030 6]⟩ (.exit 0))))
  (.mask ⟨[1, 3, 4], [.slot 3 10000030 6]⟩ (.seq (.block 1 (.region 7 [
    ⟨(some 18), .mov (.t 3), none, []⟩,
    ⟨(some 19), .faddr 5 (.t 1), none, []⟩,
    ⟨(some 20), .load 1 false (.t 19), none, []⟩,
    ⟨(some 21), .mov (.t 4), none, []⟩,
    ⟨(some 22), .iaddr 6 (.t 20) (.t 21), none, []⟩,
    ⟨(some 23), .load 6 true (.t 22), none, []⟩,
    ⟨(some 24), .call (.c (.fn F_ref07_All [])) [(.t 23)], none, []⟩,
    ⟨(some 25), .append 6 (.t 18) (.t 24), none, []⟩,
    ⟨(some 3), .mov (.t 25), none, []⟩] false))
  (.mask ⟨[1, 3, 4], [.slot 3 10000030 6]⟩ (.region 6 [
    ⟨(some 16), .mov (.t 4), none, []⟩,
    ⟨(some 17), .bin .add (.t 16) (.c (.d (.int .i64 (1)))), none, []⟩,
    ⟨(some 4), .mov (.t 17), none, []⟩] false))))
/-- beadle/beadleref07.All -/
def code_ref07_All : AFunc := ⟨27, [.tmp 2],
  .seq (.region 0 [
    ⟨(some 1), .box 6 (.t 0), none, []⟩,
    ⟨(some 2), .mov (.c (.d (.vs true []))), none, []⟩] false)
  (.seq (.region 1 [
    ⟨(some 5), .load 6 true (.t 1), none, []⟩,
    ⟨(some 6), .buildSl 6 [(.int .i64 (0)), (.str []), (.int .i64 (0)), (.int .i64 (0)), (.int .i64 (0)), (.vs false [])] 1 [(0, (.t 5))], none, []⟩,
    ⟨(some 3), .mov (.t 6), none, []⟩] false)
  (.seq (.seq (.region 2 [
    ⟨(some 7), .faddr 0 (.t 1), none, []⟩,
    ⟨(some 8), .load 1 false (.t 7), none, []⟩,
    ⟨(some 9), .bin .eql (.t 8) (.c (.d (.int .i64 (4)))), none, []⟩] false)
  (.cond (.t 9)
    (.seq (.region 3 [
      ⟨(some 10), .mov (.t 3), none, []⟩,
      ⟨(some 2), .mov (.t 10), none, []⟩] false)
    (.mask ⟨[2], [.slot 2 10000020 6]⟩ (.ret)))
    (.skip)))
  (.mask ⟨[1, 3], [.slot 3 10000030 6]⟩ (.seq (.seq (.region 4 [
    ⟨(some 4), .mov (.c (.d (.int .i64 (0)))), none, []⟩] false)
  (.block 0 (.loop mask_ref07_All_0 body_ref07_All_0)))
  (.mask ⟨[3], [.slot 3 10000030 6]⟩ (.seq (.region 8 [
    ⟨(some 26), .mov (.t 3), none, []⟩,
    ⟨(some 2), .mov (.t 26), none, []⟩] false)
  (.mask ⟨[2], [.slot 2 10000020 6]⟩ (.ret))))))))⟩
/-- beadle/ast.Past -/
def code_ast_Past : AFunc := ⟨14, [.tmp 2],
  .seq (.region 0 [
    ⟨(some 1), .box 6 (.t 0), none, []⟩,
    ⟨(some 2), .mov (.c (.d (.bool false))), none, []⟩] false)
  (.seq (.seq (.region 1 [
    ⟨(some 3), .faddr 0 (.t 1), none, []⟩,
    ⟨(some 4), .load 1 false (.t 3), none, []⟩] false)
  (.block 0 (.seq (.seq (.region 2 [
    ⟨(some 6), .bin .eql (.t 4) (.c (.d (.int .i64 (22)))), none, []⟩,
    ⟨(some 5), .mov (.t 6), none, []⟩] false)
  (.cond (.t 5)
    (.skip)
    (.seq (.region 3 [
      ⟨(some 7), .bin .eql (.t 4) (.c (.d (.int .i64 (23)))), none, []⟩,
      ⟨(some 5), .mov (.t 7), none, []⟩] false)
    (.cond (.t 5)
      (.skip)
      (.seq (.region 4 [
        ⟨(some 8), .bin .eql (.t 4) (.c (.d (.int .i64 (24)))), none, []⟩,
        ⟨(some 5), .mov (.t 8), none, []⟩] false)
      (.cond (.t 5)
        (.skip)
        (.seq (.region 5 [
          ⟨(some 9), .bin .eql (.t 4) (.c (.d (.int .i64 (25)))), none, []⟩,
          ⟨(some 5), .mov (.t 9), none, []⟩] false)
        (.cond (.t 5)
          (.skip)
          (.region 6 [
            ⟨(some 10), .bin .eql (.t 4) (.c (.d (.int .i64 (13)))), none, []⟩,
            ⟨(some 5), .mov (.t 10), none, []⟩] false)))))))))
  (.mask ⟨[1, 5], []⟩ (.cond (.t 5)
    (.seq (.region 7 [
      ⟨(some 2), .mov (.c (.d (.bool true))), none, []⟩] false)
    (.mask ⟨[2], []⟩ (.ret)))
    (.skip))))))
  (.mask ⟨[1], []⟩ (.seq (.region 8 [
    ⟨(some 11), .load 6 true (.t 1), none, []⟩,
    ⟨(some 12), .call (.c (.fn F_ast_inner [])) [(.t 11)], none, []⟩,
    ⟨(some 13), .call (.c (.fn F_slices_ContainsFunc_api_Expr_api_Expr [])) [(.t 12), (.c (.fn F_ast_Past []))], none, []⟩,
    ⟨(some 2), .mov (.t 13), none, []⟩] false)
  (.mask ⟨[2], []⟩ (.ret)))))⟩
def mask_ref07_Past_0 : Mask := ⟨[3, 4], []⟩
def body_ref07_Past_0 : ACode :=
  .seq (.seq (.region 3 [
    ⟨(some 7), .mov (.t 4), none, []⟩,
    ⟨(some 8), .mov (.t 3), none, []⟩,
    ⟨(some 9), .len .sl (.t 8), none, []⟩,
    ⟨(some 10), .bin .lss (.t 7) (.t 9), none, []⟩] false)
  (.cond (.t 10)
    (.skip)
    (.mask ⟨[], []⟩ (.exit 0))))
  (.mask ⟨[3, 4], []⟩ (.seq (.block 1 (.seq (.region 5 [
    ⟨(some 13), .mov (.t 3), none, []⟩,
    ⟨(some 14), .mov (.t 4), none, []⟩,
    ⟨(some 15), .iaddr 6 (.t 13) (.t 14), none, []⟩,
    ⟨(some 16), .faddr 0 (.t 15), none, []⟩,
    ⟨(some 17), .load 1 false (.t 16), none, []⟩,
    ⟨(some 18), .call (.c (.fn F_ref07_Looks [])) [(.t 17)], none, []⟩] false)
  (.cond (.t 18)
    (.seq (.region 6 [
      ⟨(some 2), .mov (.c (.d (.bool true))), none, []⟩] false)
    (.mask ⟨[2], []⟩ (.ret)))
    (.skip))))
  (.mask ⟨[3, 4], []⟩ (.region 4 [
    ⟨(some 11), .mov (.t 4), none, []⟩,
    ⟨(some 12), .bin .add (.t 11) (.c (.d (.int .i64 (1)))), none, []⟩,
    ⟨(some 4), .mov (.t 12), none, []⟩] false))))
/-- beadle/beadleref07.Past -/
def code_ref07_Past : AFunc := ⟨19, [.tmp 2],
  .seq (.region 0 [
    ⟨(some 1), .box 6 (.t 0), none, []⟩,
    ⟨(some 2), .mov (.c (.d (.bool false))), none, []⟩] false)
  (.seq (.region 1 [
    ⟨(some 5), .load 6 true (.t 1), none, []⟩,
    ⟨(some 6), .call (.c (.fn F_ref07_All [])) [(.t 5)], none, []⟩,
    ⟨(some 3), .mov (.t 6), none, []⟩] false)
  (.seq (.seq (.region 2 [
    ⟨(some 4), .mov (.c (.d (.int .i64 (0)))), none, []⟩] false)
  (.block 0 (.loop mask_ref07_Past_0 body_ref07_Past_0)))
  (.mask ⟨[], []⟩ (.seq (.region 7 [
    ⟨(some 2), .mov (.c (.d (.bool false))), none, []⟩] false)
  (.mask ⟨[2], []⟩ (.ret))))))⟩
def mask_plain_Copy_0 : Mask := ⟨[1, 2, 3, 4], [.oslot 3 10000030 6, .clrows 3]⟩
def body_plain_Copy_0 : ACode :=
  .seq (.seq (.region 3 [
    ⟨(some 5), .mov (.t 4), none, []⟩,
    ⟨(some 6), .faddr 5 (.t 1), none, []⟩,
    ⟨(some 7), .load 1 false (.t 6), none, []⟩,
    ⟨(some 8), .len .sl (.t 7), none, []⟩,
    ⟨(some 9), .bin .lss (.t 5) (.t 8), none, []⟩] false)
  (.mask ⟨[1, 2, 3, 4, 9], [.oslot 3 10000030 6, .clrows 3]⟩ (.cond (.t 9)
    (.skip)
    (.mask ⟨[1, 2, 3], [.oslot 3 10000030 6, .clrows 3]⟩ (.exit 0)))))
  (.mask ⟨[1, 2, 3, 4], [.oslot 3 10000030 6, .clrows 3]⟩ (.seq (.block 1 (.region 5 [
    ⟨(some 12), .mov (.t 3), none, []⟩,
    ⟨(some 13), .faddr 5 (.t 1), none, []⟩,
    ⟨(some 14), .load 1 false (.t 13), none, []⟩,
    ⟨(some 15), .mov (.t 4), none, []⟩,
    ⟨(some 16), .iaddr 6 (.t 14) (.t 15), none, []⟩,
    ⟨(some 17), .load 6 true (.t 16), none, []⟩,
    ⟨(some 18), .call (.c (.fn F_plain_Copy [])) [(.t 17)], none, []⟩,
    ⟨(some 19), .buildSl 6 [(.int .i64 (0)), (.str []), (.int .i64 (0)), (.int .i64 (0)), (.int .i64 (0)), (.vs false [])] 1 [(0, (.t 18))], none, []⟩,
    ⟨(some 20), .append 6 (.t 12) (.t 19), none, []⟩,
    ⟨(some 3), .mov (.t 20), none, []⟩] false))
  (.mask ⟨[1, 2, 3, 4], [.oslot 3 10000030 6, .clrows 3]⟩ (.region 4 [
    ⟨(some 10), .mov (.t 4), none, []⟩,
    ⟨(some 11), .bin .add (.t 10) (.c (.d (.int .i64 (1)))), none, []⟩,
    ⟨(some 4), .mov (.t 11), none, []⟩] false))))
/-- beadle/beadleplain.Copy -/
def code_plain_Copy : AFunc := ⟨24, [.cell 2 6 true],
  .seq (.region 0 [
    ⟨(some 1), .box 6 (.t 0), none, []⟩,
    ⟨(some 2), .box 6 (.c (.agg [(.d (.int .i64 (0))), (.d (.str [])), (.d (.int .i64 (0))), (.d (.int .i64 (0))), (.d (.int .i64 (0))), (.d (.vs true []))])), none, []⟩] false)
  (.mask ⟨[1, 2], []⟩ (.seq (.region 1 [
    ⟨(some 3), .mov (.c (.d (.vs true []))), none, []⟩] false)
  (.mask ⟨[1, 2, 3], [.oslot 3 10000030 6, .clrows 3]⟩ (.seq (.seq (.region 2 [
    ⟨(some 4), .mov (.c (.d (.int .i64 (0)))), none, []⟩] false)
  (.mask ⟨[1, 2, 3, 4], [.oslot 3 10000030 6, .clrows 3]⟩ (.block 0 (.loop mask_plain_Copy_0 body_plain_Copy_0))))
  (.mask ⟨[1, 2, 3], [.oslot 3 10000030 6, .clrows 3]⟩ (.seq (.region 6 [
    ⟨(some 21), .mov (.t 3), none, []⟩,
    ⟨(some 22), .faddr 5 (.t 1), none, []⟩,
    ⟨none, .store 1 (.t 22) (.t 21), none, []⟩] false)
  (.mask ⟨[1, 2], []⟩ (.seq (.region 7 [
    ⟨(some 23), .load 6 true (.t 1), none, []⟩,
    ⟨none, .store 6 (.t 2) (.t 23), none, []⟩] false)
  (.mask ⟨[2], []⟩ (.ret))))))))))⟩
def mask_ast_Clone_0 : Mask := ⟨[1, 2, 3, 7, 8, 9], [.oslot 3 10000030 6, .clrows 3]⟩
def body_ast_Clone_0 : ACode :=
  .seq (.region 3 [
    ⟨(some 10), .bin .lss (.t 9) (.t 8), none, []⟩] false)
  (.mask ⟨[1, 2, 3, 7, 8, 9, 10], [.oslot 3 10000030 6, .clrows 3]⟩ (.seq (.cond (.t 10)
    (.skip)
    (.mask ⟨[1, 2, 3], [.oslot 3 10000030 6, .clrows 3]⟩ (.exit 0)))
  (.mask ⟨[1, 2, 3, 7, 8, 9], [.oslot 3 10000030 6, .clrows 3]⟩ (.seq (.block 1 (.seq (.region 4 [
    ⟨(some 11), .iaddr 6 (.t 7) (.t 9), none, []⟩,
    ⟨(some 12), .load 6 true (.t 11), none, []⟩,
    ⟨(some 5), .box 6 (.c (.agg [(.d (.int .i64 (0))), (.d (.str [])), (.d (.int .i64 (0))), (.d (.int .i64 (0))), (.d (.int .i64 (0))), (.d (.vs true []))])), none, []⟩,
    ⟨none, .store 6 (.t 5) (.t 12), none, []⟩] false)
  (.mask ⟨[1, 2, 3, 5, 7, 8, 9], [.oslot 3 10000030 6, .clrows 3]⟩ (.region 5 [
    ⟨(some 13), .mov (.t 3), none, []⟩,
    ⟨(some 14), .load 6 true (.t 5), none, []⟩,
    ⟨(some 15), .call (.c (.fn F_ast_Clone [])) [(.t 14)], none, []⟩,
    ⟨(some 16), .buildSl 6 [(.int .i64 (0)), (.str []), (.int .i64 (0)), (.int .i64 (0)), (.int .i64 (0)), (.vs false [])] 1 [(0, (.t 15))], none, []⟩,
    ⟨(some 17), .append 6 (.t 13) (.t 16), none, []⟩,
    ⟨(some 3), .mov (.t 17), none, []⟩] false))))
  (.mask ⟨[1, 2, 3, 7, 8, 9], [.oslot 3 10000030 6, .clrows 3]⟩ (.region 6 [
    ⟨(some 18), .bin .add (.t 9) (.c (.d (.int .i64 (1)))), none, []⟩,
    ⟨(some 9), .mov (.t 18), none, []⟩] false))))))
/-- beadle/ast.Clone -/
def code_ast_Clone : AFunc := ⟨22, [.cell 2 6 true],
  .seq (.region 0 [
    ⟨(some 1), .box 6 (.t 0), none, []⟩,
    ⟨(some 2), .box 6 (.c (.agg [(.d (.int .i64 (0))), (.d (.str [])), (.d (.int .i64 (0))), (.d (.int .i64 (0))), (.d (.int .i64 (0))), (.d (.vs true []))])), none, []⟩] false)
  (.mask ⟨[1, 2], []⟩ (.seq (.region 1 [
    ⟨(some 3), .mov (.c (.d (.vs true []))), none, []⟩] false)
  (.mask ⟨[1, 2, 3], [.oslot 3 10000030 6, .clrows 3]⟩ (.seq (.seq (.region 2 [
    ⟨(some 6), .faddr 5 (.t 1), none, []⟩,
    ⟨(some 7), .load 1 false (.t 6), none, []⟩,
    ⟨(some 8), .len .sl (.t 7), none, []⟩,
    ⟨(some 9), .mov (.c (.d (.int .i64 (0)))), none, []⟩] false)
  (.mask ⟨[1, 2, 3, 7, 8, 9], [.oslot 3 10000030 6, .clrows 3]⟩ (.block 0 (.loop mask_ast_Clone_0 body_ast_Clone_0))))
  (.mask ⟨[1, 2, 3], [.oslot 3 10000030 6, .clrows 3]⟩ (.seq (.region 7 [
    ⟨(some 19), .mov (.t 3), none, []⟩,
    ⟨(some 20), .faddr 5 (.t 1), none, []⟩,
    ⟨none, .store 1 (.t 20) (.t 19), none, []⟩] false)
  (.mask ⟨[1, 2], []⟩ (.seq (.region 8 [
    ⟨(some 21), .load 6 true (.t 1), none, []⟩,
    ⟨none, .store 6 (.t 2) (.t 21), none, []⟩] false)
  (.mask ⟨[2], []⟩ (.ret))))))))))⟩
/-- beadle/ast.Same -/
def code_ast_Same : AFunc := ⟨45, [.tmp 4],
  .seq (.region 0 [
    ⟨(some 2), .box 6 (.t 0), none, []⟩,
    ⟨(some 3), .box 6 (.t 1), none, []⟩,
    ⟨(some 4), .mov (.c (.d (.bool false))), none, []⟩] false)
  (.seq (.region 1 [
    ⟨(some 5), .faddr 0 (.t 2), none, []⟩,
    ⟨(some 6), .load 1 false (.t 5), none, []⟩,
    ⟨(some 7), .faddr 0 (.t 3), none, []⟩,
    ⟨(some 8), .load 1 false (.t 7), none, []⟩,
    ⟨(some 9), .bin .eql (.t 6) (.t 8), none, []⟩,
    ⟨(some 10), .mov (.t 9), none, []⟩,
    ⟨(some 11), .faddr 1 (.t 2), (some (10, true)), []⟩,
    ⟨(some 12), .load 1 false (.t 11), (some (10, true)), []⟩,
    ⟨(some 13), .faddr 1 (.t 3), (some (10, true)), []⟩,
    ⟨(some 14), .load 1 false (.t 13), (some (10, true)), []⟩,
    ⟨(some 15), .bin .eql (.t 12) (.t 14), (some (10, true)), []⟩,
    ⟨(some 16), .pick (.t 10) (.t 15) (.c (.d (.bool false))), none, []⟩,
    ⟨(some 17), .mov (.t 16), none, []⟩,
    ⟨(some 18), .faddr 2 (.t 2), (some (17, true)), []⟩,
    ⟨(some 19), .load 1 false (.t 18), (some (17, true)), []⟩,
    ⟨(some 20), .faddr 2 (.t 3), (some (17, true)), []⟩,
    ⟨(some 21), .load 1 false (.t 20), (some (17, true)), []⟩,
    ⟨(some 22), .bin .eql (.t 19) (.t 21), (some (17, true)), []⟩,
    ⟨(some 23), .pick (.t 17) (.t 22) (.c (.d (.bool false))), none, []⟩,
    ⟨(some 24), .mov (.t 23), none, []⟩,
    ⟨(some 25), .faddr 3 (.t 2), (some (24, true)), []⟩,
    ⟨(some 26), .load 1 false (.t 25), (some (24, true)), []⟩,
    ⟨(some 27), .faddr 3 (.t 3), (some (24, true)), []⟩,
    ⟨(some 28), .load 1 false (.t 27), (some (24, true)), []⟩,
    ⟨(some 29), .bin .eql (.t 26) (.t 28), (some (24, true)), []⟩,
    ⟨(some 30), .pick (.t 24) (.t 29) (.c (.d (.bool false))), none, []⟩,
    ⟨(some 31), .mov (.t 30), none, []⟩,
    ⟨(some 32), .faddr 4 (.t 2), (some (31, true)), []⟩,
    ⟨(some 33), .load 1 false (.t 32), (some (31, true)), []⟩,
    ⟨(some 34), .faddr 4 (.t 3), (some (31, true)), []⟩,
    ⟨(some 35), .load 1 false (.t 34), (some (31, true)), []⟩,
    ⟨(some 36), .bin .eql (.t 33) (.t 35), (some (31, true)), []⟩,
    ⟨(some 37), .pick (.t 31) (.t 36) (.c (.d (.bool false))), none, []⟩,
    ⟨(some 38), .mov (.t 37), none, []⟩,
    ⟨(some 39), .faddr 5 (.t 2), (some (38, true)), []⟩,
    ⟨(some 40), .load 1 false (.t 39), (some (38, true)), []⟩,
    ⟨(some 41), .faddr 5 (.t 3), (some (38, true)), []⟩,
    ⟨(some 42), .load 1 false (.t 41), (some (38, true)), []⟩,
    ⟨(some 43), .call (.c (.fn F_slices_EqualFunc_api_Expr_api_Expr_api_Expr_api_Expr [])) [(.t 40), (.t 42), (.c (.fn F_ast_Same []))], (some (38, true)), []⟩,
    ⟨(some 44), .pick (.t 38) (.t 43) (.c (.d (.bool false))), none, []⟩,
    ⟨(some 4), .mov (.t 44), none, []⟩] false)
  (.mask ⟨[4], []⟩ (.ret)))⟩
def mask_plain_Expr_0 : Mask := ⟨[2, 3, 5], []⟩
def body_plain_Expr_0 : ACode :=
  .seq (.seq (.region 4 [
    ⟨(some 48), .mov (.t 5), none, []⟩,
    ⟨(some 49), .faddr 5 (.t 2), none, []⟩,
    ⟨(some 50), .load 1 false (.t 49), none, []⟩,
    ⟨(some 51), .len .sl (.t 50), none, []⟩,
    ⟨(some 52), .bin .lss (.t 48) (.t 51), none, []⟩] false)
  (.cond (.t 52)
    (.skip)
    (.mask ⟨[], []⟩ (.exit 0))))
  (.mask ⟨[2, 3, 5], []⟩ (.seq (.block 1 (.seq (.region 6 [
    ⟨(some 55), .faddr 5 (.t 2), none, []⟩,
    ⟨(some 56), .load 1 false (.t 55), none, [0]⟩,
    ⟨(some 57), .mov (.t 5), none, []⟩,
    ⟨(some 58), .iaddr 6 (.t 56) (.t 57), none, [0, 1, 2]⟩,
    ⟨(some 59), .load 6 true (.t 58), none, [0, 1, 2, 3]⟩,
    ⟨(some 60), .faddr 5 (.t 3), none, []⟩,
    ⟨(some 61), .load 1 false (.t 60), none, [5]⟩,
    ⟨(some 62), .mov (.t 5), none, []⟩,
    ⟨(some 63), .iaddr 6 (.t 61) (.t 62), none, [5, 6, 7]⟩,
    ⟨(some 64), .load 6 true (.t 63), none, [5, 6, 7, 8]⟩,
    ⟨(some 65), .call (.c (.fn F_plain_Expr [])) [(.t 59), (.t 64)], none, [0, 1, 2, 3, 4, 5, 6, 7, 8, 9]⟩,
    ⟨(some 66), .un .not (.t 65), none, [0, 1, 2, 3, 4, 5, 6, 7, 8, 9, 10]⟩] true)
  (.cond (.t 66)
    (.seq (.region 7 [
      ⟨(some 4), .mov (.c (.d (.bool false))), none, []⟩] false)
    (.mask ⟨[4], []⟩ (.ret)))
    (.skip))))
  (.mask ⟨[2, 3, 5], []⟩ (.region 5 [
    ⟨(some 53), .mov (.t 5), none, []⟩,
    ⟨(some 54), .bin .add (.t 53) (.c (.d (.int .i64 (1)))), none, []⟩,
    ⟨(some 5), .mov (.t 54), none, []⟩] false))))
/-- beadle/beadleplain.Expr -/
def code_plain_Expr : AFunc := ⟨67, [.tmp 4],
  .seq (.region 0 [
    ⟨(some 2), .box 6 (.t 0), none, []⟩,
    ⟨(some 3), .box 6 (.t 1), none, []⟩,
    ⟨(some 4), .mov (.c (.d (.bool false))), none, []⟩] false)
  (.seq (.seq (.region 1 [
    ⟨(some 6), .faddr 0 (.t 2), none, []⟩,
    ⟨(some 7), .load 1 false (.t 6), none, []⟩,
    ⟨(some 8), .faddr 0 (.t 3), none, []⟩,
    ⟨(some 9), .load 1 false (.t 8), none, []⟩,
    ⟨(some 10), .bin .neq (.t 7) (.t 9), none, []⟩,
    ⟨(some 11), .mov (.t 10), none, []⟩,
    ⟨(some 12), .faddr 1 (.t 2), (some (11, false)), []⟩,
    ⟨(some 13), .load 1 false (.t 12), (some (11, false)), []⟩,
    ⟨(some 14), .faddr 1 (.t 3), (some (11, false)), []⟩,
    ⟨(some 15), .load 1 false (.t 14), (some (11, false)), []⟩,
    ⟨(some 16), .bin .neq (.t 13) (.t 15), (some (11, false)), []⟩,
    ⟨(some 17), .pick (.t 11) (.c (.d (.bool true))) (.t 16), none, []⟩,
    ⟨(some 18), .mov (.t 17), none, []⟩,
    ⟨(some 19), .faddr 2 (.t 2), (some (18, false)), []⟩,
    ⟨(some 20), .load 1 false (.t 19), (some (18, false)), []⟩,
    ⟨(some 21), .faddr 2 (.t 3), (some (18, false)), []⟩,
    ⟨(some 22), .load 1 false (.t 21), (some (18, false)), []⟩,
    ⟨(some 23), .bin .neq (.t 20) (.t 22), (some (18, false)), []⟩,
    ⟨(some 24), .pick (.t 18) (.c (.d (.bool true))) (.t 23), none, []⟩,
    ⟨(some 25), .mov (.t 24), none, []⟩,
    ⟨(some 26), .faddr 3 (.t 2), (some (25, false)), []⟩,
    ⟨(some 27), .load 1 false (.t 26), (some (25, false)), []⟩,
    ⟨(some 28), .faddr 3 (.t 3), (some (25, false)), []⟩,
    ⟨(some 29), .load 1 false (.t 28), (some (25, false)), []⟩,
    ⟨(some 30), .bin .neq (.t 27) (.t 29), (some (25, false)), []⟩,
    ⟨(some 31), .pick (.t 25) (.c (.d (.bool true))) (.t 30), none, []⟩,
    ⟨(some 32), .mov (.t 31), none, []⟩,
    ⟨(some 33), .faddr 4 (.t 2), (some (32, false)), []⟩,
    ⟨(some 34), .load 1 false (.t 33), (some (32, false)), []⟩,
    ⟨(some 35), .faddr 4 (.t 3), (some (32, false)), []⟩,
    ⟨(some 36), .load 1 false (.t 35), (some (32, false)), []⟩,
    ⟨(some 37), .bin .neq (.t 34) (.t 36), (some (32, false)), []⟩,
    ⟨(some 38), .pick (.t 32) (.c (.d (.bool true))) (.t 37), none, []⟩,
    ⟨(some 39), .mov (.t 38), none, []⟩,
    ⟨(some 40), .faddr 5 (.t 2), (some (39, false)), []⟩,
    ⟨(some 41), .load 1 false (.t 40), (some (39, false)), []⟩,
    ⟨(some 42), .len .sl (.t 41), (some (39, false)), []⟩,
    ⟨(some 43), .faddr 5 (.t 3), (some (39, false)), []⟩,
    ⟨(some 44), .load 1 false (.t 43), (some (39, false)), []⟩,
    ⟨(some 45), .len .sl (.t 44), (some (39, false)), []⟩,
    ⟨(some 46), .bin .neq (.t 42) (.t 45), (some (39, false)), []⟩,
    ⟨(some 47), .pick (.t 39) (.c (.d (.bool true))) (.t 46), none, []⟩] false)
  (.mask ⟨[2, 3, 47], []⟩ (.cond (.t 47)
    (.seq (.region 2 [
      ⟨(some 4), .mov (.c (.d (.bool false))), none, []⟩] false)
    (.mask ⟨[4], []⟩ (.ret)))
    (.skip))))
  (.mask ⟨[2, 3], []⟩ (.seq (.seq (.region 3 [
    ⟨(some 5), .mov (.c (.d (.int .i64 (0)))), none, []⟩] false)
  (.block 0 (.loop mask_plain_Expr_0 body_plain_Expr_0)))
  (.mask ⟨[], []⟩ (.seq (.region 8 [
    ⟨(some 4), .mov (.c (.d (.bool true))), none, []⟩] false)
  (.mask ⟨[4], []⟩ (.ret)))))))⟩
def mask_law07_spoil_0 : Mask := ⟨[0, 2], [.clrows 0]⟩
def body_law07_spoil_0 : ACode :=
  .seq (.seq (.region 1 [
    ⟨(some 3), .mov (.t 2), none, []⟩,
    ⟨(some 4), .mov (.t 0), none, []⟩,
    ⟨(some 5), .len .sl (.t 4), none, []⟩,
    ⟨(some 6), .bin .lss (.t 3) (.t 5), none, []⟩] false)
  (.mask ⟨[0, 2, 6], [.clrows 0]⟩ (.cond (.t 6)
    (.skip)
    (.mask ⟨[], []⟩ (.exit 0)))))
  (.mask ⟨[0, 2], [.clrows 0]⟩ (.seq (.block 1 (.seq (.region 3 [
    ⟨(some 9), .mov (.t 0), none, []⟩,
    ⟨(some 10), .mov (.t 2), none, []⟩,
    ⟨(some 11), .mov (.t 0), none, []⟩,
    ⟨(some 12), .mov (.t 2), none, []⟩,
    ⟨(some 13), .iaddr 6 (.t 11) (.t 12), none, []⟩,
    ⟨(some 14), .faddr 1 (.t 13), none, []⟩,
    ⟨(some 15), .load 1 false (.t 14), none, []⟩,
    ⟨(some 16), .bin .add (.t 15) (.c (.d (.str [45]))), none, []⟩,
    ⟨(some 17), .iaddr 6 (.t 9) (.t 10), none, []⟩,
    ⟨(some 18), .faddr 1 (.t 17), none, []⟩,
    ⟨none, .store 1 (.t 18) (.t 16), none, []⟩] false)
  (.mask ⟨[0, 2], [.clrows 0]⟩ (.region 4 [
    ⟨(some 19), .mov (.t 0), none, []⟩,
    ⟨(some 20), .mov (.t 2), none, []⟩,
    ⟨(some 21), .iaddr 6 (.t 19) (.t 20), none, []⟩,
    ⟨(some 22), .faddr 5 (.t 21), none, []⟩,
    ⟨(some 23), .load 1 false (.t 22), none, []⟩,
    ⟨(some 24), .call (.c (.fn F_law07_spoil [])) [(.t 23)], none, []⟩] false))))
  (.mask ⟨[0, 2], [.clrows 0]⟩ (.region 2 [
    ⟨(some 7), .mov (.t 2), none, []⟩,
    ⟨(some 8), .bin .add (.t 7) (.c (.d (.int .i64 (1)))), none, []⟩,
    ⟨(some 2), .mov (.t 8), none, []⟩] false))))
/-- beadle/beadlelaw07.spoil -/
def code_law07_spoil : AFunc := ⟨25, [],
  .seq (.region 0 [
    ⟨(some 2), .mov (.c (.d (.int .i64 (0)))), none, []⟩] false)
  (.mask ⟨[0, 2], [.clrows 0]⟩ (.block 0 (.loop mask_law07_spoil_0 body_law07_spoil_0)))⟩
/-- (*beadle/store.Store).Count -/
def code_store_Store_Count : AFunc := ⟨11, [.tmp 2],
  .seq (.region 0 [
    ⟨(some 2), .mov (.c (.d (.int .i64 (0)))), none, []⟩] false)
  (.seq (.seq (.region 1 [
    ⟨(some 3), .mov (.t 0), none, []⟩,
    ⟨(some 4), .call (.c (.fn F_store_Store_is [])) [(.t 3)], none, []⟩,
    ⟨(some 5), .un .not (.t 4), none, []⟩] false)
  (.cond (.t 5)
    (.seq (.region 2 [
      ⟨(some 2), .mov (.c (.d (.int .i64 (0)))), none, []⟩] false)
    (.mask ⟨[2], []⟩ (.ret)))
    (.skip)))
  (.mask ⟨[0], []⟩ (.seq (.region 3 [
    ⟨(some 6), .mov (.t 0), none, []⟩,
    ⟨(some 7), .nilchk (.t 6), none, []⟩,
    ⟨(some 8), .faddr 1 (.t 7), none, []⟩,
    ⟨(some 9), .load 1 false (.t 8), none, []⟩,
    ⟨(some 10), .len .mp (.t 9), none, []⟩,
    ⟨(some 2), .mov (.t 10), none, []⟩] false)
  (.mask ⟨[2], []⟩ (.ret)))))⟩
def mask_plain_In_0 : Mask := ⟨[0, 1, 5], []⟩
def body_plain_In_0 : ACode :=
  .seq (.seq (.region 2 [
    ⟨(some 6), .mov (.t 5), none, []⟩,
    ⟨(some 7), .mov (.t 0), none, []⟩,
    ⟨(some 8), .len .sl (.t 7), none, []⟩,
    ⟨(some 9), .bin .lss (.t 6) (.t 8), none, []⟩] false)
  (.cond (.t 9)
    (.skip)
    (.mask ⟨[], []⟩ (.exit 0))))
  (.mask ⟨[0, 1, 5], []⟩ (.seq (.block 1 (.seq (.region 4 [
    ⟨(some 12), .mov (.t 0), none, []⟩,
    ⟨(some 13), .mov (.t 5), none, []⟩,
    ⟨(some 14), .iaddr 1 (.t 12) (.t 13), none, []⟩,
    ⟨(some 15), .load 1 false (.t 14), none, []⟩,
    ⟨(some 16), .mov (.t 1), none, []⟩,
    ⟨(some 17), .bin .eql (.t 15) (.t 16), none, []⟩] false)
  (.cond (.t 17)
    (.seq (.region 5 [
      ⟨(some 4), .mov (.c (.d (.bool true))), none, []⟩] false)
    (.mask ⟨[4], []⟩ (.ret)))
    (.skip))))
  (.mask ⟨[0, 1, 5], []⟩ (.region 3 [
    ⟨(some 10), .mov (.t 5), none, []⟩,
    ⟨(some 11), .bin .add (.t 10) (.c (.d (.int .i64 (1)))), none, []⟩,
    ⟨(some 5), .mov (.t 11), none, []⟩] false))))
/-- beadle/beadleplain.In -/
def code_plain_In : AFunc := ⟨18, [.tmp 4],
  .seq (.region 0 [
    ⟨(some 4), .mov (.c (.d (.bool false))), none, []⟩] false)
  (.seq (.seq (.region 1 [
    ⟨(some 5), .mov (.c (.d (.int .i64 (0)))), none, []⟩] false)
  (.block 0 (.loop mask_plain_In_0 body_plain_In_0)))
  (.mask ⟨[], []⟩ (.seq (.region 6 [
    ⟨(some 4), .mov (.c (.d (.bool false))), none, []⟩] false)
  (.mask ⟨[4], []⟩ (.ret)))))⟩
/-- (*beadle/store.Store).Kind -/
def code_store_Store_Kind : AFunc := ⟨14, [.tmp 4],
  .seq (.region 0 [
    ⟨(some 4), .mov (.c (.d (.int .i64 (0)))), none, []⟩] false)
  (.seq (.seq (.region 1 [
    ⟨(some 5), .mov (.t 0), none, []⟩,
    ⟨(some 6), .call (.c (.fn F_store_Store_is [])) [(.t 5)], none, []⟩,
    ⟨(some 7), .un .not (.t 6), none, []⟩] false)
  (.cond (.t 7)
    (.seq (.region 2 [
      ⟨(some 4), .mov (.c (.d (.int .i64 (0)))), none, []⟩] false)
    (.mask ⟨[4], []⟩ (.ret)))
    (.skip)))
  (.mask ⟨[0, 1], []⟩ (.seq (.region 3 [
    ⟨(some 8), .mov (.t 0), none, []⟩,
    ⟨(some 9), .nilchk (.t 8), none, []⟩,
    ⟨(some 10), .faddr 0 (.t 9), none, []⟩,
    ⟨(some 11), .load 1 false (.t 10), none, []⟩,
    ⟨(some 12), .mov (.t 1), none, []⟩,
    ⟨(some 13), .lookup false [.str] (.d (.int .i64 (0))) (.t 11) (.t 12) false, none, []⟩,
    ⟨(some 4), .mov (.t 13), none, []⟩] false)
  (.mask ⟨[4], []⟩ (.ret)))))⟩
/-- (*beadle/store.Store).is -/
def code_store_Store_is : AFunc := ⟨12, [.tmp 2],
  .seq (.region 0 [
    ⟨(some 2), .mov (.c (.d (.bool false))), none, []⟩] false)
  (.seq (.region 1 [
    ⟨(some 3), .mov (.t 0), none, []⟩,
    ⟨(some 4), .isnil .p true (.t 3), none, []⟩,
    ⟨(some 5), .mov (.t 4), none, []⟩,
    ⟨(some 6), .mov (.t 0), (some (5, true)), []⟩,
    ⟨(some 7), .nilchk (.t 6), (some (5, true)), []⟩,
    ⟨(some 8), .faddr 0 (.t 7), (some (5, true)), []⟩,
    ⟨(some 9), .load 1 false (.t 8), (some (5, true)), []⟩,
    ⟨(some 10), .isnil .m true (.t 9), (some (5, true)), []⟩,
    ⟨(some 11), .pick (.t 5) (.t 10) (.c (.d (.bool false))), none, []⟩,
    ⟨(some 2), .mov (.t 11), none, []⟩] false)
  (.mask ⟨[2], []⟩ (.ret)))⟩
/-- beadle/value.Check -/
def code_value_Check : AFunc := ⟨29, [.tmp 2],
  .seq (.region 0 [
    ⟨(some 1), .box 4 (.t 0), none, []⟩,
    ⟨(some 2), .mov (.c (.d (.int .i64 (0)))), none, []⟩] false)
  (.seq (.block 0 (.seq (.region 1 [
    ⟨(some 4), .faddr 0 (.t 1), none, []⟩,
    ⟨(some 5), .load 1 false (.t 4), none, []⟩,
    ⟨(some 6), .bin .lss (.t 5) (.c (.d (.int .i64 (1)))), none, []⟩,
    ⟨(some 7), .mov (.t 6), none, []⟩,
    ⟨(some 8), .faddr 0 (.t 1), (some (7, false)), []⟩,
    ⟨(some 9), .load 1 false (.t 8), (some (7, false)), []⟩,
    ⟨(some 10), .bin .gtr (.t 9) (.c (.d (.int .i64 (4)))), (some (7, false)), []⟩,
    ⟨(some 11), .pick (.t 7) (.c (.d (.bool true))) (.t 10), none, []⟩,
    ⟨(some 3), .mov (.t 11), none, []⟩] false)
  (.mask ⟨[1, 3], []⟩ (.cond (.t 3)
    (.seq (.region 2 [
      ⟨(some 2), .mov (.c (.d (.int .i64 (12)))), none, []⟩] false)
    (.mask ⟨[2], []⟩ (.ret)))
    (.seq (.region 3 [
      ⟨(some 13), .faddr 2 (.t 1), none, []⟩,
      ⟨(some 14), .load 1 false (.t 13), none, []⟩,
      ⟨(some 15), .call (.c (.fn F_value_long [])) [(.t 14)], none, []⟩,
      ⟨(some 16), .mov (.t 15), none, []⟩,
      ⟨(some 17), .faddr 3 (.t 1), (some (16, false)), []⟩,
      ⟨(some 18), .load 1 false (.t 17), (some (16, false)), []⟩,
      ⟨(some 19), .call (.c (.fn F_slices_ContainsFunc_string_string [])) [(.t 18), (.c (.fn F_value_long []))], (some (16, false)), []⟩,
      ⟨(some 20), .pick (.t 16) (.c (.d (.bool true))) (.t 19), none, []⟩,
      ⟨(some 12), .mov (.t 20), none, []⟩] false)
    (.mask ⟨[1, 12], []⟩ (.cond (.t 12)
      (.seq (.region 4 [
        ⟨(some 2), .mov (.c (.d (.int .i64 (5)))), none, []⟩] false)
      (.mask ⟨[2], []⟩ (.ret)))
      (.seq (.region 5 [
        ⟨(some 22), .faddr 3 (.t 1), none, []⟩,
        ⟨(some 23), .load 1 false (.t 22), none, []⟩,
        ⟨(some 24), .len .sl (.t 23), none, []⟩,
        ⟨(some 25), .bin .gtr (.t 24) (.c (.d (.int .i64 (8)))), none, []⟩,
        ⟨(some 21), .mov (.t 25), none, []⟩] false)
      (.cond (.t 21)
        (.seq (.region 6 [
          ⟨(some 2), .mov (.c (.d (.int .i64 (3)))), none, []⟩] false)
        (.mask ⟨[2], []⟩ (.ret)))
        (.seq (.region 7 [
          ⟨(some 27), .load 4 true (.t 1), none, []⟩,
          ⟨(some 28), .call (.c (.fn F_value_odd [])) [(.t 27)], none, []⟩,
          ⟨(some 26), .mov (.t 28), none, []⟩] false)
        (.cond (.t 26)
          (.seq (.region 8 [
            ⟨(some 2), .mov (.c (.d (.int .i64 (4)))), none, []⟩] false)
          (.mask ⟨[2], []⟩ (.ret)))
          (.skip))))))))))))
  (.mask ⟨[], []⟩ (.seq (.region 9 [
    ⟨(some 2), .mov (.c (.d (.int .i64 (0)))), none, []⟩] false)
  (.mask ⟨[2], []⟩ (.ret)))))⟩
/-- beadle/store.own -/
def code_store_own : AFunc := ⟨8, [.cell 2 4 true],
  .seq (.region 0 [
    ⟨(some 1), .box 4 (.t 0), none, []⟩,
    ⟨(some 2), .box 4 (.c (.agg [(.d (.int .i64 (0))), (.d (.int .i64 (0))), (.d (.str [])), (.d (.vs true []))])), none, []⟩] false)
  (.seq (.region 1 [
    ⟨(some 3), .faddr 3 (.t 1), none, []⟩,
    ⟨(some 4), .load 1 false (.t 3), none, []⟩,
    ⟨(some 5), .call (.c (.fn F_slices_Clone_string_string [])) [(.t 4)], none, []⟩,
    ⟨(some 6), .faddr 3 (.t 1), none, []⟩,
    ⟨none, .store 1 (.t 6) (.t 5), none, []⟩] false)
  (.seq (.region 2 [
    ⟨(some 7), .load 4 true (.t 1), none, []⟩,
    ⟨none, .store 4 (.t 2) (.t 7), none, []⟩] false)
  (.mask ⟨[2], []⟩ (.ret))))⟩
/-- beadle/value.Zero -/
def code_value_Zero : AFunc := ⟨12, [.cell 2 4 true],
  .seq (.region 0 [
    ⟨(some 2), .box 4 (.c (.agg [(.d (.int .i64 (0))), (.d (.int .i64 (0))), (.d (.str [])), (.d (.vs true []))])), none, []⟩] false)
  (.seq (.seq (.region 1 [
    ⟨(some 3), .mov (.t 0), none, []⟩,
    ⟨(some 4), .bin .lss (.t 3) (.c (.d (.int .i64 (1)))), none, []⟩,
    ⟨(some 5), .mov (.t 4), none, []⟩,
    ⟨(some 6), .mov (.t 0), (some (5, false)), []⟩,
    ⟨(some 7), .bin .gtr (.t 6) (.c (.d (.int .i64 (4)))), (some (5, false)), []⟩,
    ⟨(some 8), .pick (.t 5) (.c (.d (.bool true))) (.t 7), none, []⟩] false)
  (.mask ⟨[0, 2, 8], []⟩ (.cond (.t 8)
    (.seq (.region 2 [
      ⟨(some 9), .build [(.d (.int .i64 (0))), (.d (.int .i64 (0))), (.d (.str [])), (.d (.vs true []))] [], none, []⟩,
      ⟨none, .store 4 (.t 2) (.t 9), none, []⟩] false)
    (.mask ⟨[2], []⟩ (.ret)))
    (.skip))))
  (.mask ⟨[0, 2], []⟩ (.seq (.region 3 [
    ⟨(some 10), .mov (.t 0), none, []⟩,
    ⟨(some 11), .build [(.d (.int .i64 (0))), (.d (.int .i64 (0))), (.d (.str [])), (.d (.vs true []))] [(0, 1, (.t 10))], none, []⟩,
    ⟨none, .store 4 (.t 2) (.t 11), none, []⟩] false)
  (.mask ⟨[2], []⟩ (.ret)))))⟩
/-- beadle/beadlelaw07.sum -/
def code_law07_sum : AFunc := ⟨5, [.cell 0 6 true],
  .seq (.region 0 [
    ⟨(some 0), .box 6 (.c (.agg [(.d (.int .i64 (0))), (.d (.str [])), (.d (.int .i64 (0))), (.d (.int .i64 (0))), (.d (.int .i64 (0))), (.d (.vs true []))])), none, []⟩] false)
  (.seq (.region 1 [
    ⟨(some 1), .build [(.d (.int .i64 (0))), (.d (.str [])), (.d (.int .i64 (0))), (.d (.int .i64 (0))), (.d (.int .i64 (0))), (.d (.vs true []))] [(0, 1, (.c (.d (.int .i64 (1))))), (2, 1, (.c (.d (.int .i64 (1)))))], none, []⟩,
    ⟨(some 2), .build [(.d (.int .i64 (0))), (.d (.str [])), (.d (.int .i64 (0))), (.d (.int .i64 (0))), (.d (.int .i64 (0))), (.d (.vs true []))] [(0, 1, (.c (.d (.int .i64 (5))))), (1, 1, (.c (.d (.str [97]))))], none, []⟩,
    ⟨(some 3), .buildSl 6 [(.int .i64 (0)), (.str []), (.int .i64 (0)), (.int .i64 (0)), (.int .i64 (0)), (.vs false [])] 2 [(0, (.t 1)), (1, (.t 2))], none, []⟩,
    ⟨(some 4), .build [(.d (.int .i64 (0))), (.d (.str [])), (.d (.int .i64 (0))), (.d (.int .i64 (0))), (.d (.int .i64 (0))), (.d (.vs true []))] [(0, 1, (.c (.d (.int .i64 (8))))), (5, 1, (.t 3))], none, []⟩,
    ⟨none, .store 6 (.t 0) (.t 4), none, []⟩] false)
  (.mask ⟨[0], []⟩ (.ret)))⟩
/-- beadle/ast.may -/
def code_ast_may : AFunc := ⟨30, [.tmp 2],
  .seq (.region 0 [
    ⟨(some 1), .box 6 (.t 0), none, []⟩,
    ⟨(some 2), .mov (.c (.d (.bool false))), none, []⟩] false)
  (.seq (.seq (.region 1 [
    ⟨(some 3), .faddr 0 (.t 1), none, []⟩,
    ⟨(some 4), .load 1 false (.t 3), none, []⟩,
    ⟨(some 5), .bin .eql (.t 4) (.c (.d (.int .i64 (4)))), none, []⟩] false)
  (.cond (.t 5)
    (.seq (.region 2 [
      ⟨(some 6), .load 6 true (.t 1), none, []⟩,
      ⟨(some 7), .call (.c (.fn F_ast_own [])) [(.t 6)], none, []⟩,
      ⟨(some 8), .mov (.t 7), none, []⟩,
      ⟨(some 9), .faddr 5 (.t 1), (some (8, true)), []⟩,
      ⟨(some 10), .load 1 false (.t 9), (some (8, true)), []⟩,
      ⟨(some 11), .call (.c (.fn F_ast_texts [])) [(.t 10)], (some (8, true)), []⟩,
      ⟨(some 12), .pick (.t 8) (.t 11) (.c (.d (.bool false))), none, []⟩,
      ⟨(some 2), .mov (.t 12), none, []⟩] false)
    (.mask ⟨[2], []⟩ (.ret)))
    (.skip)))
  (.mask ⟨[1], []⟩ (.seq (.region 3 [
    ⟨(some 13), .faddr 0 (.t 1), none, []⟩,
    ⟨(some 14), .load 1 false (.t 13), none, [0]⟩,
    ⟨(some 15), .call (.c (.fn F_ast_Kids [])) [(.t 14)], none, [0, 1]⟩,
    ⟨(some 16), .faddr 5 (.t 1), none, []⟩,
    ⟨(some 17), .load 1 false (.t 16), none, [3]⟩,
    ⟨(some 18), .len .sl (.t 17), none, [3, 4]⟩,
    ⟨(some 19), .bin .eql (.t 15) (.t 18), none, [0, 1, 2, 3, 4, 5]⟩,
    ⟨(some 20), .mov (.t 19), none, [0, 1, 2, 3, 4, 5, 6]⟩,
    ⟨(some 21), .load 6 true (.t 1), (some (20, true)), [0, 1, 2, 3, 4, 5, 6, 7]⟩,
    ⟨(some 22), .call (.c (.fn F_ast_own [])) [(.t 21)], (some (20, true)), [0, 1, 2, 3, 4, 5, 6, 7, 8]⟩,
    ⟨(some 23), .pick (.t 20) (.t 22) (.c (.d (.bool false))), none, [0, 1, 2, 3, 4, 5, 6, 7, 8, 9]⟩,
    ⟨(some 24), .mov (.t 23), none, [0, 1, 2, 3, 4, 5, 6, 7, 8, 9, 10]⟩,
    ⟨(some 25), .faddr 5 (.t 1), (some (24, true)), [0, 1, 2, 3, 4, 5, 6, 7, 8, 9, 10, 11]⟩,
    ⟨(some 26), .load 1 false (.t 25), (some (24, true)), [0, 1, 2, 3, 4, 5, 6, 7, 8, 9, 10, 11, 12]⟩,
    ⟨(some 27), .call (.c (.fn F_slices_ContainsFunc_api_Expr_api_Expr [])) [(.t 26), (.c (.fn F_ast_may_1 []))], (some (24, true)), [0, 1, 2, 3, 4, 5, 6, 7, 8, 9, 10, 11, 12, 13]⟩,
    ⟨(some 28), .un .not (.t 27), (some (24, true)), [0, 1, 2, 3, 4, 5, 6, 7, 8, 9, 10, 11, 12, 13, 14]⟩,
    ⟨(some 29), .pick (.t 24) (.t 28) (.c (.d (.bool false))), none, [0, 1, 2, 3, 4, 5, 6, 7, 8, 9, 10, 11, 12, 13, 14, 15]⟩,
    ⟨(some 2), .mov (.t 29), none, [0, 1, 2, 3, 4, 5, 6, 7, 8, 9, 10, 11, 12, 13, 14, 15, 16]⟩] true)
  (.mask ⟨[2], []⟩ (.ret)))))⟩
def mask_ref07_set_0 : Mask := ⟨[1, 3], []⟩
def body_ref07_set_0 : ACode :=
  .seq (.seq (.region 4 [
    ⟨(some 9), .mov (.t 3), none, []⟩,
    ⟨(some 10), .faddr 5 (.t 1), none, []⟩,
    ⟨(some 11), .load 1 false (.t 10), none, []⟩,
    ⟨(some 12), .len .sl (.t 11), none, []⟩,
    ⟨(some 13), .bin .lss (.t 9) (.t 12), none, []⟩] false)
  (.cond (.t 13)
    (.skip)
    (.mask ⟨[], []⟩ (.exit 0))))
  (.mask ⟨[1, 3], []⟩ (.seq (.block 1 (.seq (.region 6 [
    ⟨(some 16), .faddr 5 (.t 1), none, []⟩,
    ⟨(some 17), .load 1 false (.t 16), none, []⟩,
    ⟨(some 18), .mov (.t 3), none, []⟩,
    ⟨(some 19), .iaddr 6 (.t 17) (.t 18), none, []⟩,
    ⟨(some 20), .load 6 true (.t 19), none, []⟩,
    ⟨(some 4), .box 6 (.c (.agg [(.d (.int .i64 (0))), (.d (.str [])), (.d (.int .i64 (0))), (.d (.int .i64 (0))), (.d (.int .i64 (0))), (.d (.vs true []))])), none, []⟩,
    ⟨none, .store 6 (.t 4) (.t 20), none, []⟩] false)
  (.seq (.seq (.region 7 [
    ⟨(some 21), .faddr 0 (.t 4), none, []⟩,
    ⟨(some 22), .load 1 false (.t 21), none, []⟩,
    ⟨(some 23), .bin .neq (.t 22) (.c (.d (.int .i64 (3)))), none, []⟩,
    ⟨(some 24), .mov (.t 23), none, []⟩,
    ⟨(some 25), .faddr 5 (.t 4), (some (24, false)), []⟩,
    ⟨(some 26), .load 1 false (.t 25), (some (24, false)), []⟩,
    ⟨(some 27), .len .sl (.t 26), (some (24, false)), []⟩,
    ⟨(some 28), .bin .gtr (.t 27) (.c (.d (.int .i64 (0)))), (some (24, false)), []⟩,
    ⟨(some 29), .pick (.t 24) (.c (.d (.bool true))) (.t 28), none, []⟩,
    ⟨(some 30), .mov (.t 29), none, []⟩,
    ⟨(some 31), .faddr 2 (.t 4), (some (30, false)), []⟩,
    ⟨(some 32), .load 1 false (.t 31), (some (30, false)), []⟩,
    ⟨(some 33), .bin .neq (.t 32) (.c (.d (.int .i64 (0)))), (some (30, false)), []⟩,
    ⟨(some 34), .pick (.t 30) (.c (.d (.bool true))) (.t 33), none, []⟩,
    ⟨(some 35), .mov (.t 34), none, []⟩,
    ⟨(some 36), .faddr 3 (.t 4), (some (35, false)), []⟩,
    ⟨(some 37), .load 1 false (.t 36), (some (35, false)), []⟩,
    ⟨(some 38), .bin .neq (.t 37) (.c (.d (.int .i64 (0)))), (some (35, false)), []⟩,
    ⟨(some 39), .pick (.t 35) (.c (.d (.bool true))) (.t 38), none, []⟩,
    ⟨(some 40), .mov (.t 39), none, []⟩,
    ⟨(some 41), .faddr 4 (.t 4), (some (40, false)), []⟩,
    ⟨(some 42), .load 1 false (.t 41), (some (40, false)), []⟩,
    ⟨(some 43), .bin .neq (.t 42) (.c (.d (.int .i64 (0)))), (some (40, false)), []⟩,
    ⟨(some 44), .pick (.t 40) (.c (.d (.bool true))) (.t 43), none, []⟩,
    ⟨(some 45), .mov (.t 44), none, []⟩,
    ⟨(some 46), .faddr 1 (.t 4), (some (45, false)), []⟩,
    ⟨(some 47), .load 1 false (.t 46), (some (45, false)), []⟩,
    ⟨(some 48), .call (.c (.fn F_ref06_Plain [])) [(.t 47)], (some (45, false)), []⟩,
    ⟨(some 49), .un .not (.t 48), (some (45, false)), []⟩,
    ⟨(some 50), .pick (.t 45) (.c (.d (.bool true))) (.t 49), none, []⟩] false)
  (.mask ⟨[1, 3, 4, 50], []⟩ (.cond (.t 50)
    (.seq (.region 8 [
      ⟨(some 2), .mov (.c (.d (.bool false))), none, []⟩] false)
    (.mask ⟨[2], []⟩ (.ret)))
    (.skip))))
  (.mask ⟨[1, 3, 4], []⟩ (.seq (.region 9 [
    ⟨(some 51), .mov (.t 3), none, []⟩,
    ⟨(some 52), .bin .gtr (.t 51) (.c (.d (.int .i64 (0)))), none, [0]⟩,
    ⟨(some 53), .mov (.t 52), none, [0, 1]⟩,
    ⟨(some 54), .faddr 1 (.t 4), (some (53, true)), [0, 1, 2]⟩,
    ⟨(some 55), .load 1 false (.t 54), (some (53, true)), [0, 1, 2, 3]⟩,
    ⟨(some 56), .faddr 5 (.t 1), (some (53, true)), [0, 1, 2]⟩,
    ⟨(some 57), .load 1 false (.t 56), (some (53, true)), [0, 1, 2, 5]⟩,
    ⟨(some 58), .mov (.t 3), (some (53, true)), [0, 1, 2]⟩,
    ⟨(some 59), .bin .sub (.t 58) (.c (.d (.int .i64 (1)))), (some (53, true)), [0, 1, 2, 7]⟩,
    ⟨(some 60), .iaddr 6 (.t 57) (.t 59), (some (53, true)), [0, 1, 2, 5, 6, 7, 8]⟩,
    ⟨(some 61), .faddr 1 (.t 60), (some (53, true)), [0, 1, 2, 5, 6, 7, 8, 9]⟩,
    ⟨(some 62), .load 1 false (.t 61), (some (53, true)), [0, 1, 2, 5, 6, 7, 8, 9, 10]⟩,
    ⟨(some 63), .bin .leq (.t 55) (.t 62), (some (53, true)), [0, 1, 2, 3, 4, 5, 6, 7, 8, 9, 10, 11]⟩,
    ⟨(some 64), .pick (.t 53) (.t 63) (.c (.d (.bool false))), none, [0, 1, 2, 3, 4, 5, 6, 7, 8, 9, 10, 11, 12]⟩] true)
  (.mask ⟨[1, 3, 64], []⟩ (.cond (.t 64)
    (.seq (.region 10 [
      ⟨(some 2), .mov (.c (.d (.bool false))), none, []⟩] false)
    (.mask ⟨[2], []⟩ (.ret)))
    (.skip))))))))
  (.mask ⟨[1, 3], []⟩ (.region 5 [
    ⟨(some 14), .mov (.t 3), none, []⟩,
    ⟨(some 15), .bin .add (.t 14) (.c (.d (.int .i64 (1)))), none, []⟩,
    ⟨(some 3), .mov (.t 15), none, []⟩] false))))
/-- beadle/beadleref07.set -/
def code_ref07_set : AFunc := ⟨65, [.tmp 2],
  .seq (.region 0 [
    ⟨(some 1), .box 6 (.t 0), none, []⟩,
    ⟨(some 2), .mov (.c (.d (.bool false))), none, []⟩] false)
  (.seq (.seq (.region 1 [
    ⟨(some 5), .faddr 5 (.t 1), none, []⟩,
    ⟨(some 6), .load 1 false (.t 5), none, []⟩,
    ⟨(some 7), .len .sl (.t 6), none, []⟩,
    ⟨(some 8), .bin .gtr (.t 7) (.c (.d (.int .i64 (8)))), none, []⟩] false)
  (.cond (.t 8)
    (.seq (.region 2 [
      ⟨(some 2), .mov (.c (.d (.bool false))), none, []⟩] false)
    (.mask ⟨[2], []⟩ (.ret)))
    (.skip)))
  (.mask ⟨[1], []⟩ (.seq (.seq (.region 3 [
    ⟨(some 3), .mov (.c (.d (.int .i64 (0)))), none, []⟩] false)
  (.block 0 (.loop mask_ref07_set_0 body_ref07_set_0)))
  (.mask ⟨[], []⟩ (.seq (.region 11 [
    ⟨(some 2), .mov (.c (.d (.bool true))), none, []⟩] false)
  (.mask ⟨[2], []⟩ (.ret)))))))⟩
/-- beadle/beadleref07.fits -/
def code_ref07_fits : AFunc := ⟨126, [.tmp 2],
  .seq (.region 0 [
    ⟨(some 1), .box 6 (.t 0), none, []⟩,
    ⟨(some 2), .mov (.c (.d (.bool false))), none, []⟩] false)
  (.seq (.region 1 [
    ⟨(some 5), .faddr 0 (.t 1), none, []⟩,
    ⟨(some 6), .load 1 false (.t 5), none, []⟩,
    ⟨(some 3), .mov (.t 6), none, []⟩] false)
  (.seq (.seq (.region 2 [
    ⟨(some 7), .mov (.t 3), none, []⟩,
    ⟨(some 8), .bin .eql (.t 7) (.c (.d (.int .i64 (3)))), none, []⟩,
    ⟨(some 9), .mov (.t 8), none, []⟩,
    ⟨(some 10), .faddr 1 (.t 1), (some (9, true)), []⟩,
    ⟨(some 11), .load 1 false (.t 10), (some (9, true)), []⟩,
    ⟨(some 12), .call (.c (.fn F_ref06_Plain [])) [(.t 11)], (some (9, true)), []⟩,
    ⟨(some 13), .un .not (.t 12), (some (9, true)), []⟩,
    ⟨(some 14), .pick (.t 9) (.t 13) (.c (.d (.bool false))), none, []⟩] false)
  (.mask ⟨[1, 3, 14], []⟩ (.cond (.t 14)
    (.seq (.region 3 [
      ⟨(some 2), .mov (.c (.d (.bool false))), none, []⟩] false)
    (.mask ⟨[2], []⟩ (.ret)))
    (.skip))))
  (.mask ⟨[1, 3], []⟩ (.seq (.region 4 [
    ⟨(some 15), .mov (.t 3), none, []⟩,
    ⟨(some 16), .bin .eql (.t 15) (.c (.d (.int .i64 (5)))), none, []⟩,
    ⟨(some 17), .mov (.t 16), none, []⟩,
    ⟨(some 18), .mov (.t 3), (some (17, false)), []⟩,
    ⟨(some 19), .bin .eql (.t 18) (.c (.d (.int .i64 (6)))), (some (17, false)), []⟩,
    ⟨(some 20), .pick (.t 17) (.c (.d (.bool true))) (.t 19), none, []⟩,
    ⟨(some 21), .mov (.t 20), none, []⟩,
    ⟨(some 22), .mov (.t 3), (some (21, false)), []⟩,
    ⟨(some 23), .bin .eql (.t 22) (.c (.d (.int .i64 (13)))), (some (21, false)), []⟩,
    ⟨(some 24), .pick (.t 21) (.c (.d (.bool true))) (.t 23), none, []⟩,
    ⟨(some 25), .mov (.t 24), none, []⟩,
    ⟨(some 26), .mov (.t 3), (some (25, false)), []⟩,
    ⟨(some 27), .bin .eql (.t 26) (.c (.d (.int .i64 (21)))), (some (25, false)), []⟩,
    ⟨(some 28), .pick (.t 25) (.c (.d (.bool true))) (.t 27), none, []⟩,
    ⟨(some 4), .mov (.t 28), none, []⟩] false)
  (.mask ⟨[1, 3, 4], []⟩ (.seq (.seq (.region 5 [
    ⟨(some 29), .mov (.t 4), none, []⟩,
    ⟨(some 30), .mov (.t 29), none, []⟩,
    ⟨(some 31), .faddr 1 (.t 1), (some (30, true)), []⟩,
    ⟨(some 32), .load 1 false (.t 31), (some (30, true)), []⟩,
    ⟨(some 33), .call (.c (.fn F_ref06_Name [])) [(.t 32)], (some (30, true)), []⟩,
    ⟨(some 34), .un .not (.t 33), (some (30, true)), []⟩,
    ⟨(some 35), .pick (.t 30) (.t 34) (.c (.d (.bool false))), none, []⟩,
    ⟨(some 36), .mov (.t 35), none, []⟩,
    ⟨(some 37), .mov (.t 4), (some (36, false)), []⟩,
    ⟨(some 38), .un .not (.t 37), (some (36, false)), []⟩,
    ⟨(some 39), .mov (.t 38), (some (36, false)), []⟩,
    ⟨(some 40), .mov (.t 3), (some (39, true)), []⟩,
    ⟨(some 41), .bin .neq (.t 40) (.c (.d (.int .i64 (3)))), (some (39, true)), []⟩,
    ⟨(some 42), .pick (.t 39) (.t 41) (.c (.d (.bool false))), (some (36, false)), []⟩,
    ⟨(some 43), .mov (.t 42), (some (36, false)), []⟩,
    ⟨(some 44), .faddr 1 (.t 1), (some (43, true)), []⟩,
    ⟨(some 45), .load 1 false (.t 44), (some (43, true)), []⟩,
    ⟨(some 46), .bin .neq (.t 45) (.c (.d (.str []))), (some (43, true)), []⟩,
    ⟨(some 47), .pick (.t 43) (.t 46) (.c (.d (.bool false))), (some (36, false)), []⟩,
    ⟨(some 48), .pick (.t 36) (.c (.d (.bool true))) (.t 47), none, []⟩] false)
  (.mask ⟨[1, 3, 48], []⟩ (.cond (.t 48)
    (.seq (.region 6 [
      ⟨(some 2), .mov (.c (.d (.bool false))), none, []⟩] false)
    (.mask ⟨[2], []⟩ (.ret)))
    (.skip))))
  (.mask ⟨[1, 3], []⟩ (.seq (.seq (.region 7 [
    ⟨(some 49), .mov (.t 3), none, []⟩,
    ⟨(some 50), .bin .eql (.t 49) (.c (.d (.int .i64 (1)))), none, []⟩,
    ⟨(some 51), .mov (.t 50), none, []⟩,
    ⟨(some 52), .faddr 2 (.t 1), (some (51, true)), []⟩,
    ⟨(some 53), .load 1 false (.t 52), (some (51, true)), []⟩,
    ⟨(some 54), .bin .lss (.t 53) (.c (.d (.int .i64 (0)))), (some (51, true)), []⟩,
    ⟨(some 55), .pick (.t 51) (.t 54) (.c (.d (.bool false))), none, []⟩,
    ⟨(some 56), .mov (.t 55), none, []⟩,
    ⟨(some 57), .mov (.t 3), (some (56, false)), []⟩,
    ⟨(some 58), .bin .eql (.t 57) (.c (.d (.int .i64 (2)))), (some (56, false)), []⟩,
    ⟨(some 59), .mov (.t 58), (some (56, false)), []⟩,
    ⟨(some 60), .faddr 2 (.t 1), (some (59, true)), []⟩,
    ⟨(some 61), .load 1 false (.t 60), (some (59, true)), []⟩,
    ⟨(some 62), .bin .neq (.t 61) (.c (.d (.int .i64 (0)))), (some (59, true)), []⟩,
    ⟨(some 63), .pick (.t 59) (.t 62) (.c (.d (.bool false))), (some (56, false)), []⟩,
    ⟨(some 64), .mov (.t 63), (some (56, false)), []⟩,
    ⟨(some 65), .faddr 2 (.t 1), (some (64, true)), []⟩,
    ⟨(some 66), .load 1 false (.t 65), (some (64, true)), []⟩,
    ⟨(some 67), .bin .neq (.t 66) (.c (.d (.int .i64 (1)))), (some (64, true)), []⟩,
    ⟨(some 68), .pick (.t 64) (.t 67) (.c (.d (.bool false))), (some (56, false)), []⟩,
    ⟨(some 69), .pick (.t 56) (.c (.d (.bool true))) (.t 68), none, []⟩,
    ⟨(some 70), .mov (.t 69), none, []⟩,
    ⟨(some 71), .mov (.t 3), (some (70, false)), []⟩,
    ⟨(some 72), .bin .neq (.t 71) (.c (.d (.int .i64 (1)))), (some (70, false)), []⟩,
    ⟨(some 73), .mov (.t 72), (some (70, false)), []⟩,
    ⟨(some 74), .mov (.t 3), (some (73, true)), []⟩,
    ⟨(some 75), .bin .neq (.t 74) (.c (.d (.int .i64 (2)))), (some (73, true)), []⟩,
    ⟨(some 76), .pick (.t 73) (.t 75) (.c (.d (.bool false))), (some (70, false)), []⟩,
    ⟨(some 77), .mov (.t 76), (some (70, false)), []⟩,
    ⟨(some 78), .faddr 2 (.t 1), (some (77, true)), []⟩,
    ⟨(some 79), .load 1 false (.t 78), (some (77, true)), []⟩,
    ⟨(some 80), .bin .neq (.t 79) (.c (.d (.int .i64 (0)))), (some (77, true)), []⟩,
    ⟨(some 81), .pick (.t 77) (.t 80) (.c (.d (.bool false))), (some (70, false)), []⟩,
    ⟨(some 82), .pick (.t 70) (.c (.d (.bool true))) (.t 81), none, []⟩] false)
  (.mask ⟨[1, 3, 82], []⟩ (.cond (.t 82)
    (.seq (.region 8 [
      ⟨(some 2), .mov (.c (.d (.bool false))), none, []⟩] false)
    (.mask ⟨[2], []⟩ (.ret)))
    (.skip))))
  (.mask ⟨[1, 3], []⟩ (.seq (.seq (.region 9 [
    ⟨(some 83), .mov (.t 3), none, []⟩,
    ⟨(some 84), .bin .eql (.t 83) (.c (.d (.int .i64 (22)))), none, []⟩,
    ⟨(some 85), .mov (.t 84), none, []⟩,
    ⟨(some 86), .mov (.t 3), (some (85, false)), []⟩,
    ⟨(some 87), .bin .eql (.t 86) (.c (.d (.int .i64 (23)))), (some (85, false)), []⟩,
    ⟨(some 88), .pick (.t 85) (.c (.d (.bool true))) (.t 87), none, []⟩,
    ⟨(some 89), .mov (.t 88), none, []⟩,
    ⟨(some 90), .mov (.t 3), (some (89, false)), []⟩,
    ⟨(some 91), .bin .eql (.t 90) (.c (.d (.int .i64 (24)))), (some (89, false)), []⟩,
    ⟨(some 92), .pick (.t 89) (.c (.d (.bool true))) (.t 91), none, []⟩] false)
  (.mask ⟨[1, 3, 92], []⟩ (.cond (.t 92)
    (.seq (.region 10 [
      ⟨(some 93), .faddr 3 (.t 1), none, []⟩,
      ⟨(some 94), .load 1 false (.t 93), none, []⟩,
      ⟨(some 95), .bin .geq (.t 94) (.c (.d (.int .i64 (0)))), none, []⟩,
      ⟨(some 96), .mov (.t 95), none, []⟩,
      ⟨(some 97), .faddr 4 (.t 1), (some (96, true)), []⟩,
      ⟨(some 98), .load 1 false (.t 97), (some (96, true)), []⟩,
      ⟨(some 99), .bin .eql (.t 98) (.c (.d (.int .i64 (-1)))), (some (96, true)), []⟩,
      ⟨(some 100), .mov (.t 99), (some (96, true)), []⟩,
      ⟨(some 101), .faddr 4 (.t 1), (some (100, false)), []⟩,
      ⟨(some 102), .load 1 false (.t 101), (some (100, false)), []⟩,
      ⟨(some 103), .faddr 3 (.t 1), (some (100, false)), []⟩,
      ⟨(some 104), .load 1 false (.t 103), (some (100, false)), []⟩,
      ⟨(some 105), .bin .geq (.t 102) (.t 104), (some (100, false)), []⟩,
      ⟨(some 106), .pick (.t 100) (.c (.d (.bool true))) (.t 105), (some (96, true)), []⟩,
      ⟨(some 107), .pick (.t 96) (.t 106) (.c (.d (.bool false))), none, []⟩,
      ⟨(some 2), .mov (.t 107), none, []⟩] false)
    (.mask ⟨[2], []⟩ (.ret)))
    (.skip))))
  (.mask ⟨[1, 3], []⟩ (.seq (.seq (.region 11 [
    ⟨(some 108), .mov (.t 3), none, []⟩,
    ⟨(some 109), .bin .eql (.t 108) (.c (.d (.int .i64 (13)))), none, []⟩] false)
  (.cond (.t 109)
    (.seq (.region 12 [
      ⟨(some 110), .faddr 3 (.t 1), none, []⟩,
      ⟨(some 111), .load 1 false (.t 110), none, []⟩,
      ⟨(some 112), .bin .eql (.t 111) (.c (.d (.int .i64 (0)))), none, []⟩,
      ⟨(some 113), .mov (.t 112), none, []⟩,
      ⟨(some 114), .faddr 4 (.t 1), (some (113, true)), []⟩,
      ⟨(some 115), .load 1 false (.t 114), (some (113, true)), []⟩,
      ⟨(some 116), .bin .geq (.t 115) (.c (.d (.int .i64 (0)))), (some (113, true)), []⟩,
      ⟨(some 117), .pick (.t 113) (.t 116) (.c (.d (.bool false))), none, []⟩,
      ⟨(some 2), .mov (.t 117), none, []⟩] false)
    (.mask ⟨[2], []⟩ (.ret)))
    (.skip)))
  (.mask ⟨[1], []⟩ (.seq (.region 13 [
    ⟨(some 118), .faddr 3 (.t 1), none, []⟩,
    ⟨(some 119), .load 1 false (.t 118), none, []⟩,
    ⟨(some 120), .bin .eql (.t 119) (.c (.d (.int .i64 (0)))), none, []⟩,
    ⟨(some 121), .mov (.t 120), none, []⟩,
    ⟨(some 122), .faddr 4 (.t 1), (some (121, true)), []⟩,
    ⟨(some 123), .load 1 false (.t 122), (some (121, true)), []⟩,
    ⟨(some 124), .bin .eql (.t 123) (.c (.d (.int .i64 (0)))), (some (121, true)), []⟩,
    ⟨(some 125), .pick (.t 121) (.t 124) (.c (.d (.bool false))), none, []⟩,
    ⟨(some 2), .mov (.t 125), none, []⟩] false)
  (.mask ⟨[2], []⟩ (.ret))))))))))))))))⟩
/-- beadle/ast.inner -/
def code_ast_inner : AFunc := ⟨8, [.tmp 2],
  .seq (.region 0 [
    ⟨(some 1), .box 6 (.t 0), none, []⟩,
    ⟨(some 2), .mov (.c (.d (.vs true []))), none, []⟩] false)
  (.seq (.seq (.region 1 [
    ⟨(some 3), .faddr 0 (.t 1), none, []⟩,
    ⟨(some 4), .load 1 false (.t 3), none, []⟩,
    ⟨(some 5), .bin .eql (.t 4) (.c (.d (.int .i64 (4)))), none, []⟩] false)
  (.cond (.t 5)
    (.seq (.region 2 [
      ⟨(some 2), .mov (.c (.d (.vs true []))), none, []⟩] false)
    (.mask ⟨[2], []⟩ (.ret)))
    (.skip)))
  (.mask ⟨[1], []⟩ (.seq (.region 3 [
    ⟨(some 6), .faddr 5 (.t 1), none, []⟩,
    ⟨(some 7), .load 1 false (.t 6), none, []⟩,
    ⟨(some 2), .mov (.t 7), none, []⟩] false)
  (.mask ⟨[2], []⟩ (.ret)))))⟩
/-- slices.ContainsFunc[[]beadle/api.Expr,beadle/api.Expr] -/
def code_slices_ContainsFunc_api_Expr_api_Expr : AFunc := ⟨9, [.tmp 4],
  .seq (.region 0 [
    ⟨(some 4), .mov (.c (.d (.bool false))), none, []⟩] false)
  (.seq (.region 1 [
    ⟨(some 5), .mov (.t 0), none, []⟩,
    ⟨(some 6), .mov (.t 1), none, []⟩,
    ⟨(some 7), .call (.c (.fn F_slices_IndexFunc_api_Expr_api_Expr [])) [(.t 5), (.t 6)], none, []⟩,
    ⟨(some 8), .bin .geq (.t 7) (.c (.d (.int .i64 (0)))), none, []⟩,
    ⟨(some 4), .mov (.t 8), none, []⟩] false)
  (.mask ⟨[4], []⟩ (.ret)))⟩
/-- beadle/beadleref07.Looks -/
def code_ref07_Looks : AFunc := ⟨21, [.tmp 2],
  .seq (.region 0 [
    ⟨(some 2), .mov (.c (.d (.bool false))), none, []⟩] false)
  (.seq (.region 1 [
    ⟨(some 3), .mov (.t 0), none, []⟩,
    ⟨(some 4), .bin .eql (.t 3) (.c (.d (.int .i64 (22)))), none, []⟩,
    ⟨(some 5), .mov (.t 4), none, []⟩,
    ⟨(some 6), .mov (.t 0), (some (5, false)), []⟩,
    ⟨(some 7), .bin .eql (.t 6) (.c (.d (.int .i64 (23)))), (some (5, false)), []⟩,
    ⟨(some 8), .pick (.t 5) (.c (.d (.bool true))) (.t 7), none, []⟩,
    ⟨(some 9), .mov (.t 8), none, []⟩,
    ⟨(some 10), .mov (.t 0), (some (9, false)), []⟩,
    ⟨(some 11), .bin .eql (.t 10) (.c (.d (.int .i64 (24)))), (some (9, false)), []⟩,
    ⟨(some 12), .pick (.t 9) (.c (.d (.bool true))) (.t 11), none, []⟩,
    ⟨(some 13), .mov (.t 12), none, []⟩,
    ⟨(some 14), .mov (.t 0), (some (13, false)), []⟩,
    ⟨(some 15), .bin .eql (.t 14) (.c (.d (.int .i64 (25)))), (some (13, false)), []⟩,
    ⟨(some 16), .pick (.t 13) (.c (.d (.bool true))) (.t 15), none, []⟩,
    ⟨(some 17), .mov (.t 16), none, []⟩,
    ⟨(some 18), .mov (.t 0), (some (17, false)), []⟩,
    ⟨(some 19), .bin .eql (.t 18) (.c (.d (.int .i64 (13)))), (some (17, false)), []⟩,
    ⟨(some 20), .pick (.t 17) (.c (.d (.bool true))) (.t 19), none, []⟩,
    ⟨(some 2), .mov (.t 20), none, []⟩] false)
  (.mask ⟨[2], []⟩ (.ret)))⟩
def mask_slices_EqualFunc_api_Expr_api_Expr_api_Expr_api_Expr_0 : Mask := ⟨[1, 2, 15, 16, 17], []⟩
def body_slices_EqualFunc_api_Expr_api_Expr_api_Expr_api_Expr_0 : ACode :=
  .seq (.region 4 [
    ⟨(some 18), .bin .lss (.t 17) (.t 16), none, []⟩] false)
  (.seq (.cond (.t 18)
    (.skip)
    (.mask ⟨[], []⟩ (.exit 0)))
  (.mask ⟨[1, 2, 15, 16, 17], []⟩ (.seq (.block 1 (.seq (.region 5 [
    ⟨(some 19), .mov (.t 17), none, []⟩,
    ⟨(some 20), .iaddr 6 (.t 15) (.t 17), none, []⟩,
    ⟨(some 21), .load 6 true (.t 20), none, []⟩,
    ⟨(some 8), .box 6 (.c (.agg [(.d (.int .i64 (0))), (.d (.str [])), (.d (.int .i64 (0))), (.d (.int .i64 (0))), (.d (.int .i64 (0))), (.d (.vs true []))])), none, []⟩,
    ⟨(some 7), .mov (.t 19), none, []⟩,
    ⟨none, .store 6 (.t 8) (.t 21), none, []⟩] false)
  (.seq (.region 6 [
    ⟨(some 22), .mov (.t 1), none, []⟩,
    ⟨(some 23), .mov (.t 7), none, []⟩,
    ⟨(some 24), .iaddr 6 (.t 22) (.t 23), none, []⟩,
    ⟨(some 25), .load 6 true (.t 24), none, []⟩,
    ⟨(some 9), .box 6 (.c (.agg [(.d (.int .i64 (0))), (.d (.str [])), (.d (.int .i64 (0))), (.d (.int .i64 (0))), (.d (.int .i64 (0))), (.d (.vs true []))])), none, []⟩,
    ⟨none, .store 6 (.t 9) (.t 25), none, []⟩] false)
  (.seq (.region 7 [
    ⟨(some 26), .mov (.t 2), none, []⟩,
    ⟨(some 27), .load 6 true (.t 8), none, []⟩,
    ⟨(some 28), .load 6 true (.t 9), none, []⟩,
    ⟨(some 29), .call (.t 26) [(.t 27), (.t 28)], none, []⟩,
    ⟨(some 30), .un .not (.t 29), none, []⟩] false)
  (.cond (.t 30)
    (.seq (.region 8 [
      ⟨(some 6), .mov (.c (.d (.bool false))), none, []⟩] false)
    (.mask ⟨[6], []⟩ (.ret)))
    (.skip))))))
  (.mask ⟨[1, 2, 15, 16, 17], []⟩ (.region 9 [
    ⟨(some 31), .bin .add (.t 17) (.c (.d (.int .i64 (1)))), none, []⟩,
    ⟨(some 17), .mov (.t 31), none, []⟩] false)))))
/-- slices.EqualFunc[[]beadle/api.Expr,[]beadle/api.Expr,beadle/api.Expr,beadle/api.Expr] -/
def code_slices_EqualFunc_api_Expr_api_Expr_api_Expr_api_Expr : AFunc := ⟨32, [.tmp 6],
  .seq (.region 0 [
    ⟨(some 6), .mov (.c (.d (.bool false))), none, []⟩] false)
  (.seq (.seq (.region 1 [
    ⟨(some 10), .mov (.t 0), none, []⟩,
    ⟨(some 11), .len .sl (.t 10), none, []⟩,
    ⟨(some 12), .mov (.t 1), none, []⟩,
    ⟨(some 13), .len .sl (.t 12), none, []⟩,
    ⟨(some 14), .bin .neq (.t 11) (.t 13), none, []⟩] false)
  (.cond (.t 14)
    (.seq (.region 2 [
      ⟨(some 6), .mov (.c (.d (.bool false))), none, []⟩] false)
    (.mask ⟨[6], []⟩ (.ret)))
    (.skip)))
  (.mask ⟨[0, 1, 2], []⟩ (.seq (.seq (.region 3 [
    ⟨(some 15), .mov (.t 0), none, []⟩,
    ⟨(some 16), .len .sl (.t 15), none, []⟩,
    ⟨(some 17), .mov (.c (.d (.int .i64 (0)))), none, []⟩] false)
  (.block 0 (.loop mask_slices_EqualFunc_api_Expr_api_Expr_api_Expr_api_Expr_0 body_slices_EqualFunc_api_Expr_api_Expr_api_Expr_api_Expr_0)))
  (.mask ⟨[], []⟩ (.seq (.region 10 [
    ⟨(some 6), .mov (.c (.d (.bool true))), none, []⟩] false)
  (.mask ⟨[6], []⟩ (.ret)))))))⟩
/-- beadle/value.long -/
def code_value_long : AFunc := ⟨6, [.tmp 2],
  .seq (.region 0 [
    ⟨(some 2), .mov (.c (.d (.bool false))), none, []⟩] false)
  (.seq (.region 1 [
    ⟨(some 3), .mov (.t 0), none, []⟩,
    ⟨(some 4), .len .str (.t 3), none, []⟩,
    ⟨(some 5), .bin .gtr (.t 4) (.c (.d (.int .i64 (32)))), none, []⟩,
    ⟨(some 2), .mov (.t 5), none, []⟩] false)
  (.mask ⟨[2], []⟩ (.ret)))⟩
/-- slices.ContainsFunc[[]string,string] -/
def code_slices_ContainsFunc_string_string : AFunc := ⟨9, [.tmp 4],
  .seq (.region 0 [
    ⟨(some 4), .mov (.c (.d (.bool false))), none, []⟩] false)
  (.seq (.region 1 [
    ⟨(some 5), .mov (.t 0), none, []⟩,
    ⟨(some 6), .mov (.t 1), none, []⟩,
    ⟨(some 7), .call (.c (.fn F_slices_IndexFunc_string_string [])) [(.t 5), (.t 6)], none, []⟩,
    ⟨(some 8), .bin .geq (.t 7) (.c (.d (.int .i64 (0)))), none, []⟩,
    ⟨(some 4), .mov (.t 8), none, []⟩] false)
  (.mask ⟨[4], []⟩ (.ret)))⟩
/-- beadle/value.odd -/
def code_value_odd : AFunc := ⟨56, [.tmp 2],
  .seq (.region 0 [
    ⟨(some 1), .box 4 (.t 0), none, []⟩,
    ⟨(some 2), .mov (.c (.d (.bool false))), none, []⟩] false)
  (.seq (.region 1 [
    ⟨(some 4), .faddr 0 (.t 1), none, []⟩,
    ⟨(some 5), .load 1 false (.t 4), none, []⟩,
    ⟨(some 6), .bin .eql (.t 5) (.c (.d (.int .i64 (1)))), none, []⟩,
    ⟨(some 7), .mov (.t 6), none, []⟩,
    ⟨(some 8), .faddr 0 (.t 1), (some (7, false)), []⟩,
    ⟨(some 9), .load 1 false (.t 8), (some (7, false)), []⟩,
    ⟨(some 10), .bin .eql (.t 9) (.c (.d (.int .i64 (2)))), (some (7, false)), []⟩,
    ⟨(some 11), .mov (.t 10), (some (7, false)), []⟩,
    ⟨(some 12), .faddr 1 (.t 1), (some (11, true)), []⟩,
    ⟨(some 13), .load 1 false (.t 12), (some (11, true)), []⟩,
    ⟨(some 14), .bin .eql (.t 13) (.c (.d (.int .i64 (0)))), (some (11, true)), []⟩,
    ⟨(some 15), .mov (.t 14), (some (11, true)), []⟩,
    ⟨(some 16), .faddr 1 (.t 1), (some (15, false)), []⟩,
    ⟨(some 17), .load 1 false (.t 16), (some (15, false)), []⟩,
    ⟨(some 18), .bin .eql (.t 17) (.c (.d (.int .i64 (1)))), (some (15, false)), []⟩,
    ⟨(some 19), .pick (.t 15) (.c (.d (.bool true))) (.t 18), (some (11, true)), []⟩,
    ⟨(some 20), .pick (.t 11) (.t 19) (.c (.d (.bool false))), (some (7, false)), []⟩,
    ⟨(some 21), .pick (.t 7) (.c (.d (.bool true))) (.t 20), none, []⟩,
    ⟨(some 3), .mov (.t 21), none, []⟩] false)
  (.mask ⟨[1, 3], []⟩ (.seq (.region 2 [
    ⟨(some 22), .mov (.t 3), none, []⟩,
    ⟨(some 23), .un .not (.t 22), none, []⟩,
    ⟨(some 24), .mov (.t 23), none, []⟩,
    ⟨(some 25), .faddr 1 (.t 1), (some (24, true)), []⟩,
    ⟨(some 26), .load 1 false (.t 25), (some (24, true)), []⟩,
    ⟨(some 27), .bin .neq (.t 26) (.c (.d (.int .i64 (0)))), (some (24, true)), []⟩,
    ⟨(some 28), .pick (.t 24) (.t 27) (.c (.d (.bool false))), none, []⟩,
    ⟨(some 29), .mov (.t 28), none, []⟩,
    ⟨(some 30), .faddr 0 (.t 1), (some (29, false)), []⟩,
    ⟨(some 31), .load 1 false (.t 30), (some (29, false)), []⟩,
    ⟨(some 32), .bin .neq (.t 31) (.c (.d (.int .i64 (3)))), (some (29, false)), []⟩,
    ⟨(some 33), .mov (.t 32), (some (29, false)), []⟩,
    ⟨(some 34), .faddr 2 (.t 1), (some (33, true)), []⟩,
    ⟨(some 35), .load 1 false (.t 34), (some (33, true)), []⟩,
    ⟨(some 36), .bin .neq (.t 35) (.c (.d (.str []))), (some (33, true)), []⟩,
    ⟨(some 37), .pick (.t 33) (.t 36) (.c (.d (.bool false))), (some (29, false)), []⟩,
    ⟨(some 38), .pick (.t 29) (.c (.d (.bool true))) (.t 37), none, []⟩,
    ⟨(some 39), .mov (.t 38), none, []⟩,
    ⟨(some 40), .faddr 0 (.t 1), (some (39, false)), []⟩,
    ⟨(some 41), .load 1 false (.t 40), (some (39, false)), []⟩,
    ⟨(some 42), .bin .neq (.t 41) (.c (.d (.int .i64 (4)))), (some (39, false)), []⟩,
    ⟨(some 43), .mov (.t 42), (some (39, false)), []⟩,
    ⟨(some 44), .faddr 3 (.t 1), (some (43, true)), []⟩,
    ⟨(some 45), .load 1 false (.t 44), (some (43, true)), []⟩,
    ⟨(some 46), .len .sl (.t 45), (some (43, true)), []⟩,
    ⟨(some 47), .bin .gtr (.t 46) (.c (.d (.int .i64 (0)))), (some (43, true)), []⟩,
    ⟨(some 48), .pick (.t 43) (.t 47) (.c (.d (.bool false))), (some (39, false)), []⟩,
    ⟨(some 49), .pick (.t 39) (.c (.d (.bool true))) (.t 48), none, []⟩,
    ⟨(some 50), .mov (.t 49), none, []⟩,
    ⟨(some 51), .faddr 3 (.t 1), (some (50, false)), []⟩,
    ⟨(some 52), .load 1 false (.t 51), (some (50, false)), []⟩,
    ⟨(some 53), .call (.c (.fn F_value_rises [])) [(.t 52)], (some (50, false)), []⟩,
    ⟨(some 54), .un .not (.t 53), (some (50, false)), []⟩,
    ⟨(some 55), .pick (.t 50) (.c (.d (.bool true))) (.t 54), none, []⟩,
    ⟨(some 2), .mov (.t 55), none, []⟩] false)
  (.mask ⟨[2], []⟩ (.ret)))))⟩
/-- slices.Clone[[]string,string] -/
def code_slices_Clone_string_string : AFunc := ⟨8, [.tmp 2],
  .seq (.region 0 [
    ⟨(some 2), .mov (.c (.d (.vs true []))), none, []⟩] false)
  (.guard (.region 1 [
    ⟨(some 3), .mov (.t 0), none, []⟩,
    ⟨(some 4), .isnil .s false (.t 3), none, []⟩] false) (.t 4)
    (.seq (.region 2 [
      ⟨(some 2), .mov (.c (.d (.vs true []))), none, []⟩] false)
    (.mask ⟨[2], [.slot 2 10000020 1]⟩ (.ret)))
  (.mask ⟨[0], []⟩ (.seq (.region 3 [
    ⟨(some 5), .buildSl 1 [(.str [])] 0 [], none, []⟩,
    ⟨(some 6), .mov (.t 0), none, []⟩,
    ⟨(some 7), .append 1 (.t 5) (.t 6), none, []⟩,
    ⟨(some 2), .mov (.t 7), none, []⟩] false)
  (.mask ⟨[2], [.slot 2 10000020 1]⟩ (.ret)))))⟩
/-- beadle/ast.own -/
def code_ast_own : AFunc := ⟨69, [.tmp 2],
  .seq (.region 0 [
    ⟨(some 1), .box 6 (.t 0), none, []⟩,
    ⟨(some 2), .mov (.c (.d (.bool false))), none, []⟩] false)
  (.seq (.region 1 [
    ⟨(some 7), .faddr 1 (.t 1), none, []⟩,
    ⟨(some 8), .load 1 false (.t 7), none, [0]⟩,
    ⟨(some 9), .bin .eql (.t 8) (.c (.d (.str []))), none, [0, 1]⟩,
    ⟨(some 10), .faddr 2 (.t 1), none, []⟩,
    ⟨(some 11), .load 1 false (.t 10), none, [3]⟩,
    ⟨(some 12), .bin .eql (.t 11) (.c (.d (.int .i64 (0)))), none, [3, 4]⟩,
    ⟨(some 13), .faddr 3 (.t 1), none, []⟩,
    ⟨(some 14), .load 1 false (.t 13), none, [6]⟩,
    ⟨(some 15), .bin .eql (.t 14) (.c (.d (.int .i64 (0)))), none, [6, 7]⟩,
    ⟨(some 16), .faddr 4 (.t 1), none, []⟩,
    ⟨(some 17), .load 1 false (.t 16), none, [9]⟩,
    ⟨(some 18), .bin .eql (.t 17) (.c (.d (.int .i64 (0)))), none, [9, 10]⟩,
    ⟨(some 3), .mov (.t 9), none, [0, 1, 2]⟩,
    ⟨(some 4), .mov (.t 12), none, [0, 1, 2, 3, 4, 5, 12]⟩,
    ⟨(some 5), .mov (.t 15), none, [0, 1, 2, 3, 4, 5, 6, 7, 8, 12, 13]⟩,
    ⟨(some 6), .mov (.t 18), none, [0, 1, 2, 3, 4, 5, 6, 7, 8, 9, 10, 11, 12, 13, 14]⟩] true)
  (.seq (.seq (.region 2 [
    ⟨(some 19), .faddr 0 (.t 1), none, []⟩,
    ⟨(some 20), .load 1 false (.t 19), none, []⟩] false)
  (.block 0 (.seq (.block 6 (.seq (.block 5 (.seq (.block 4 (.seq (.block 3 (.seq (.block 2 (.seq (.block 1 (.seq (.seq (.seq (.region 3 [
    ⟨(some 22), .bin .eql (.t 20) (.c (.d (.int .i64 (1)))), none, []⟩,
    ⟨(some 21), .mov (.t 22), none, []⟩] false)
  (.cond (.t 21)
    (.mask ⟨[1, 3, 5, 6], []⟩ (.exit 1))
    (.skip)))
  (.mask ⟨[1, 3, 4, 5, 6, 20], []⟩ (.seq (.seq (.region 4 [
    ⟨(some 24), .bin .eql (.t 20) (.c (.d (.int .i64 (2)))), none, []⟩,
    ⟨(some 23), .mov (.t 24), none, []⟩] false)
  (.cond (.t 23)
    (.mask ⟨[1, 3, 5, 6], []⟩ (.exit 2))
    (.skip)))
  (.mask ⟨[1, 3, 4, 5, 6, 20], []⟩ (.seq (.seq (.region 5 [
    ⟨(some 26), .bin .eql (.t 20) (.c (.d (.int .i64 (3)))), none, []⟩,
    ⟨(some 25), .mov (.t 26), none, []⟩] false)
  (.cond (.t 25)
    (.mask ⟨[1, 4, 5, 6], []⟩ (.exit 3))
    (.skip)))
  (.mask ⟨[1, 3, 4, 5, 6, 20], []⟩ (.seq (.seq (.region 6 [
    ⟨(some 28), .bin .eql (.t 20) (.c (.d (.int .i64 (13)))), none, []⟩,
    ⟨(some 27), .mov (.t 28), none, []⟩] false)
  (.cond (.t 27)
    (.mask ⟨[1, 4, 5], []⟩ (.exit 4))
    (.skip)))
  (.mask ⟨[1, 3, 4, 5, 6, 20], []⟩ (.seq (.seq (.seq (.region 7 [
    ⟨(some 30), .bin .eql (.t 20) (.c (.d (.int .i64 (5)))), none, []⟩,
    ⟨(some 29), .mov (.t 30), none, []⟩] false)
  (.cond (.t 29)
    (.skip)
    (.seq (.region 8 [
      ⟨(some 31), .bin .eql (.t 20) (.c (.d (.int .i64 (6)))), none, []⟩,
      ⟨(some 29), .mov (.t 31), none, []⟩] false)
    (.cond (.t 29)
      (.skip)
      (.region 9 [
        ⟨(some 32), .bin .eql (.t 20) (.c (.d (.int .i64 (21)))), none, []⟩,
        ⟨(some 29), .mov (.t 32), none, []⟩] false)))))
  (.mask ⟨[1, 3, 4, 5, 6, 20, 29], []⟩ (.cond (.t 29)
    (.mask ⟨[1, 4, 5, 6], []⟩ (.exit 5))
    (.skip))))
  (.mask ⟨[1, 3, 4, 5, 6, 20], []⟩ (.seq (.seq (.region 10 [
    ⟨(some 34), .bin .eql (.t 20) (.c (.d (.int .i64 (22)))), none, []⟩,
    ⟨(some 33), .mov (.t 34), none, []⟩] false)
  (.cond (.t 33)
    (.skip)
    (.seq (.region 11 [
      ⟨(some 35), .bin .eql (.t 20) (.c (.d (.int .i64 (23)))), none, []⟩,
      ⟨(some 33), .mov (.t 35), none, []⟩] false)
    (.cond (.t 33)
      (.skip)
      (.region 12 [
        ⟨(some 36), .bin .eql (.t 20) (.c (.d (.int .i64 (24)))), none, []⟩,
        ⟨(some 33), .mov (.t 36), none, []⟩] false)))))
  (.mask ⟨[1, 3, 4, 5, 6, 33], []⟩ (.cond (.t 33)
    (.mask ⟨[1, 3, 4], []⟩ (.exit 6))
    (.skip))))))))))))))
  (.mask ⟨[3, 4, 5, 6], []⟩ (.exit 0))))
  (.mask ⟨[1, 3, 5, 6], []⟩ (.seq (.region 13 [
    ⟨(some 37), .faddr 2 (.t 1), none, []⟩,
    ⟨(some 38), .load 1 false (.t 37), none, []⟩,
    ⟨(some 39), .bin .geq (.t 38) (.c (.d (.int .i64 (0)))), none, []⟩,
    ⟨(some 4), .mov (.t 39), none, []⟩] false)
  (.mask ⟨[3, 4, 5, 6], []⟩ (.exit 0))))))
  (.mask ⟨[1, 3, 5, 6], []⟩ (.seq (.region 14 [
    ⟨(some 40), .faddr 2 (.t 1), none, []⟩,
    ⟨(some 41), .load 1 false (.t 40), none, []⟩,
    ⟨(some 42), .bin .eql (.t 41) (.c (.d (.int .i64 (0)))), none, []⟩,
    ⟨(some 43), .mov (.t 42), none, []⟩,
    ⟨(some 44), .faddr 2 (.t 1), (some (43, false)), []⟩,
    ⟨(some 45), .load 1 false (.t 44), (some (43, false)), []⟩,
    ⟨(some 46), .bin .eql (.t 45) (.c (.d (.int .i64 (1)))), (some (43, false)), []⟩,
    ⟨(some 47), .pick (.t 43) (.c (.d (.bool true))) (.t 46), none, []⟩,
    ⟨(some 4), .mov (.t 47), none, []⟩] false)
  (.mask ⟨[3, 4, 5, 6], []⟩ (.exit 0))))))
  (.mask ⟨[1, 4, 5, 6], []⟩ (.seq (.region 15 [
    ⟨(some 48), .faddr 1 (.t 1), none, []⟩,
    ⟨(some 49), .load 1 false (.t 48), none, []⟩,
    ⟨(some 50), .call (.c (.fn F_lex_Plain [])) [(.t 49)], none, []⟩,
    ⟨(some 3), .mov (.t 50), none, []⟩] false)
  (.mask ⟨[3, 4, 5, 6], []⟩ (.exit 0))))))
  (.mask ⟨[1, 4, 5], []⟩ (.region 16 [
    ⟨(some 51), .faddr 4 (.t 1), none, []⟩,
    ⟨(some 52), .load 1 false (.t 51), none, []⟩,
    ⟨(some 53), .bin .geq (.t 52) (.c (.d (.int .i64 (0)))), none, []⟩,
    ⟨(some 6), .mov (.t 53), none, []⟩] false))))
  (.mask ⟨[1, 4, 5, 6], []⟩ (.seq (.region 17 [
    ⟨(some 54), .faddr 1 (.t 1), none, []⟩,
    ⟨(some 55), .load 1 false (.t 54), none, []⟩,
    ⟨(some 56), .call (.c (.fn F_lex_Name [])) [(.t 55)], none, []⟩,
    ⟨(some 3), .mov (.t 56), none, []⟩] false)
  (.mask ⟨[3, 4, 5, 6], []⟩ (.exit 0))))))
  (.mask ⟨[1, 3, 4], []⟩ (.seq (.region 18 [
    ⟨(some 57), .load 6 true (.t 1), none, []⟩,
    ⟨(some 58), .call (.c (.fn F_ast_span [])) [(.t 57)], none, []⟩,
    ⟨(some 5), .mov (.t 58), none, []⟩,
    ⟨(some 6), .mov (.c (.d (.bool true))), none, []⟩] false)
  (.mask ⟨[3, 4, 5, 6], []⟩ (.exit 0)))))))
  (.mask ⟨[3, 4, 5, 6], []⟩ (.seq (.region 19 [
    ⟨(some 59), .mov (.t 3), none, []⟩,
    ⟨(some 60), .mov (.t 59), none, []⟩,
    ⟨(some 61), .mov (.t 4), (some (60, true)), []⟩,
    ⟨(some 62), .pick (.t 60) (.t 61) (.c (.d (.bool false))), none, []⟩,
    ⟨(some 63), .mov (.t 62), none, []⟩,
    ⟨(some 64), .mov (.t 5), (some (63, true)), []⟩,
    ⟨(some 65), .pick (.t 63) (.t 64) (.c (.d (.bool false))), none, []⟩,
    ⟨(some 66), .mov (.t 65), none, []⟩,
    ⟨(some 67), .mov (.t 6), (some (66, true)), []⟩,
    ⟨(some 68), .pick (.t 66) (.t 67) (.c (.d (.bool false))), none, []⟩,
    ⟨(some 2), .mov (.t 68), none, []⟩] false)
  (.mask ⟨[2], []⟩ (.ret))))))⟩
def mask_ast_texts_0 : Mask := ⟨[0, 5, 6, 7], []⟩
def body_ast_texts_0 : ACode :=
  .seq (.region 2 [
    ⟨(some 8), .bin .lss (.t 7) (.t 6), none, []⟩] false)
  (.seq (.cond (.t 8)
    (.skip)
    (.mask ⟨[0], []⟩ (.exit 0)))
  (.mask ⟨[0, 5, 6, 7], []⟩ (.seq (.block 1 (.seq (.region 3 [
    ⟨(some 9), .mov (.t 7), none, []⟩,
    ⟨(some 10), .iaddr 6 (.t 5) (.t 7), none, []⟩,
    ⟨(some 11), .load 6 true (.t 10), none, []⟩,
    ⟨(some 4), .box 6 (.c (.agg [(.d (.int .i64 (0))), (.d (.str [])), (.d (.int .i64 (0))), (.d (.int .i64 (0))), (.d (.int .i64 (0))), (.d (.vs true []))])), none, []⟩,
    ⟨(some 3), .mov (.t 9), none, []⟩,
    ⟨none, .store 6 (.t 4) (.t 11), none, []⟩] false)
  (.seq (.region 4 [
    ⟨(some 12), .faddr 0 (.t 4), none, []⟩,
    ⟨(some 13), .load 1 false (.t 12), none, [0]⟩,
    ⟨(some 14), .bin .neq (.t 13) (.c (.d (.int .i64 (3)))), none, [0, 1]⟩,
    ⟨(some 15), .mov (.t 14), none, [0, 1, 2]⟩,
    ⟨(some 16), .load 6 true (.t 4), (some (15, false)), [0, 1, 2, 3]⟩,
    ⟨(some 17), .call (.c (.fn F_ast_may [])) [(.t 16)], (some (15, false)), [0, 1, 2, 3, 4]⟩,
    ⟨(some 18), .un .not (.t 17), (some (15, false)), [0, 1, 2, 3, 4, 5]⟩,
    ⟨(some 19), .pick (.t 15) (.c (.d (.bool true))) (.t 18), none, [0, 1, 2, 3, 4, 5, 6]⟩,
    ⟨(some 20), .mov (.t 19), none, [0, 1, 2, 3, 4, 5, 6, 7]⟩,
    ⟨(some 21), .mov (.t 3), (some (20, false)), [0, 1, 2, 3, 4, 5, 6, 7, 8]⟩,
    ⟨(some 22), .bin .gtr (.t 21) (.c (.d (.int .i64 (0)))), (some (20, false)), [0, 1, 2, 3, 4, 5, 6, 7, 8, 9]⟩,
    ⟨(some 23), .mov (.t 22), (some (20, false)), [0, 1, 2, 3, 4, 5, 6, 7, 8, 9, 10]⟩,
    ⟨(some 24), .faddr 1 (.t 4), (some (23, true)), [0, 1, 2, 3, 4, 5, 6, 7, 8, 9, 10, 11]⟩,
    ⟨(some 25), .load 1 false (.t 24), (some (23, true)), [0, 1, 2, 3, 4, 5, 6, 7, 8, 9, 10, 11, 12]⟩,
    ⟨(some 26), .mov (.t 0), (some (23, true)), [0, 1, 2, 3, 4, 5, 6, 7, 8, 9, 10, 11]⟩,
    ⟨(some 27), .mov (.t 3), (some (23, true)), [0, 1, 2, 3, 4, 5, 6, 7, 8, 9, 10, 11]⟩,
    ⟨(some 28), .bin .sub (.t 27) (.c (.d (.int .i64 (1)))), (some (23, true)), [0, 1, 2, 3, 4, 5, 6, 7, 8, 9, 10, 11, 15]⟩,
    ⟨(some 29), .iaddr 6 (.t 26) (.t 28), (some (23, true)), [0, 1, 2, 3, 4, 5, 6, 7, 8, 9, 10, 11, 14, 15, 16]⟩,
    ⟨(some 30), .faddr 1 (.t 29), (some (23, true)), [0, 1, 2, 3, 4, 5, 6, 7, 8, 9, 10, 11, 14, 15, 16, 17]⟩,
    ⟨(some 31), .load 1 false (.t 30), (some (23, true)), [0, 1, 2, 3, 4, 5, 6, 7, 8, 9, 10, 11, 14, 15, 16, 17, 18]⟩,
    ⟨(some 32), .bin .leq (.t 25) (.t 31), (some (23, true)), [0, 1, 2, 3, 4, 5, 6, 7, 8, 9, 10, 11, 12, 13, 14, 15, 16, 17, 18, 19]⟩,
    ⟨(some 33), .pick (.t 23) (.t 32) (.c (.d (.bool false))), (some (20, false)), [0, 1, 2, 3, 4, 5, 6, 7, 8, 9, 10, 11, 12, 13, 14, 15, 16, 17, 18, 19, 20]⟩,
    ⟨(some 34), .pick (.t 20) (.c (.d (.bool true))) (.t 33), none, [0, 1, 2, 3, 4, 5, 6, 7, 8, 9, 10, 11, 12, 13, 14, 15, 16, 17, 18, 19, 20, 21]⟩] true)
  (.mask ⟨[0, 5, 6, 7, 34], []⟩ (.cond (.t 34)
    (.seq (.region 5 [
      ⟨(some 2), .mov (.c (.d (.bool false))), none, []⟩] false)
    (.mask ⟨[2], []⟩ (.ret)))
    (.skip))))))
  (.mask ⟨[0, 5, 6, 7], []⟩ (.region 6 [
    ⟨(some 35), .bin .add (.t 7) (.c (.d (.int .i64 (1)))), none, []⟩,
    ⟨(some 7), .mov (.t 35), none, []⟩] false)))))
/-- beadle/ast.texts -/
def code_ast_texts : AFunc := ⟨39, [.tmp 2],
  .seq (.region 0 [
    ⟨(some 2), .mov (.c (.d (.bool false))), none, []⟩] false)
  (.seq (.seq (.region 1 [
    ⟨(some 5), .mov (.t 0), none, []⟩,
    ⟨(some 6), .len .sl (.t 5), none, []⟩,
    ⟨(some 7), .mov (.c (.d (.int .i64 (0)))), none, []⟩] false)
  (.block 0 (.loop mask_ast_texts_0 body_ast_texts_0)))
  (.mask ⟨[0], []⟩ (.seq (.region 7 [
    ⟨(some 36), .mov (.t 0), none, []⟩,
    ⟨(some 37), .len .sl (.t 36), none, []⟩,
    ⟨(some 38), .bin .leq (.t 37) (.c (.d (.int .i64 (8)))), none, []⟩,
    ⟨(some 2), .mov (.t 38), none, []⟩] false)
  (.mask ⟨[2], []⟩ (.ret)))))⟩
/-- beadle/ast.may$1 -/
def code_ast_may_1 : AFunc := ⟨6, [.tmp 2],
  .seq (.region 0 [
    ⟨(some 1), .box 6 (.t 0), none, []⟩,
    ⟨(some 2), .mov (.c (.d (.bool false))), none, []⟩] false)
  (.seq (.region 1 [
    ⟨(some 3), .load 6 true (.t 1), none, []⟩,
    ⟨(some 4), .call (.c (.fn F_ast_may [])) [(.t 3)], none, []⟩,
    ⟨(some 5), .un .not (.t 4), none, []⟩,
    ⟨(some 2), .mov (.t 5), none, []⟩] false)
  (.mask ⟨[2], []⟩ (.ret)))⟩
def mask_ref06_Plain_0 : Mask := ⟨[0, 3], []⟩
def body_ref06_Plain_0 : ACode :=
  .seq (.seq (.region 4 [
    ⟨(some 7), .mov (.t 3), none, []⟩,
    ⟨(some 8), .mov (.t 0), none, []⟩,
    ⟨(some 9), .len .str (.t 8), none, []⟩,
    ⟨(some 10), .bin .lss (.t 7) (.t 9), none, []⟩] false)
  (.cond (.t 10)
    (.skip)
    (.mask ⟨[], []⟩ (.exit 0))))
  (.mask ⟨[0, 3], []⟩ (.seq (.block 1 (.seq (.region 6 [
    ⟨(some 13), .mov (.t 0), none, []⟩,
    ⟨(some 14), .mov (.t 3), none, []⟩,
    ⟨(some 15), .idx (.t 13) (.t 14), none, []⟩,
    ⟨(some 16), .bin .eql (.t 15) (.c (.d (.int .u8 (34)))), none, []⟩,
    ⟨(some 17), .mov (.t 16), none, []⟩,
    ⟨(some 18), .mov (.t 0), (some (17, false)), []⟩,
    ⟨(some 19), .mov (.t 3), (some (17, false)), []⟩,
    ⟨(some 20), .idx (.t 18) (.t 19), (some (17, false)), []⟩,
    ⟨(some 21), .bin .eql (.t 20) (.c (.d (.int .u8 (10)))), (some (17, false)), []⟩,
    ⟨(some 22), .pick (.t 17) (.c (.d (.bool true))) (.t 21), none, []⟩] false)
  (.mask ⟨[0, 3, 22], []⟩ (.cond (.t 22)
    (.seq (.region 7 [
      ⟨(some 2), .mov (.c (.d (.bool false))), none, []⟩] false)
    (.mask ⟨[2], []⟩ (.ret)))
    (.skip)))))
  (.mask ⟨[0, 3], []⟩ (.region 5 [
    ⟨(some 11), .mov (.t 3), none, []⟩,
    ⟨(some 12), .bin .add (.t 11) (.c (.d (.int .i64 (1)))), none, []⟩,
    ⟨(some 3), .mov (.t 12), none, []⟩] false))))
/-- beadle/beadleref06.Plain -/
def code_ref06_Plain : AFunc := ⟨23, [.tmp 2],
  .seq (.region 0 [
    ⟨(some 2), .mov (.c (.d (.bool false))), none, []⟩] false)
  (.seq (.seq (.region 1 [
    ⟨(some 4), .mov (.t 0), none, []⟩,
    ⟨(some 5), .len .str (.t 4), none, []⟩,
    ⟨(some 6), .bin .gtr (.t 5) (.c (.d (.int .i64 (32)))), none, []⟩] false)
  (.cond (.t 6)
    (.seq (.region 2 [
      ⟨(some 2), .mov (.c (.d (.bool false))), none, []⟩] false)
    (.mask ⟨[2], []⟩ (.ret)))
    (.skip)))
  (.mask ⟨[0], []⟩ (.seq (.seq (.region 3 [
    ⟨(some 3), .mov (.c (.d (.int .i64 (0)))), none, []⟩] false)
  (.block 0 (.loop mask_ref06_Plain_0 body_ref06_Plain_0)))
  (.mask ⟨[], []⟩ (.seq (.region 8 [
    ⟨(some 2), .mov (.c (.d (.bool true))), none, []⟩] false)
  (.mask ⟨[2], []⟩ (.ret)))))))⟩
def mask_ref06_Name_0 : Mask := ⟨[0, 3], []⟩
def body_ref06_Name_0 : ACode :=
  .seq (.seq (.region 4 [
    ⟨(some 17), .mov (.t 3), none, []⟩,
    ⟨(some 18), .mov (.t 0), none, []⟩,
    ⟨(some 19), .len .str (.t 18), none, []⟩,
    ⟨(some 20), .bin .lss (.t 17) (.t 19), none, []⟩] false)
  (.cond (.t 20)
    (.skip)
    (.mask ⟨[], []⟩ (.exit 0))))
  (.mask ⟨[0, 3], []⟩ (.seq (.block 1 (.seq (.region 6 [
    ⟨(some 23), .mov (.t 0), none, []⟩,
    ⟨(some 24), .mov (.t 3), none, []⟩,
    ⟨(some 25), .idx (.t 23) (.t 24), none, []⟩,
    ⟨(some 26), .call (.c (.fn F_ref06_tail [])) [(.t 25)], none, []⟩,
    ⟨(some 27), .un .not (.t 26), none, []⟩] false)
  (.cond (.t 27)
    (.seq (.region 7 [
      ⟨(some 2), .mov (.c (.d (.bool false))), none, []⟩] false)
    (.mask ⟨[2], []⟩ (.ret)))
    (.skip))))
  (.mask ⟨[0, 3], []⟩ (.region 5 [
    ⟨(some 21), .mov (.t 3), none, []⟩,
    ⟨(some 22), .bin .add (.t 21) (.c (.d (.int .i64 (1)))), none, []⟩,
    ⟨(some 3), .mov (.t 22), none, []⟩] false))))
/-- beadle/beadleref06.Name -/
def code_ref06_Name : AFunc := ⟨28, [.tmp 2],
  .seq (.region 0 [
    ⟨(some 2), .mov (.c (.d (.bool false))), none, []⟩] false)
  (.seq (.seq (.region 1 [
    ⟨(some 4), .mov (.t 0), none, []⟩,
    ⟨(some 5), .bin .eql (.t 4) (.c (.d (.str []))), none, []⟩,
    ⟨(some 6), .mov (.t 5), none, []⟩,
    ⟨(some 7), .mov (.t 0), (some (6, false)), []⟩,
    ⟨(some 8), .len .str (.t 7), (some (6, false)), []⟩,
    ⟨(some 9), .bin .gtr (.t 8) (.c (.d (.int .i64 (16)))), (some (6, false)), []⟩,
    ⟨(some 10), .pick (.t 6) (.c (.d (.bool true))) (.t 9), none, []⟩,
    ⟨(some 11), .mov (.t 10), none, []⟩,
    ⟨(some 12), .mov (.t 0), (some (11, false)), []⟩,
    ⟨(some 13), .idx (.t 12) (.c (.d (.int .i64 (0)))), (some (11, false)), []⟩,
    ⟨(some 14), .call (.c (.fn F_ref06_head [])) [(.t 13)], (some (11, false)), []⟩,
    ⟨(some 15), .un .not (.t 14), (some (11, false)), []⟩,
    ⟨(some 16), .pick (.t 11) (.c (.d (.bool true))) (.t 15), none, []⟩] false)
  (.mask ⟨[0, 16], []⟩ (.cond (.t 16)
    (.seq (.region 2 [
      ⟨(some 2), .mov (.c (.d (.bool false))), none, []⟩] false)
    (.mask ⟨[2], []⟩ (.ret)))
    (.skip))))
  (.mask ⟨[0], []⟩ (.seq (.seq (.region 3 [
    ⟨(some 3), .mov (.c (.d (.int .i64 (1)))), none, []⟩] false)
  (.block 0 (.loop mask_ref06_Name_0 body_ref06_Name_0)))
  (.mask ⟨[], []⟩ (.seq (.region 8 [
    ⟨(some 2), .mov (.c (.d (.bool true))), none, []⟩] false)
  (.mask ⟨[2], []⟩ (.ret)))))))⟩
def mask_slices_IndexFunc_api_Expr_api_Expr_0 : Mask := ⟨[0, 1, 7, 8], []⟩
def body_slices_IndexFunc_api_Expr_api_Expr_0 : ACode :=
  .seq (.region 2 [
    ⟨(some 9), .bin .lss (.t 8) (.t 7), none, []⟩] false)
  (.seq (.cond (.t 9)
    (.skip)
    (.mask ⟨[], []⟩ (.exit 0)))
  (.mask ⟨[0, 1, 7, 8], []⟩ (.seq (.block 1 (.seq (.region 3 [
    ⟨(some 10), .mov (.t 8), none, []⟩,
    ⟨(some 5), .mov (.t 10), none, []⟩] false)
  (.seq (.region 4 [
    ⟨(some 11), .mov (.t 1), none, []⟩,
    ⟨(some 12), .mov (.t 0), none, []⟩,
    ⟨(some 13), .mov (.t 5), none, []⟩,
    ⟨(some 14), .iaddr 6 (.t 12) (.t 13), none, []⟩,
    ⟨(some 15), .load 6 true (.t 14), none, []⟩,
    ⟨(some 16), .call (.t 11) [(.t 15)], none, []⟩] false)
  (.cond (.t 16)
    (.seq (.region 5 [
      ⟨(some 17), .mov (.t 5), none, []⟩,
      ⟨(some 4), .mov (.t 17), none, []⟩] false)
    (.mask ⟨[4], []⟩ (.ret)))
    (.skip)))))
  (.mask ⟨[0, 1, 7, 8], []⟩ (.region 6 [
    ⟨(some 18), .bin .add (.t 8) (.c (.d (.int .i64 (1)))), none, []⟩,
    ⟨(some 8), .mov (.t 18), none, []⟩] false)))))
/-- slices.IndexFunc[[]beadle/api.Expr,beadle/api.Expr] -/
def code_slices_IndexFunc_api_Expr_api_Expr : AFunc := ⟨19, [.tmp 4],
  .seq (.region 0 [
    ⟨(some 4), .mov (.c (.d (.int .i64 (0)))), none, []⟩] false)
  (.seq (.seq (.region 1 [
    ⟨(some 6), .mov (.t 0), none, []⟩,
    ⟨(some 7), .len .sl (.t 6), none, []⟩,
    ⟨(some 8), .mov (.c (.d (.int .i64 (0)))), none, []⟩] false)
  (.block 0 (.loop mask_slices_IndexFunc_api_Expr_api_Expr_0 body_slices_IndexFunc_api_Expr_api_Expr_0)))
  (.mask ⟨[], []⟩ (.seq (.region 7 [
    ⟨(some 4), .mov (.c (.d (.int .i64 (-1)))), none, []⟩] false)
  (.mask ⟨[4], []⟩ (.ret)))))⟩
def mask_slices_IndexFunc_string_string_0 : Mask := ⟨[0, 1, 7, 8], []⟩
def body_slices_IndexFunc_string_string_0 : ACode :=
  .seq (.region 2 [
    ⟨(some 9), .bin .lss (.t 8) (.t 7), none, []⟩] false)
  (.seq (.cond (.t 9)
    (.skip)
    (.mask ⟨[], []⟩ (.exit 0)))
  (.mask ⟨[0, 1, 7, 8], []⟩ (.seq (.block 1 (.seq (.region 3 [
    ⟨(some 10), .mov (.t 8), none, []⟩,
    ⟨(some 5), .mov (.t 10), none, []⟩] false)
  (.seq (.region 4 [
    ⟨(some 11), .mov (.t 1), none, []⟩,
    ⟨(some 12), .mov (.t 0), none, []⟩,
    ⟨(some 13), .mov (.t 5), none, []⟩,
    ⟨(some 14), .iaddr 1 (.t 12) (.t 13), none, []⟩,
    ⟨(some 15), .load 1 false (.t 14), none, []⟩,
    ⟨(some 16), .call (.t 11) [(.t 15)], none, []⟩] false)
  (.cond (.t 16)
    (.seq (.region 5 [
      ⟨(some 17), .mov (.t 5), none, []⟩,
      ⟨(some 4), .mov (.t 17), none, []⟩] false)
    (.mask ⟨[4], []⟩ (.ret)))
    (.skip)))))
  (.mask ⟨[0, 1, 7, 8], []⟩ (.region 6 [
    ⟨(some 18), .bin .add (.t 8) (.c (.d (.int .i64 (1)))), none, []⟩,
    ⟨(some 8), .mov (.t 18), none, []⟩] false)))))
/-- slices.IndexFunc[[]string,string] -/
def code_slices_IndexFunc_string_string : AFunc := ⟨19, [.tmp 4],
  .seq (.region 0 [
    ⟨(some 4), .mov (.c (.d (.int .i64 (0)))), none, []⟩] false)
  (.seq (.seq (.region 1 [
    ⟨(some 6), .mov (.t 0), none, []⟩,
    ⟨(some 7), .len .sl (.t 6), none, []⟩,
    ⟨(some 8), .mov (.c (.d (.int .i64 (0)))), none, []⟩] false)
  (.block 0 (.loop mask_slices_IndexFunc_string_string_0 body_slices_IndexFunc_string_string_0)))
  (.mask ⟨[], []⟩ (.seq (.region 7 [
    ⟨(some 4), .mov (.c (.d (.int .i64 (-1)))), none, []⟩] false)
  (.mask ⟨[4], []⟩ (.ret)))))⟩
def mask_value_rises_0 : Mask := ⟨[0, 3], []⟩
def body_value_rises_0 : ACode :=
  .seq (.seq (.region 2 [
    ⟨(some 4), .mov (.t 3), none, []⟩,
    ⟨(some 5), .mov (.t 0), none, []⟩,
    ⟨(some 6), .len .sl (.t 5), none, []⟩,
    ⟨(some 7), .bin .lss (.t 4) (.t 6), none, []⟩] false)
  (.cond (.t 7)
    (.skip)
    (.mask ⟨[], []⟩ (.exit 0))))
  (.mask ⟨[0, 3], []⟩ (.seq (.block 1 (.seq (.region 4 [
    ⟨(some 10), .mov (.t 0), none, []⟩,
    ⟨(some 11), .mov (.t 3), none, []⟩,
    ⟨(some 12), .iaddr 1 (.t 10) (.t 11), none, [0, 1]⟩,
    ⟨(some 13), .load 1 false (.t 12), none, [0, 1, 2]⟩,
    ⟨(some 14), .mov (.t 0), none, []⟩,
    ⟨(some 15), .mov (.t 3), none, []⟩,
    ⟨(some 16), .bin .sub (.t 15) (.c (.d (.int .i64 (1)))), none, [5]⟩,
    ⟨(some 17), .iaddr 1 (.t 14) (.t 16), none, [4, 5, 6]⟩,
    ⟨(some 18), .load 1 false (.t 17), none, [4, 5, 6, 7]⟩,
    ⟨(some 19), .bin .leq (.t 13) (.t 18), none, [0, 1, 2, 3, 4, 5, 6, 7, 8]⟩] true)
  (.cond (.t 19)
    (.seq (.region 5 [
      ⟨(some 2), .mov (.c (.d (.bool false))), none, []⟩] false)
    (.mask ⟨[2], []⟩ (.ret)))
    (.skip))))
  (.mask ⟨[0, 3], []⟩ (.region 3 [
    ⟨(some 8), .mov (.t 3), none, []⟩,
    ⟨(some 9), .bin .add (.t 8) (.c (.d (.int .i64 (1)))), none, []⟩,
    ⟨(some 3), .mov (.t 9), none, []⟩] false))))
/-- beadle/value.rises -/
def code_value_rises : AFunc := ⟨20, [.tmp 2],
  .seq (.region 0 [
    ⟨(some 2), .mov (.c (.d (.bool false))), none, []⟩] false)
  (.seq (.seq (.region 1 [
    ⟨(some 3), .mov (.c (.d (.int .i64 (1)))), none, []⟩] false)
  (.block 0 (.loop mask_value_rises_0 body_value_rises_0)))
  (.mask ⟨[], []⟩ (.seq (.region 6 [
    ⟨(some 2), .mov (.c (.d (.bool true))), none, []⟩] false)
  (.mask ⟨[2], []⟩ (.ret)))))⟩
/-- beadle/lex.Plain -/
def code_lex_Plain : AFunc := ⟨16, [.tmp 2],
  .seq (.region 0 [
    ⟨(some 2), .mov (.c (.d (.bool false))), none, []⟩] false)
  (.seq (.region 1 [
    ⟨(some 3), .mov (.t 0), none, []⟩,
    ⟨(some 4), .len .str (.t 3), none, []⟩,
    ⟨(some 5), .bin .leq (.t 4) (.c (.d (.int .i64 (32)))), none, []⟩,
    ⟨(some 6), .mov (.t 5), none, []⟩,
    ⟨(some 7), .mov (.t 0), (some (6, true)), []⟩,
    ⟨(some 8), .call (.c (.fn F_strings_IndexByte [])) [(.t 7), (.c (.d (.int .u8 (34))))], (some (6, true)), []⟩,
    ⟨(some 9), .bin .lss (.t 8) (.c (.d (.int .i64 (0)))), (some (6, true)), []⟩,
    ⟨(some 10), .pick (.t 6) (.t 9) (.c (.d (.bool false))), none, []⟩,
    ⟨(some 11), .mov (.t 10), none, []⟩,
    ⟨(some 12), .mov (.t 0), (some (11, true)), []⟩,
    ⟨(some 13), .call (.c (.fn F_strings_IndexByte [])) [(.t 12), (.c (.d (.int .u8 (10))))], (some (11, true)), []⟩,
    ⟨(some 14), .bin .lss (.t 13) (.c (.d (.int .i64 (0)))), (some (11, true)), []⟩,
    ⟨(some 15), .pick (.t 11) (.t 14) (.c (.d (.bool false))), none, []⟩,
    ⟨(some 2), .mov (.t 15), none, []⟩] false)
  (.mask ⟨[2], []⟩ (.ret)))⟩
def mask_lex_Name_0 : Mask := ⟨[0, 5, 6], []⟩
def body_lex_Name_0 : ACode :=
  .seq (.region 2 [
    ⟨(some 7), .bin .lss (.t 6) (.t 5), none, []⟩] false)
  (.seq (.cond (.t 7)
    (.skip)
    (.mask ⟨[0], []⟩ (.exit 0)))
  (.mask ⟨[0, 5, 6], []⟩ (.seq (.block 1 (.seq (.region 3 [
    ⟨(some 8), .mov (.t 6), none, []⟩,
    ⟨(some 3), .mov (.t 8), none, []⟩] false)
  (.seq (.region 4 [
    ⟨(some 9), .mov (.t 0), none, []⟩,
    ⟨(some 10), .mov (.t 3), none, []⟩,
    ⟨(some 11), .idx (.t 9) (.t 10), none, []⟩,
    ⟨(some 12), .call (.c (.fn F_lex_letter [])) [(.t 11)], none, []⟩,
    ⟨(some 13), .un .not (.t 12), none, []⟩,
    ⟨(some 14), .mov (.t 13), none, []⟩,
    ⟨(some 15), .mov (.t 3), (some (14, true)), []⟩,
    ⟨(some 16), .bin .eql (.t 15) (.c (.d (.int .i64 (0)))), (some (14, true)), []⟩,
    ⟨(some 17), .mov (.t 16), (some (14, true)), []⟩,
    ⟨(some 18), .mov (.t 0), (some (17, false)), []⟩,
    ⟨(some 19), .mov (.t 3), (some (17, false)), []⟩,
    ⟨(some 20), .idx (.t 18) (.t 19), (some (17, false)), []⟩,
    ⟨(some 21), .call (.c (.fn F_lex_digit [])) [(.t 20)], (some (17, false)), []⟩,
    ⟨(some 22), .un .not (.t 21), (some (17, false)), []⟩,
    ⟨(some 23), .pick (.t 17) (.c (.d (.bool true))) (.t 22), (some (14, true)), []⟩,
    ⟨(some 24), .pick (.t 14) (.t 23) (.c (.d (.bool false))), none, []⟩] false)
  (.mask ⟨[0, 5, 6, 24], []⟩ (.cond (.t 24)
    (.seq (.region 5 [
      ⟨(some 2), .mov (.c (.d (.bool false))), none, []⟩] false)
    (.mask ⟨[2], []⟩ (.ret)))
    (.skip))))))
  (.mask ⟨[0, 5, 6], []⟩ (.region 6 [
    ⟨(some 25), .bin .add (.t 6) (.c (.d (.int .i64 (1)))), none, []⟩,
    ⟨(some 6), .mov (.t 25), none, []⟩] false)))))
/-- beadle/lex.Name -/
def code_lex_Name : AFunc := ⟨33, [.tmp 2],
  .seq (.region 0 [
    ⟨(some 2), .mov (.c (.d (.bool false))), none, []⟩] false)
  (.seq (.seq (.region 1 [
    ⟨(some 4), .mov (.t 0), none, []⟩,
    ⟨(some 5), .len .str (.t 4), none, []⟩,
    ⟨(some 6), .mov (.c (.d (.int .i64 (0)))), none, []⟩] false)
  (.block 0 (.loop mask_lex_Name_0 body_lex_Name_0)))
  (.mask ⟨[0], []⟩ (.seq (.region 7 [
    ⟨(some 26), .mov (.t 0), none, []⟩,
    ⟨(some 27), .bin .neq (.t 26) (.c (.d (.str []))), none, []⟩,
    ⟨(some 28), .mov (.t 27), none, []⟩,
    ⟨(some 29), .mov (.t 0), (some (28, true)), []⟩,
    ⟨(some 30), .len .str (.t 29), (some (28, true)), []⟩,
    ⟨(some 31), .bin .leq (.t 30) (.c (.d (.int .i64 (16)))), (some (28, true)), []⟩,
    ⟨(some 32), .pick (.t 28) (.t 31) (.c (.d (.bool false))), none, []⟩,
    ⟨(some 2), .mov (.t 32), none, []⟩] false)
  (.mask ⟨[2], []⟩ (.ret)))))⟩
/-- beadle/ast.span -/
def code_ast_span : AFunc := ⟨18, [.tmp 2],
  .seq (.region 0 [
    ⟨(some 1), .box 6 (.t 0), none, []⟩,
    ⟨(some 2), .mov (.c (.d (.bool false))), none, []⟩] false)
  (.seq (.region 1 [
    ⟨(some 3), .faddr 3 (.t 1), none, []⟩,
    ⟨(some 4), .load 1 false (.t 3), none, []⟩,
    ⟨(some 5), .bin .geq (.t 4) (.c (.d (.int .i64 (0)))), none, []⟩,
    ⟨(some 6), .mov (.t 5), none, []⟩,
    ⟨(some 7), .faddr 4 (.t 1), (some (6, true)), []⟩,
    ⟨(some 8), .load 1 false (.t 7), (some (6, true)), []⟩,
    ⟨(some 9), .faddr 3 (.t 1), (some (6, true)), []⟩,
    ⟨(some 10), .load 1 false (.t 9), (some (6, true)), []⟩,
    ⟨(some 11), .bin .geq (.t 8) (.t 10), (some (6, true)), []⟩,
    ⟨(some 12), .mov (.t 11), (some (6, true)), []⟩,
    ⟨(some 13), .faddr 4 (.t 1), (some (12, false)), []⟩,
    ⟨(some 14), .load 1 false (.t 13), (some (12, false)), []⟩,
    ⟨(some 15), .bin .eql (.t 14) (.c (.d (.int .i64 (-1)))), (some (12, false)), []⟩,
    ⟨(some 16), .pick (.t 12) (.c (.d (.bool true))) (.t 15), (some (6, true)), []⟩,
    ⟨(some 17), .pick (.t 6) (.t 16) (.c (.d (.bool false))), none, []⟩,
    ⟨(some 2), .mov (.t 17), none, []⟩] false)
  (.mask ⟨[2], []⟩ (.ret)))⟩
/-- beadle/beadleref06.head -/
def code_ref06_head : AFunc := ⟨21, [.tmp 2],
  .seq (.region 0 [
    ⟨(some 2), .mov (.c (.d (.bool false))), none, []⟩] false)
  (.seq (.region 1 [
    ⟨(some 3), .mov (.t 0), none, []⟩,
    ⟨(some 4), .bin .geq (.t 3) (.c (.d (.int .u8 (97)))), none, []⟩,
    ⟨(some 5), .mov (.t 4), none, []⟩,
    ⟨(some 6), .mov (.t 0), (some (5, true)), []⟩,
    ⟨(some 7), .bin .leq (.t 6) (.c (.d (.int .u8 (122)))), (some (5, true)), []⟩,
    ⟨(some 8), .pick (.t 5) (.t 7) (.c (.d (.bool false))), none, []⟩,
    ⟨(some 9), .mov (.t 8), none, []⟩,
    ⟨(some 10), .mov (.t 0), (some (9, false)), []⟩,
    ⟨(some 11), .bin .geq (.t 10) (.c (.d (.int .u8 (65)))), (some (9, false)), []⟩,
    ⟨(some 12), .mov (.t 11), (some (9, false)), []⟩,
    ⟨(some 13), .mov (.t 0), (some (12, true)), []⟩,
    ⟨(some 14), .bin .leq (.t 13) (.c (.d (.int .u8 (90)))), (some (12, true)), []⟩,
    ⟨(some 15), .pick (.t 12) (.t 14) (.c (.d (.bool false))), (some (9, false)), []⟩,
    ⟨(some 16), .pick (.t 9) (.c (.d (.bool true))) (.t 15), none, []⟩,
    ⟨(some 17), .mov (.t 16), none, []⟩,
    ⟨(some 18), .mov (.t 0), (some (17, false)), []⟩,
    ⟨(some 19), .bin .eql (.t 18) (.c (.d (.int .u8 (95)))), (some (17, false)), []⟩,
    ⟨(some 20), .pick (.t 17) (.c (.d (.bool true))) (.t 19), none, []⟩,
    ⟨(some 2), .mov (.t 20), none, []⟩] false)
  (.mask ⟨[2], []⟩ (.ret)))⟩
/-- beadle/beadleref06.tail -/
def code_ref06_tail : AFunc := ⟨13, [.tmp 2],
  .seq (.region 0 [
    ⟨(some 2), .mov (.c (.d (.bool false))), none, []⟩] false)
  (.seq (.region 1 [
    ⟨(some 3), .mov (.t 0), none, []⟩,
    ⟨(some 4), .call (.c (.fn F_ref06_head [])) [(.t 3)], none, []⟩,
    ⟨(some 5), .mov (.t 4), none, []⟩,
    ⟨(some 6), .mov (.t 0), (some (5, false)), []⟩,
    ⟨(some 7), .bin .geq (.t 6) (.c (.d (.int .u8 (48)))), (some (5, false)), []⟩,
    ⟨(some 8), .mov (.t 7), (some (5, false)), []⟩,
    ⟨(some 9), .mov (.t 0), (some (8, true)), []⟩,
    ⟨(some 10), .bin .leq (.t 9) (.c (.d (.int .u8 (57)))), (some (8, true)), []⟩,
    ⟨(some 11), .pick (.t 8) (.t 10) (.c (.d (.bool false))), (some (5, false)), []⟩,
    ⟨(some 12), .pick (.t 5) (.c (.d (.bool true))) (.t 11), none, []⟩,
    ⟨(some 2), .mov (.t 12), none, []⟩] false)
  (.mask ⟨[2], []⟩ (.ret)))⟩
/-- strings.IndexByte -/
def code_strings_IndexByte : AFunc := ⟨8, [.tmp 4],
  .seq (.region 0 [
    ⟨(some 4), .mov (.c (.d (.int .i64 (0)))), none, []⟩] false)
  (.seq (.region 1 [
    ⟨(some 5), .mov (.t 0), none, []⟩,
    ⟨(some 6), .mov (.t 1), none, []⟩,
    ⟨(some 7), .call (.c (.fn F_internal_stringslite_IndexByte [])) [(.t 5), (.t 6)], none, []⟩,
    ⟨(some 4), .mov (.t 7), none, []⟩] false)
  (.mask ⟨[4], []⟩ (.ret)))⟩
/-- beadle/lex.letter -/
def code_lex_letter : AFunc := ⟨15, [.tmp 2],
  .seq (.region 0 [
    ⟨(some 2), .mov (.c (.d (.bool false))), none, []⟩] false)
  (.seq (.region 1 [
    ⟨(some 3), .mov (.t 0), none, []⟩,
    ⟨(some 4), .bin .or (.t 3) (.c (.d (.int .u8 (32)))), none, []⟩,
    ⟨(some 5), .bin .geq (.t 4) (.c (.d (.int .u8 (97)))), none, []⟩,
    ⟨(some 6), .mov (.t 5), none, []⟩,
    ⟨(some 7), .mov (.t 0), (some (6, true)), []⟩,
    ⟨(some 8), .bin .or (.t 7) (.c (.d (.int .u8 (32)))), (some (6, true)), []⟩,
    ⟨(some 9), .bin .leq (.t 8) (.c (.d (.int .u8 (122)))), (some (6, true)), []⟩,
    ⟨(some 10), .pick (.t 6) (.t 9) (.c (.d (.bool false))), none, []⟩,
    ⟨(some 11), .mov (.t 10), none, []⟩,
    ⟨(some 12), .mov (.t 0), (some (11, false)), []⟩,
    ⟨(some 13), .bin .eql (.t 12) (.c (.d (.int .u8 (95)))), (some (11, false)), []⟩,
    ⟨(some 14), .pick (.t 11) (.c (.d (.bool true))) (.t 13), none, []⟩,
    ⟨(some 2), .mov (.t 14), none, []⟩] false)
  (.mask ⟨[2], []⟩ (.ret)))⟩
/-- beadle/lex.digit -/
def code_lex_digit : AFunc := ⟨9, [.tmp 2],
  .seq (.region 0 [
    ⟨(some 2), .mov (.c (.d (.bool false))), none, []⟩] false)
  (.seq (.region 1 [
    ⟨(some 3), .mov (.t 0), none, []⟩,
    ⟨(some 4), .bin .geq (.t 3) (.c (.d (.int .u8 (48)))), none, []⟩,
    ⟨(some 5), .mov (.t 4), none, []⟩,
    ⟨(some 6), .mov (.t 0), (some (5, true)), []⟩,
    ⟨(some 7), .bin .leq (.t 6) (.c (.d (.int .u8 (57)))), (some (5, true)), []⟩,
    ⟨(some 8), .pick (.t 5) (.t 7) (.c (.d (.bool false))), none, []⟩,
    ⟨(some 2), .mov (.t 8), none, []⟩] false)
  (.mask ⟨[2], []⟩ (.ret)))⟩
/-- internal/stringslite.IndexByte -/
def code_internal_stringslite_IndexByte : AFunc := ⟨8, [.tmp 4],
  .seq (.region 0 [
    ⟨(some 4), .mov (.c (.d (.int .i64 (0)))), none, []⟩] false)
  (.seq (.region 1 [
    ⟨(some 5), .mov (.t 0), none, []⟩,
    ⟨(some 6), .mov (.t 1), none, []⟩,
    ⟨(some 7), .call (.c (.fn F_internal_bytealg_IndexByteString [])) [(.t 5), (.t 6)], none, []⟩,
    ⟨(some 4), .mov (.t 7), none, []⟩] false)
  (.mask ⟨[4], []⟩ (.ret)))⟩
def codeL : List (Nat × AFunc) := [(F_law05_StoreKeeps, code_law05_StoreKeeps),
  (F_law07_AstChecks, code_law07_AstChecks),
  (F_law07_AstMeasures, code_law07_AstMeasures),
  (F_law07_AstParts, code_law07_AstParts),
  (F_law07_AstSame, code_law07_AstSame),
  (F_law05_alive, code_law05_alive),
  (F_plain_Rising, code_plain_Rising),
  (F_store_New, code_store_New),
  (F_store_Store_Set, code_store_Store_Set),
  (F_law05_long, code_law05_long),
  (F_store_Store_Get, code_store_Store_Get),
  (F_plain_Texts, code_plain_Texts),
  (F_law07_alive, code_law07_alive),
  (F_ast_Check, code_ast_Check),
  (F_ref07_Check, code_ref07_Check),
  (F_ast_Kids, code_ast_Kids),
  (F_ref07_Kids, code_ref07_Kids),
  (F_ast_Depth, code_ast_Depth),
  (F_ref07_Depth, code_ref07_Depth),
  (F_ast_Size, code_ast_Size),
  (F_ref07_All, code_ref07_All),
  (F_ast_Past, code_ast_Past),
  (F_ref07_Past, code_ref07_Past),
  (F_plain_Copy, code_plain_Copy),
  (F_ast_Clone, code_ast_Clone),
  (F_ast_Same, code_ast_Same),
  (F_plain_Expr, code_plain_Expr),
  (F_law07_spoil, code_law07_spoil),
  (F_store_Store_Count, code_store_Store_Count),
  (F_plain_In, code_plain_In),
  (F_store_Store_Kind, code_store_Store_Kind),
  (F_store_Store_is, code_store_Store_is),
  (F_value_Check, code_value_Check),
  (F_store_own, code_store_own),
  (F_value_Zero, code_value_Zero),
  (F_law07_sum, code_law07_sum),
  (F_ast_may, code_ast_may),
  (F_ref07_set, code_ref07_set),
  (F_ref07_fits, code_ref07_fits),
  (F_ast_inner, code_ast_inner),
  (F_slices_ContainsFunc_api_Expr_api_Expr, code_slices_ContainsFunc_api_Expr_api_Expr),
  (F_ref07_Looks, code_ref07_Looks),
  (F_slices_EqualFunc_api_Expr_api_Expr_api_Expr_api_Expr, code_slices_EqualFunc_api_Expr_api_Expr_api_Expr_api_Expr),
  (F_value_long, code_value_long),
  (F_slices_ContainsFunc_string_string, code_slices_ContainsFunc_string_string),
  (F_value_odd, code_value_odd),
  (F_slices_Clone_string_string, code_slices_Clone_string_string),
  (F_ast_own, code_ast_own),
  (F_ast_texts, code_ast_texts),
  (F_ast_may_1, code_ast_may_1),
  (F_ref06_Plain, code_ref06_Plain),
  (F_ref06_Name, code_ref06_Name),
  (F_slices_IndexFunc_api_Expr_api_Expr, code_slices_IndexFunc_api_Expr_api_Expr),
  (F_slices_IndexFunc_string_string, code_slices_IndexFunc_string_string),
  (F_value_rises, code_value_rises),
  (F_lex_Plain, code_lex_Plain),
  (F_lex_Name, code_lex_Name),
  (F_ast_span, code_ast_span),
  (F_ref06_head, code_ref06_head),
  (F_ref06_tail, code_ref06_tail),
  (F_strings_IndexByte, code_strings_IndexByte),
  (F_lex_letter, code_lex_letter),
  (F_lex_digit, code_lex_digit),
  (F_internal_stringslite_IndexByte, code_internal_stringslite_IndexByte)]
def code : Nat → Option AFunc := tableAt codeL
theorem at_law05_StoreKeeps : code F_law05_StoreKeeps = some code_law05_StoreKeeps := by kernel_rfl
theorem at_law07_AstChecks : code F_law07_AstChecks = some code_law07_AstChecks := by kernel_rfl
theorem at_law07_AstMeasures : code F_law07_AstMeasures = some code_law07_AstMeasures := by kernel_rfl
theorem at_law07_AstParts : code F_law07_AstParts = some code_law07_AstParts := by kernel_rfl
theorem at_law07_AstSame : code F_law07_AstSame = some code_law07_AstSame := by kernel_rfl
theorem at_law05_alive : code F_law05_alive = some code_law05_alive := by kernel_rfl
theorem at_plain_Rising : code F_plain_Rising = some code_plain_Rising := by kernel_rfl
theorem at_store_New : code F_store_New = some code_store_New := by kernel_rfl
theorem at_store_Store_Set : code F_store_Store_Set = some code_store_Store_Set := by kernel_rfl
theorem at_law05_long : code F_law05_long = some code_law05_long := by kernel_rfl
theorem at_store_Store_Get : code F_store_Store_Get = some code_store_Store_Get := by kernel_rfl
theorem at_plain_Texts : code F_plain_Texts = some code_plain_Texts := by kernel_rfl
theorem at_law07_alive : code F_law07_alive = some code_law07_alive := by kernel_rfl
theorem at_ast_Check : code F_ast_Check = some code_ast_Check := by kernel_rfl
theorem at_ref07_Check : code F_ref07_Check = some code_ref07_Check := by kernel_rfl
theorem at_ast_Kids : code F_ast_Kids = some code_ast_Kids := by kernel_rfl
theorem at_ref07_Kids : code F_ref07_Kids = some code_ref07_Kids := by kernel_rfl
theorem at_ast_Depth : code F_ast_Depth = some code_ast_Depth := by kernel_rfl
theorem at_ref07_Depth : code F_ref07_Depth = some code_ref07_Depth := by kernel_rfl
theorem at_ast_Size : code F_ast_Size = some code_ast_Size := by kernel_rfl
theorem at_ref07_All : code F_ref07_All = some code_ref07_All := by kernel_rfl
theorem at_ast_Past : code F_ast_Past = some code_ast_Past := by kernel_rfl
theorem at_ref07_Past : code F_ref07_Past = some code_ref07_Past := by kernel_rfl
theorem at_plain_Copy : code F_plain_Copy = some code_plain_Copy := by kernel_rfl
theorem at_ast_Clone : code F_ast_Clone = some code_ast_Clone := by kernel_rfl
theorem at_ast_Same : code F_ast_Same = some code_ast_Same := by kernel_rfl
theorem at_plain_Expr : code F_plain_Expr = some code_plain_Expr := by kernel_rfl
theorem at_law07_spoil : code F_law07_spoil = some code_law07_spoil := by kernel_rfl
theorem at_store_Store_Count : code F_store_Store_Count = some code_store_Store_Count := by kernel_rfl
theorem at_plain_In : code F_plain_In = some code_plain_In := by kernel_rfl
theorem at_store_Store_Kind : code F_store_Store_Kind = some code_store_Store_Kind := by kernel_rfl
theorem at_store_Store_is : code F_store_Store_is = some code_store_Store_is := by kernel_rfl
theorem at_value_Check : code F_value_Check = some code_value_Check := by kernel_rfl
theorem at_store_own : code F_store_own = some code_store_own := by kernel_rfl
theorem at_value_Zero : code F_value_Zero = some code_value_Zero := by kernel_rfl
theorem at_law07_sum : code F_law07_sum = some code_law07_sum := by kernel_rfl
theorem at_ast_may : code F_ast_may = some code_ast_may := by kernel_rfl
theorem at_ref07_set : code F_ref07_set = some code_ref07_set := by kernel_rfl
theorem at_ref07_fits : code F_ref07_fits = some code_ref07_fits := by kernel_rfl
theorem at_ast_inner : code F_ast_inner = some code_ast_inner := by kernel_rfl
theorem at_slices_ContainsFunc_api_Expr_api_Expr : code F_slices_ContainsFunc_api_Expr_api_Expr = some code_slices_ContainsFunc_api_Expr_api_Expr := by kernel_rfl
theorem at_ref07_Looks : code F_ref07_Looks = some code_ref07_Looks := by kernel_rfl
theorem at_slices_EqualFunc_api_Expr_api_Expr_api_Expr_api_Expr : code F_slices_EqualFunc_api_Expr_api_Expr_api_Expr_api_Expr = some code_slices_EqualFunc_api_Expr_api_Expr_api_Expr_api_Expr := by kernel_rfl
theorem at_value_long : code F_value_long = some code_value_long := by kernel_rfl
theorem at_slices_ContainsFunc_string_string : code F_slices_ContainsFunc_string_string = some code_slices_ContainsFunc_string_string := by kernel_rfl
theorem at_value_odd : code F_value_odd = some code_value_odd := by kernel_rfl
theorem at_slices_Clone_string_string : code F_slices_Clone_string_string = some code_slices_Clone_string_string := by kernel_rfl
theorem at_ast_own : code F_ast_own = some code_ast_own := by kernel_rfl
theorem at_ast_texts : code F_ast_texts = some code_ast_texts := by kernel_rfl
theorem at_ast_may_1 : code F_ast_may_1 = some code_ast_may_1 := by kernel_rfl
theorem at_ref06_Plain : code F_ref06_Plain = some code_ref06_Plain := by kernel_rfl
theorem at_ref06_Name : code F_ref06_Name = some code_ref06_Name := by kernel_rfl
theorem at_slices_IndexFunc_api_Expr_api_Expr : code F_slices_IndexFunc_api_Expr_api_Expr = some code_slices_IndexFunc_api_Expr_api_Expr := by kernel_rfl
theorem at_slices_IndexFunc_string_string : code F_slices_IndexFunc_string_string = some code_slices_IndexFunc_string_string := by kernel_rfl
theorem at_value_rises : code F_value_rises = some code_value_rises := by kernel_rfl
theorem at_lex_Plain : code F_lex_Plain = some code_lex_Plain := by kernel_rfl
theorem at_lex_Name : code F_lex_Name = some code_lex_Name := by kernel_rfl
theorem at_ast_span : code F_ast_span = some code_ast_span := by kernel_rfl
theorem at_ref06_head : code F_ref06_head = some code_ref06_head := by kernel_rfl
theorem at_ref06_tail : code F_ref06_tail = some code_ref06_tail := by kernel_rfl
theorem at_strings_IndexByte : code F_strings_IndexByte = some code_strings_IndexByte := by kernel_rfl
theorem at_lex_letter : code F_lex_letter = some code_lex_letter := by kernel_rfl
theorem at_lex_digit : code F_lex_digit = some code_lex_digit := by kernel_rfl
theorem at_internal_stringslite_IndexByte : code F_internal_stringslite_IndexByte = some code_internal_stringslite_IndexByte := by kernel_rfl
end Bz.S
