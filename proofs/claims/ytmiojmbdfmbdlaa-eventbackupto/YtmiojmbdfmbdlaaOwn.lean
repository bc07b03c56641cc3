/- Which functions are handed slices of the caller's own, and which hand out their own. -/
import Derived.Test.YtmiojmbdfmbdlaaBz2
import Derived.Test.YtmiojmbdfmbdlaaCode0
set_option linter.unusedSimpArgs false
set_option linter.unusedVariables false
namespace Bz.S
open Go Bz
def own : Nat → Bool := fun f => [F_octet_Open].contains f
def retOwn : Nat → Bool := fun f => [].contains f
def F_internal_bytealg_IndexByteString : Nat := 999999999
def ext : Callee := fun _ _ _ => none
theorem ext_none {f : Nat} {args : List AV} {H : Heap} (_hf : f ≠ F_internal_bytealg_IndexByteString) : ext f args H = none := rfl
@[simp] theorem own_law23_EventReads : own F_law23_EventReads = false := rfl
@[simp] theorem retOwn_law23_EventReads : retOwn F_law23_EventReads = false := rfl
@[simp] theorem own_law23_EventBack : own F_law23_EventBack = false := rfl
@[simp] theorem retOwn_law23_EventBack : retOwn F_law23_EventBack = false := rfl
@[simp] theorem own_law23_alive : own F_law23_alive = false := rfl
@[simp] theorem retOwn_law23_alive : retOwn F_law23_alive = false := rfl
@[simp] theorem own_event_Read : own F_event_Read = false := rfl
@[simp] theorem retOwn_event_Read : retOwn F_event_Read = false := rfl
@[simp] theorem own_ref23_Read : own F_ref23_Read = false := rfl
@[simp] theorem retOwn_ref23_Read : retOwn F_ref23_Read = false := rfl
@[simp] theorem own_plain_Event : own F_plain_Event = false := rfl
@[simp] theorem retOwn_plain_Event : retOwn F_plain_Event = false := rfl
@[simp] theorem own_event_Put : own F_event_Put = false := rfl
@[simp] theorem retOwn_event_Put : retOwn F_event_Put = false := rfl
@[simp] theorem own_ref23_Check : own F_ref23_Check = false := rfl
@[simp] theorem retOwn_ref23_Check : retOwn F_ref23_Check = false := rfl
@[simp] theorem own_law23_tick : own F_law23_tick = false := rfl
@[simp] theorem retOwn_law23_tick : retOwn F_law23_tick = false := rfl
@[simp] theorem own_event_Check : own F_event_Check = false := rfl
@[simp] theorem retOwn_event_Check : retOwn F_event_Check = false := rfl
@[simp] theorem own_octet_Open : own F_octet_Open = true := rfl
@[simp] theorem retOwn_octet_Open : retOwn F_octet_Open = false := rfl
@[simp] theorem own_octet_In_Int : own F_octet_In_Int = false := rfl
@[simp] theorem retOwn_octet_In_Int : retOwn F_octet_In_Int = false := rfl
@[simp] theorem own_octet_In_Byte : own F_octet_In_Byte = false := rfl
@[simp] theorem retOwn_octet_In_Byte : retOwn F_octet_In_Byte = false := rfl
@[simp] theorem own_octet_In_Text : own F_octet_In_Text = false := rfl
@[simp] theorem retOwn_octet_In_Text : retOwn F_octet_In_Text = false := rfl
@[simp] theorem own_octet_In_Value : own F_octet_In_Value = false := rfl
@[simp] theorem retOwn_octet_In_Value : retOwn F_octet_In_Value = false := rfl
@[simp] theorem own_octet_In_Err : own F_octet_In_Err = false := rfl
@[simp] theorem retOwn_octet_In_Err : retOwn F_octet_In_Err = false := rfl
@[simp] theorem own_octet_In_Left : own F_octet_In_Left = false := rfl
@[simp] theorem retOwn_octet_In_Left : retOwn F_octet_In_Left = false := rfl
@[simp] theorem own_ref04_Number : own F_ref04_Number = false := rfl
@[simp] theorem retOwn_ref04_Number : retOwn F_ref04_Number = false := rfl
@[simp] theorem own_ref04_Byte : own F_ref04_Byte = false := rfl
@[simp] theorem retOwn_ref04_Byte : retOwn F_ref04_Byte = false := rfl
@[simp] theorem own_ref04_Words : own F_ref04_Words = false := rfl
@[simp] theorem retOwn_ref04_Words : retOwn F_ref04_Words = false := rfl
@[simp] theorem own_ref04_Thing : own F_ref04_Thing = false := rfl
@[simp] theorem retOwn_ref04_Thing : retOwn F_ref04_Thing = false := rfl
@[simp] theorem own_ref04_Left : own F_ref04_Left = false := rfl
@[simp] theorem retOwn_ref04_Left : retOwn F_ref04_Left = false := rfl
@[simp] theorem own_plain_Value : own F_plain_Value = false := rfl
@[simp] theorem retOwn_plain_Value : retOwn F_plain_Value = false := rfl
@[simp] theorem own_octet_Out_Int : own F_octet_Out_Int = false := rfl
@[simp] theorem retOwn_octet_Out_Int : retOwn F_octet_Out_Int = false := rfl
@[simp] theorem own_octet_Out_Byte : own F_octet_Out_Byte = false := rfl
@[simp] theorem retOwn_octet_Out_Byte : retOwn F_octet_Out_Byte = false := rfl
@[simp] theorem own_octet_Out_Text : own F_octet_Out_Text = false := rfl
@[simp] theorem retOwn_octet_Out_Text : retOwn F_octet_Out_Text = false := rfl
@[simp] theorem own_octet_Out_Value : own F_octet_Out_Value = false := rfl
@[simp] theorem retOwn_octet_Out_Value : retOwn F_octet_Out_Value = false := rfl
@[simp] theorem own_octet_Out_Done : own F_octet_Out_Done = false := rfl
@[simp] theorem retOwn_octet_Out_Done : retOwn F_octet_Out_Done = false := rfl
@[simp] theorem own_ref06_Name : own F_ref06_Name = false := rfl
@[simp] theorem retOwn_ref06_Name : retOwn F_ref06_Name = false := rfl
@[simp] theorem own_ref02_Check : own F_ref02_Check = false := rfl
@[simp] theorem retOwn_ref02_Check : retOwn F_ref02_Check = false := rfl
@[simp] theorem own_ref23_empty : own F_ref23_empty = false := rfl
@[simp] theorem retOwn_ref23_empty : retOwn F_ref23_empty = false := rfl
@[simp] theorem own_event_blank : own F_event_blank = false := rfl
@[simp] theorem retOwn_event_blank : retOwn F_event_blank = false := rfl
@[simp] theorem own_event_named : own F_event_named = false := rfl
@[simp] theorem retOwn_event_named : retOwn F_event_named = false := rfl
@[simp] theorem own_octet_In_take : own F_octet_In_take = false := rfl
@[simp] theorem retOwn_octet_In_take : retOwn F_octet_In_take = false := rfl
@[simp] theorem own_octet_In_body : own F_octet_In_body = false := rfl
@[simp] theorem retOwn_octet_In_body : retOwn F_octet_In_body = false := rfl
@[simp] theorem own_value_Check : own F_value_Check = false := rfl
@[simp] theorem retOwn_value_Check : retOwn F_value_Check = false := rfl
@[simp] theorem own_octet_In_bad : own F_octet_In_bad = false := rfl
@[simp] theorem retOwn_octet_In_bad : retOwn F_octet_In_bad = false := rfl
@[simp] theorem own_ref04_take : own F_ref04_take = false := rfl
@[simp] theorem retOwn_ref04_take : retOwn F_ref04_take = false := rfl
@[simp] theorem own_plain_Texts : own F_plain_Texts = false := rfl
@[simp] theorem retOwn_plain_Texts : retOwn F_plain_Texts = false := rfl
@[simp] theorem own_octet_Out_fail : own F_octet_Out_fail = false := rfl
@[simp] theorem retOwn_octet_Out_fail : retOwn F_octet_Out_fail = false := rfl
@[simp] theorem own_ref06_head : own F_ref06_head = false := rfl
@[simp] theorem retOwn_ref06_head : retOwn F_ref06_head = false := rfl
@[simp] theorem own_ref06_tail : own F_ref06_tail = false := rfl
@[simp] theorem retOwn_ref06_tail : retOwn F_ref06_tail = false := rfl
@[simp] theorem own_ref02_bad : own F_ref02_bad = false := rfl
@[simp] theorem retOwn_ref02_bad : retOwn F_ref02_bad = false := rfl
@[simp] theorem own_value_Same : own F_value_Same = false := rfl
@[simp] theorem retOwn_value_Same : retOwn F_value_Same = false := rfl
@[simp] theorem own_lex_Name : own F_lex_Name = false := rfl
@[simp] theorem retOwn_lex_Name : retOwn F_lex_Name = false := rfl
@[simp] theorem own_value_long : own F_value_long = false := rfl
@[simp] theorem retOwn_value_long : retOwn F_value_long = false := rfl
@[simp] theorem own_slices_ContainsFunc_string_string : own F_slices_ContainsFunc_string_string = false := rfl
@[simp] theorem retOwn_slices_ContainsFunc_string_string : retOwn F_slices_ContainsFunc_string_string = false := rfl
@[simp] theorem own_value_odd : own F_value_odd = false := rfl
@[simp] theorem retOwn_value_odd : retOwn F_value_odd = false := rfl
@[simp] theorem own_value_Cmp : own F_value_Cmp = false := rfl
@[simp] theorem retOwn_value_Cmp : retOwn F_value_Cmp = false := rfl
@[simp] theorem own_lex_letter : own F_lex_letter = false := rfl
@[simp] theorem retOwn_lex_letter : retOwn F_lex_letter = false := rfl
@[simp] theorem own_lex_digit : own F_lex_digit = false := rfl
@[simp] theorem retOwn_lex_digit : retOwn F_lex_digit = false := rfl
@[simp] theorem own_slices_IndexFunc_string_string : own F_slices_IndexFunc_string_string = false := rfl
@[simp] theorem retOwn_slices_IndexFunc_string_string : retOwn F_slices_IndexFunc_string_string = false := rfl
@[simp] theorem own_value_rises : own F_value_rises = false := rfl
@[simp] theorem retOwn_value_rises : retOwn F_value_rises = false := rfl
@[simp] theorem own_cmp_Compare_int : own F_cmp_Compare_int = false := rfl
@[simp] theorem retOwn_cmp_Compare_int : retOwn F_cmp_Compare_int = false := rfl
@[simp] theorem own_cmp_Compare_int64 : own F_cmp_Compare_int64 = false := rfl
@[simp] theorem retOwn_cmp_Compare_int64 : retOwn F_cmp_Compare_int64 = false := rfl
@[simp] theorem own_cmp_Compare_string : own F_cmp_Compare_string = false := rfl
@[simp] theorem retOwn_cmp_Compare_string : retOwn F_cmp_Compare_string = false := rfl
@[simp] theorem own_slices_Compare_string_string : own F_slices_Compare_string_string = false := rfl
@[simp] theorem retOwn_slices_Compare_string_string : retOwn F_slices_Compare_string_string = false := rfl
@[simp] theorem own_cmp_Or_int : own F_cmp_Or_int = false := rfl
@[simp] theorem retOwn_cmp_Or_int : retOwn F_cmp_Or_int = false := rfl
@[simp] theorem own_cmp_isNaN_int : own F_cmp_isNaN_int = false := rfl
@[simp] theorem retOwn_cmp_isNaN_int : retOwn F_cmp_isNaN_int = false := rfl
@[simp] theorem own_cmp_isNaN_int64 : own F_cmp_isNaN_int64 = false := rfl
@[simp] theorem retOwn_cmp_isNaN_int64 : retOwn F_cmp_isNaN_int64 = false := rfl
@[simp] theorem own_cmp_isNaN_string : own F_cmp_isNaN_string = false := rfl
@[simp] theorem retOwn_cmp_isNaN_string : retOwn F_cmp_isNaN_string = false := rfl
end Bz.S
