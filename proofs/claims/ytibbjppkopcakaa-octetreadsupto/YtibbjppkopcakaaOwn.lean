/- Which functions are handed slices of the caller's own, and which hand out their own. -/
import Derived.Test.YtibbjppkopcakaaBz2
import Derived.Test.YtibbjppkopcakaaCode0
set_option linter.unusedSimpArgs false
set_option linter.unusedVariables false
namespace Bz.S
open Go Bz
def own : Nat → Bool := fun f => [F_octet_Open].contains f
def retOwn : Nat → Bool := fun f => [].contains f
def F_internal_bytealg_IndexByteString : Nat := 999999999
def ext : Callee := fun _ _ _ => none
theorem ext_none {f : Nat} {args : List AV} {H : Heap} (_hf : f ≠ F_internal_bytealg_IndexByteString) : ext f args H = none := rfl
@[simp] theorem own_law04_OctetWrites : own F_law04_OctetWrites = false := rfl
@[simp] theorem retOwn_law04_OctetWrites : retOwn F_law04_OctetWrites = false := rfl
@[simp] theorem own_law04_OctetReads : own F_law04_OctetReads = false := rfl
@[simp] theorem retOwn_law04_OctetReads : retOwn F_law04_OctetReads = false := rfl
@[simp] theorem own_law04_OctetBack : own F_law04_OctetBack = false := rfl
@[simp] theorem retOwn_law04_OctetBack : retOwn F_law04_OctetBack = false := rfl
@[simp] theorem own_law04_OctetNobody : own F_law04_OctetNobody = false := rfl
@[simp] theorem retOwn_law04_OctetNobody : retOwn F_law04_OctetNobody = false := rfl
@[simp] theorem own_law04_alive : own F_law04_alive = false := rfl
@[simp] theorem retOwn_law04_alive : retOwn F_law04_alive = false := rfl
@[simp] theorem own_law04_few : own F_law04_few = false := rfl
@[simp] theorem retOwn_law04_few : retOwn F_law04_few = false := rfl
@[simp] theorem own_law04_one : own F_law04_one = false := rfl
@[simp] theorem retOwn_law04_one : retOwn F_law04_one = false := rfl
@[simp] theorem own_law04_put : own F_law04_put = false := rfl
@[simp] theorem retOwn_law04_put : retOwn F_law04_put = false := rfl
@[simp] theorem own_octet_Open : own F_octet_Open = true := rfl
@[simp] theorem retOwn_octet_Open : retOwn F_octet_Open = false := rfl
@[simp] theorem own_octet_In_Left : own F_octet_In_Left = false := rfl
@[simp] theorem retOwn_octet_In_Left : retOwn F_octet_In_Left = false := rfl
@[simp] theorem own_law04_step : own F_law04_step = false := rfl
@[simp] theorem retOwn_law04_step : retOwn F_law04_step = false := rfl
@[simp] theorem own_octet_In_Byte : own F_octet_In_Byte = false := rfl
@[simp] theorem retOwn_octet_In_Byte : retOwn F_octet_In_Byte = false := rfl
@[simp] theorem own_octet_In_Int : own F_octet_In_Int = false := rfl
@[simp] theorem retOwn_octet_In_Int : retOwn F_octet_In_Int = false := rfl
@[simp] theorem own_octet_In_Text : own F_octet_In_Text = false := rfl
@[simp] theorem retOwn_octet_In_Text : retOwn F_octet_In_Text = false := rfl
@[simp] theorem own_octet_In_Value : own F_octet_In_Value = false := rfl
@[simp] theorem retOwn_octet_In_Value : retOwn F_octet_In_Value = false := rfl
@[simp] theorem own_plain_Value : own F_plain_Value = false := rfl
@[simp] theorem retOwn_plain_Value : retOwn F_plain_Value = false := rfl
@[simp] theorem own_octet_In_Err : own F_octet_In_Err = false := rfl
@[simp] theorem retOwn_octet_In_Err : retOwn F_octet_In_Err = false := rfl
@[simp] theorem own_octet_Out_Byte : own F_octet_Out_Byte = false := rfl
@[simp] theorem retOwn_octet_Out_Byte : retOwn F_octet_Out_Byte = false := rfl
@[simp] theorem own_octet_Out_Int : own F_octet_Out_Int = false := rfl
@[simp] theorem retOwn_octet_Out_Int : retOwn F_octet_Out_Int = false := rfl
@[simp] theorem own_octet_Out_Text : own F_octet_Out_Text = false := rfl
@[simp] theorem retOwn_octet_Out_Text : retOwn F_octet_Out_Text = false := rfl
@[simp] theorem own_octet_Out_Value : own F_octet_Out_Value = false := rfl
@[simp] theorem retOwn_octet_Out_Value : retOwn F_octet_Out_Value = false := rfl
@[simp] theorem own_octet_Out_Done : own F_octet_Out_Done = false := rfl
@[simp] theorem retOwn_octet_Out_Done : retOwn F_octet_Out_Done = false := rfl
@[simp] theorem own_ref04_Int : own F_ref04_Int = false := rfl
@[simp] theorem retOwn_ref04_Int : retOwn F_ref04_Int = false := rfl
@[simp] theorem own_ref04_Text : own F_ref04_Text = false := rfl
@[simp] theorem retOwn_ref04_Text : retOwn F_ref04_Text = false := rfl
@[simp] theorem own_ref02_Check : own F_ref02_Check = false := rfl
@[simp] theorem retOwn_ref02_Check : retOwn F_ref02_Check = false := rfl
@[simp] theorem own_ref04_Value : own F_ref04_Value = false := rfl
@[simp] theorem retOwn_ref04_Value : retOwn F_ref04_Value = false := rfl
@[simp] theorem own_ref04_Byte : own F_ref04_Byte = false := rfl
@[simp] theorem retOwn_ref04_Byte : retOwn F_ref04_Byte = false := rfl
@[simp] theorem own_ref04_Number : own F_ref04_Number = false := rfl
@[simp] theorem retOwn_ref04_Number : retOwn F_ref04_Number = false := rfl
@[simp] theorem own_ref04_Words : own F_ref04_Words = false := rfl
@[simp] theorem retOwn_ref04_Words : retOwn F_ref04_Words = false := rfl
@[simp] theorem own_ref04_Thing : own F_ref04_Thing = false := rfl
@[simp] theorem retOwn_ref04_Thing : retOwn F_ref04_Thing = false := rfl
@[simp] theorem own_ref04_Left : own F_ref04_Left = false := rfl
@[simp] theorem retOwn_ref04_Left : retOwn F_ref04_Left = false := rfl
@[simp] theorem own_octet_In_take : own F_octet_In_take = false := rfl
@[simp] theorem retOwn_octet_In_take : retOwn F_octet_In_take = false := rfl
@[simp] theorem own_octet_In_body : own F_octet_In_body = false := rfl
@[simp] theorem retOwn_octet_In_body : retOwn F_octet_In_body = false := rfl
@[simp] theorem own_value_Check : own F_value_Check = false := rfl
@[simp] theorem retOwn_value_Check : retOwn F_value_Check = false := rfl
@[simp] theorem own_octet_In_bad : own F_octet_In_bad = false := rfl
@[simp] theorem retOwn_octet_In_bad : retOwn F_octet_In_bad = false := rfl
@[simp] theorem own_plain_Texts : own F_plain_Texts = false := rfl
@[simp] theorem retOwn_plain_Texts : retOwn F_plain_Texts = false := rfl
@[simp] theorem own_octet_Out_fail : own F_octet_Out_fail = false := rfl
@[simp] theorem retOwn_octet_Out_fail : retOwn F_octet_Out_fail = false := rfl
@[simp] theorem own_ref02_bad : own F_ref02_bad = false := rfl
@[simp] theorem retOwn_ref02_bad : retOwn F_ref02_bad = false := rfl
@[simp] theorem own_ref04_take : own F_ref04_take = false := rfl
@[simp] theorem retOwn_ref04_take : retOwn F_ref04_take = false := rfl
@[simp] theorem own_value_long : own F_value_long = false := rfl
@[simp] theorem retOwn_value_long : retOwn F_value_long = false := rfl
@[simp] theorem own_slices_ContainsFunc_string_string : own F_slices_ContainsFunc_string_string = false := rfl
@[simp] theorem retOwn_slices_ContainsFunc_string_string : retOwn F_slices_ContainsFunc_string_string = false := rfl
@[simp] theorem own_value_odd : own F_value_odd = false := rfl
@[simp] theorem retOwn_value_odd : retOwn F_value_odd = false := rfl
@[simp] theorem own_slices_IndexFunc_string_string : own F_slices_IndexFunc_string_string = false := rfl
@[simp] theorem retOwn_slices_IndexFunc_string_string : retOwn F_slices_IndexFunc_string_string = false := rfl
@[simp] theorem own_value_rises : own F_value_rises = false := rfl
@[simp] theorem retOwn_value_rises : retOwn F_value_rises = false := rfl
end Bz.S
