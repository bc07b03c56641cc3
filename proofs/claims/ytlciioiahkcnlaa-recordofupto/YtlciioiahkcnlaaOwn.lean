/- Which functions are handed slices of the caller's own, and which hand out their own. -/
import Derived.Test.YtlciioiahkcnlaaBz2
import Derived.Test.YtlciioiahkcnlaaCode0
set_option linter.unusedSimpArgs false
set_option linter.unusedVariables false
namespace Bz.S
open Go Bz
def own : Nat → Bool := fun f => [F_slices_DeleteFunc_api_Verdict_api_Verdict, F_slices_IndexFunc_api_Verdict_api_Verdict].contains f
def retOwn : Nat → Bool := fun f => [F_slices_Clone_api_Verdict_api_Verdict].contains f
def F_internal_bytealg_IndexByteString : Nat := 999999999
def ext : Callee := fun _ _ _ => none
theorem ext_none {f : Nat} {args : List AV} {H : Heap} (_hf : f ≠ F_internal_bytealg_IndexByteString) : ext f args H = none := rfl
@[simp] theorem own_law24_RecordWrites : own F_law24_RecordWrites = false := rfl
@[simp] theorem retOwn_law24_RecordWrites : retOwn F_law24_RecordWrites = false := rfl
@[simp] theorem own_law24_RecordReads : own F_law24_RecordReads = false := rfl
@[simp] theorem retOwn_law24_RecordReads : retOwn F_law24_RecordReads = false := rfl
@[simp] theorem own_law24_RecordBack : own F_law24_RecordBack = false := rfl
@[simp] theorem retOwn_law24_RecordBack : retOwn F_law24_RecordBack = false := rfl
@[simp] theorem own_law24_RecordOf : own F_law24_RecordOf = false := rfl
@[simp] theorem retOwn_law24_RecordOf : retOwn F_law24_RecordOf = false := rfl
@[simp] theorem own_law24_alive : own F_law24_alive = false := rfl
@[simp] theorem retOwn_law24_alive : retOwn F_law24_alive = false := rfl
@[simp] theorem own_record_Put : own F_record_Put = false := rfl
@[simp] theorem retOwn_record_Put : retOwn F_record_Put = false := rfl
@[simp] theorem own_ref23_May : own F_ref23_May = false := rfl
@[simp] theorem retOwn_ref23_May : retOwn F_ref23_May = false := rfl
@[simp] theorem own_record_Check : own F_record_Check = false := rfl
@[simp] theorem retOwn_record_Check : retOwn F_record_Check = false := rfl
@[simp] theorem own_ref23_Record : own F_ref23_Record = false := rfl
@[simp] theorem retOwn_ref23_Record : retOwn F_ref23_Record = false := rfl
@[simp] theorem own_record_Read : own F_record_Read = false := rfl
@[simp] theorem retOwn_record_Read : retOwn F_record_Read = false := rfl
@[simp] theorem own_ref23_Verdicts : own F_ref23_Verdicts = false := rfl
@[simp] theorem retOwn_ref23_Verdicts : retOwn F_ref23_Verdicts = false := rfl
@[simp] theorem own_plain_Verdicts : own F_plain_Verdicts = false := rfl
@[simp] theorem retOwn_plain_Verdicts : retOwn F_plain_Verdicts = false := rfl
@[simp] theorem own_record_Of : own F_record_Of = false := rfl
@[simp] theorem retOwn_record_Of : retOwn F_record_Of = false := rfl
@[simp] theorem own_law24_one : own F_law24_one = false := rfl
@[simp] theorem retOwn_law24_one : retOwn F_law24_one = false := rfl
@[simp] theorem own_octet_Out_Byte : own F_octet_Out_Byte = false := rfl
@[simp] theorem retOwn_octet_Out_Byte : retOwn F_octet_Out_Byte = false := rfl
@[simp] theorem own_octet_Out_Done : own F_octet_Out_Done = false := rfl
@[simp] theorem retOwn_octet_Out_Done : retOwn F_octet_Out_Done = false := rfl
@[simp] theorem own_record_outside : own F_record_outside = false := rfl
@[simp] theorem retOwn_record_outside : retOwn F_record_outside = false := rfl
@[simp] theorem own_slices_ContainsFunc_api_Verdict_api_Verdict : own F_slices_ContainsFunc_api_Verdict_api_Verdict = false := rfl
@[simp] theorem retOwn_slices_ContainsFunc_api_Verdict_api_Verdict : retOwn F_slices_ContainsFunc_api_Verdict_api_Verdict = false := rfl
@[simp] theorem own_record_odd : own F_record_odd = false := rfl
@[simp] theorem retOwn_record_odd : retOwn F_record_odd = false := rfl
@[simp] theorem own_octet_Open : own F_octet_Open = false := rfl
@[simp] theorem retOwn_octet_Open : retOwn F_octet_Open = false := rfl
@[simp] theorem own_octet_In_Byte : own F_octet_In_Byte = false := rfl
@[simp] theorem retOwn_octet_In_Byte : retOwn F_octet_In_Byte = false := rfl
@[simp] theorem own_octet_In_Err : own F_octet_In_Err = false := rfl
@[simp] theorem retOwn_octet_In_Err : retOwn F_octet_In_Err = false := rfl
@[simp] theorem own_octet_In_Left : own F_octet_In_Left = false := rfl
@[simp] theorem retOwn_octet_In_Left : retOwn F_octet_In_Left = false := rfl
@[simp] theorem own_slices_Clone_api_Verdict_api_Verdict : own F_slices_Clone_api_Verdict_api_Verdict = false := rfl
@[simp] theorem retOwn_slices_Clone_api_Verdict_api_Verdict : retOwn F_slices_Clone_api_Verdict_api_Verdict = true := rfl
@[simp] theorem own_record_Of_1 : own F_record_Of_1 = false := rfl
@[simp] theorem retOwn_record_Of_1 : retOwn F_record_Of_1 = false := rfl
@[simp] theorem own_slices_DeleteFunc_api_Verdict_api_Verdict : own F_slices_DeleteFunc_api_Verdict_api_Verdict = true := rfl
@[simp] theorem retOwn_slices_DeleteFunc_api_Verdict_api_Verdict : retOwn F_slices_DeleteFunc_api_Verdict_api_Verdict = false := rfl
@[simp] theorem own_octet_Out_fail : own F_octet_Out_fail = false := rfl
@[simp] theorem retOwn_octet_Out_fail : retOwn F_octet_Out_fail = false := rfl
@[simp] theorem own_slices_IndexFunc_api_Verdict_api_Verdict : own F_slices_IndexFunc_api_Verdict_api_Verdict = true := rfl
@[simp] theorem retOwn_slices_IndexFunc_api_Verdict_api_Verdict : retOwn F_slices_IndexFunc_api_Verdict_api_Verdict = false := rfl
@[simp] theorem own_octet_In_take : own F_octet_In_take = false := rfl
@[simp] theorem retOwn_octet_In_take : retOwn F_octet_In_take = false := rfl
@[simp] theorem own_octet_In_bad : own F_octet_In_bad = false := rfl
@[simp] theorem retOwn_octet_In_bad : retOwn F_octet_In_bad = false := rfl
end Bz.S
