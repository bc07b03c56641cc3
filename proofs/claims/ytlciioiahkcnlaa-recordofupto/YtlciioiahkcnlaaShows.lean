/- The code is the program's. -/
import Derived.Test.YtlciioiahkcnlaaCode0
import Derived.Test.YtlciioiahkcnlaaProg
import Derived.KernelRfl
set_option linter.unusedSimpArgs false
set_option linter.unusedVariables false
set_option maxRecDepth 100000
set_option maxHeartbeats 4000000
namespace Bz.S
open Go Bz
theorem shows_law24_RecordWrites : Shows Go.Proofs.Try.prog F_law24_RecordWrites code_law24_RecordWrites := ⟨_, _, Go.Proofs.Try.func3, rfl, by kernel_rfl, by kernel_rfl, by kernel_rfl, by kernel_rfl, by kernel_rfl⟩
theorem shows_law24_RecordReads : Shows Go.Proofs.Try.prog F_law24_RecordReads code_law24_RecordReads := ⟨_, _, Go.Proofs.Try.func4, rfl, by kernel_rfl, by kernel_rfl, by kernel_rfl, by kernel_rfl, by kernel_rfl⟩
theorem shows_law24_RecordBack : Shows Go.Proofs.Try.prog F_law24_RecordBack code_law24_RecordBack := ⟨_, _, Go.Proofs.Try.func5, rfl, by kernel_rfl, by kernel_rfl, by kernel_rfl, by kernel_rfl, by kernel_rfl⟩
theorem shows_law24_RecordOf : Shows Go.Proofs.Try.prog F_law24_RecordOf code_law24_RecordOf := ⟨_, _, Go.Proofs.Try.func6, rfl, by kernel_rfl, by kernel_rfl, by kernel_rfl, by kernel_rfl, by kernel_rfl⟩
theorem shows_law24_alive : Shows Go.Proofs.Try.prog F_law24_alive code_law24_alive := ⟨_, _, Go.Proofs.Try.func7, rfl, by kernel_rfl, by kernel_rfl, by kernel_rfl, by kernel_rfl, by kernel_rfl⟩
theorem shows_record_Put : Shows Go.Proofs.Try.prog F_record_Put code_record_Put := ⟨_, _, Go.Proofs.Try.func8, rfl, by kernel_rfl, by kernel_rfl, by kernel_rfl, by kernel_rfl, by kernel_rfl⟩
theorem shows_ref23_May : Shows Go.Proofs.Try.prog F_ref23_May code_ref23_May := ⟨_, _, Go.Proofs.Try.func9, rfl, by kernel_rfl, by kernel_rfl, by kernel_rfl, by kernel_rfl, by kernel_rfl⟩
theorem shows_record_Check : Shows Go.Proofs.Try.prog F_record_Check code_record_Check := ⟨_, _, Go.Proofs.Try.func10, rfl, by kernel_rfl, by kernel_rfl, by kernel_rfl, by kernel_rfl, by kernel_rfl⟩
theorem shows_ref23_Record : Shows Go.Proofs.Try.prog F_ref23_Record code_ref23_Record := ⟨_, _, Go.Proofs.Try.func11, rfl, by kernel_rfl, by kernel_rfl, by kernel_rfl, by kernel_rfl, by kernel_rfl⟩
theorem shows_record_Read : Shows Go.Proofs.Try.prog F_record_Read code_record_Read := ⟨_, _, Go.Proofs.Try.func12, rfl, by kernel_rfl, by kernel_rfl, by kernel_rfl, by kernel_rfl, by kernel_rfl⟩
theorem shows_ref23_Verdicts : Shows Go.Proofs.Try.prog F_ref23_Verdicts code_ref23_Verdicts := ⟨_, _, Go.Proofs.Try.func13, rfl, by kernel_rfl, by kernel_rfl, by kernel_rfl, by kernel_rfl, by kernel_rfl⟩
theorem shows_plain_Verdicts : Shows Go.Proofs.Try.prog F_plain_Verdicts code_plain_Verdicts := ⟨_, _, Go.Proofs.Try.func14, rfl, by kernel_rfl, by kernel_rfl, by kernel_rfl, by kernel_rfl, by kernel_rfl⟩
theorem shows_record_Of : Shows Go.Proofs.Try.prog F_record_Of code_record_Of := ⟨_, _, Go.Proofs.Try.func15, rfl, by kernel_rfl, by kernel_rfl, by kernel_rfl, by kernel_rfl, by kernel_rfl⟩
theorem shows_law24_one : Shows Go.Proofs.Try.prog F_law24_one code_law24_one := ⟨_, _, Go.Proofs.Try.func16, rfl, by kernel_rfl, by kernel_rfl, by kernel_rfl, by kernel_rfl, by kernel_rfl⟩
theorem shows_octet_Out_Byte : Shows Go.Proofs.Try.prog F_octet_Out_Byte code_octet_Out_Byte := ⟨_, _, Go.Proofs.Try.func17, rfl, by kernel_rfl, by kernel_rfl, by kernel_rfl, by kernel_rfl, by kernel_rfl⟩
theorem shows_octet_Out_Done : Shows Go.Proofs.Try.prog F_octet_Out_Done code_octet_Out_Done := ⟨_, _, Go.Proofs.Try.func18, rfl, by kernel_rfl, by kernel_rfl, by kernel_rfl, by kernel_rfl, by kernel_rfl⟩
theorem shows_record_outside : Shows Go.Proofs.Try.prog F_record_outside code_record_outside := ⟨_, _, Go.Proofs.Try.func19, rfl, by kernel_rfl, by kernel_rfl, by kernel_rfl, by kernel_rfl, by kernel_rfl⟩
theorem shows_slices_ContainsFunc_api_Verdict_api_Verdict : Shows Go.Proofs.Try.prog F_slices_ContainsFunc_api_Verdict_api_Verdict code_slices_ContainsFunc_api_Verdict_api_Verdict := ⟨_, _, Go.Proofs.Try.func20, rfl, by kernel_rfl, by kernel_rfl, by kernel_rfl, by kernel_rfl, by kernel_rfl⟩
theorem shows_record_odd : Shows Go.Proofs.Try.prog F_record_odd code_record_odd := ⟨_, _, Go.Proofs.Try.func21, rfl, by kernel_rfl, by kernel_rfl, by kernel_rfl, by kernel_rfl, by kernel_rfl⟩
theorem shows_octet_Open : Shows Go.Proofs.Try.prog F_octet_Open code_octet_Open := ⟨_, _, Go.Proofs.Try.func22, rfl, by kernel_rfl, by kernel_rfl, by kernel_rfl, by kernel_rfl, by kernel_rfl⟩
theorem shows_octet_In_Byte : Shows Go.Proofs.Try.prog F_octet_In_Byte code_octet_In_Byte := ⟨_, _, Go.Proofs.Try.func23, rfl, by kernel_rfl, by kernel_rfl, by kernel_rfl, by kernel_rfl, by kernel_rfl⟩
theorem shows_octet_In_Err : Shows Go.Proofs.Try.prog F_octet_In_Err code_octet_In_Err := ⟨_, _, Go.Proofs.Try.func24, rfl, by kernel_rfl, by kernel_rfl, by kernel_rfl, by kernel_rfl, by kernel_rfl⟩
theorem shows_octet_In_Left : Shows Go.Proofs.Try.prog F_octet_In_Left code_octet_In_Left := ⟨_, _, Go.Proofs.Try.func25, rfl, by kernel_rfl, by kernel_rfl, by kernel_rfl, by kernel_rfl, by kernel_rfl⟩
theorem shows_slices_Clone_api_Verdict_api_Verdict : Shows Go.Proofs.Try.prog F_slices_Clone_api_Verdict_api_Verdict code_slices_Clone_api_Verdict_api_Verdict := ⟨_, _, Go.Proofs.Try.func27, rfl, by kernel_rfl, by kernel_rfl, by kernel_rfl, by kernel_rfl, by kernel_rfl⟩
theorem shows_record_Of_1 : Shows Go.Proofs.Try.prog F_record_Of_1 code_record_Of_1 := ⟨_, _, Go.Proofs.Try.func28, rfl, by kernel_rfl, by kernel_rfl, by kernel_rfl, by kernel_rfl, by kernel_rfl⟩
theorem shows_slices_DeleteFunc_api_Verdict_api_Verdict : Shows Go.Proofs.Try.prog F_slices_DeleteFunc_api_Verdict_api_Verdict code_slices_DeleteFunc_api_Verdict_api_Verdict := ⟨_, _, Go.Proofs.Try.func26, rfl, by kernel_rfl, by kernel_rfl, by kernel_rfl, by kernel_rfl, by kernel_rfl⟩
theorem shows_octet_Out_fail : Shows Go.Proofs.Try.prog F_octet_Out_fail code_octet_Out_fail := ⟨_, _, Go.Proofs.Try.func29, rfl, by kernel_rfl, by kernel_rfl, by kernel_rfl, by kernel_rfl, by kernel_rfl⟩
theorem shows_slices_IndexFunc_api_Verdict_api_Verdict : Shows Go.Proofs.Try.prog F_slices_IndexFunc_api_Verdict_api_Verdict code_slices_IndexFunc_api_Verdict_api_Verdict := ⟨_, _, Go.Proofs.Try.func30, rfl, by kernel_rfl, by kernel_rfl, by kernel_rfl, by kernel_rfl, by kernel_rfl⟩
theorem shows_octet_In_take : Shows Go.Proofs.Try.prog F_octet_In_take code_octet_In_take := ⟨_, _, Go.Proofs.Try.func31, rfl, by kernel_rfl, by kernel_rfl, by kernel_rfl, by kernel_rfl, by kernel_rfl⟩
theorem shows_octet_In_bad : Shows Go.Proofs.Try.prog F_octet_In_bad code_octet_In_bad := ⟨_, _, Go.Proofs.Try.func32, rfl, by kernel_rfl, by kernel_rfl, by kernel_rfl, by kernel_rfl, by kernel_rfl⟩
theorem codeL_ok : TableOK Go.Proofs.Try.prog codeL := ⟨shows_law24_RecordWrites,
  ⟨shows_law24_RecordReads,
  ⟨shows_law24_RecordBack,
  ⟨shows_law24_RecordOf,
  ⟨shows_law24_alive,
  ⟨shows_record_Put,
  ⟨shows_ref23_May,
  ⟨shows_record_Check,
  ⟨shows_ref23_Record,
  ⟨shows_record_Read,
  ⟨shows_ref23_Verdicts,
  ⟨shows_plain_Verdicts,
  ⟨shows_record_Of,
  ⟨shows_law24_one,
  ⟨shows_octet_Out_Byte,
  ⟨shows_octet_Out_Done,
  ⟨shows_record_outside,
  ⟨shows_slices_ContainsFunc_api_Verdict_api_Verdict,
  ⟨shows_record_odd,
  ⟨shows_octet_Open,
  ⟨shows_octet_In_Byte,
  ⟨shows_octet_In_Err,
  ⟨shows_octet_In_Left,
  ⟨shows_slices_Clone_api_Verdict_api_Verdict,
  ⟨shows_record_Of_1,
  ⟨shows_slices_DeleteFunc_api_Verdict_api_Verdict,
  ⟨shows_octet_Out_fail,
  ⟨shows_slices_IndexFunc_api_Verdict_api_Verdict,
  ⟨shows_octet_In_take,
  ⟨shows_octet_In_bad,
  trivial⟩⟩⟩⟩⟩⟩⟩⟩⟩⟩⟩⟩⟩⟩⟩⟩⟩⟩⟩⟩⟩⟩⟩⟩⟩⟩⟩⟩⟩⟩
theorem code_ok (f : Nat) (fn : AFunc) (h : code f = some fn) : Shows Go.Proofs.Try.prog f fn := tableAt_ok codeL_ok h
end Bz.S
