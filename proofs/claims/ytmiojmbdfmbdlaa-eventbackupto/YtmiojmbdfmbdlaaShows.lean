/- The code is the program's. -/
import Derived.Test.YtmiojmbdfmbdlaaCode0
import Derived.Test.YtmiojmbdfmbdlaaProg
import Derived.KernelRfl
set_option linter.unusedSimpArgs false
set_option linter.unusedVariables false
set_option maxRecDepth 100000
set_option maxHeartbeats 4000000
namespace Bz.S
open Go Bz
theorem shows_law23_EventReads : Shows Go.Proofs.Try.prog F_law23_EventReads code_law23_EventReads := ⟨_, _, Go.Proofs.Try.func3, rfl, by kernel_rfl, by kernel_rfl, by kernel_rfl, by kernel_rfl, by kernel_rfl⟩
theorem shows_law23_EventBack : Shows Go.Proofs.Try.prog F_law23_EventBack code_law23_EventBack := ⟨_, _, Go.Proofs.Try.func4, rfl, by kernel_rfl, by kernel_rfl, by kernel_rfl, by kernel_rfl, by kernel_rfl⟩
theorem shows_law23_alive : Shows Go.Proofs.Try.prog F_law23_alive code_law23_alive := ⟨_, _, Go.Proofs.Try.func5, rfl, by kernel_rfl, by kernel_rfl, by kernel_rfl, by kernel_rfl, by kernel_rfl⟩
theorem shows_event_Read : Shows Go.Proofs.Try.prog F_event_Read code_event_Read := ⟨_, _, Go.Proofs.Try.func6, rfl, by kernel_rfl, by kernel_rfl, by kernel_rfl, by kernel_rfl, by kernel_rfl⟩
theorem shows_ref23_Read : Shows Go.Proofs.Try.prog F_ref23_Read code_ref23_Read := ⟨_, _, Go.Proofs.Try.func7, rfl, by kernel_rfl, by kernel_rfl, by kernel_rfl, by kernel_rfl, by kernel_rfl⟩
theorem shows_plain_Event : Shows Go.Proofs.Try.prog F_plain_Event code_plain_Event := ⟨_, _, Go.Proofs.Try.func8, rfl, by kernel_rfl, by kernel_rfl, by kernel_rfl, by kernel_rfl, by kernel_rfl⟩
theorem shows_event_Put : Shows Go.Proofs.Try.prog F_event_Put code_event_Put := ⟨_, _, Go.Proofs.Try.func9, rfl, by kernel_rfl, by kernel_rfl, by kernel_rfl, by kernel_rfl, by kernel_rfl⟩
theorem shows_ref23_Check : Shows Go.Proofs.Try.prog F_ref23_Check code_ref23_Check := ⟨_, _, Go.Proofs.Try.func10, rfl, by kernel_rfl, by kernel_rfl, by kernel_rfl, by kernel_rfl, by kernel_rfl⟩
theorem shows_law23_tick : Shows Go.Proofs.Try.prog F_law23_tick code_law23_tick := ⟨_, _, Go.Proofs.Try.func11, rfl, by kernel_rfl, by kernel_rfl, by kernel_rfl, by kernel_rfl, by kernel_rfl⟩
theorem shows_event_Check : Shows Go.Proofs.Try.prog F_event_Check code_event_Check := ⟨_, _, Go.Proofs.Try.func12, rfl, by kernel_rfl, by kernel_rfl, by kernel_rfl, by kernel_rfl, by kernel_rfl⟩
theorem shows_octet_Open : Shows Go.Proofs.Try.prog F_octet_Open code_octet_Open := ⟨_, _, Go.Proofs.Try.func13, rfl, by kernel_rfl, by kernel_rfl, by kernel_rfl, by kernel_rfl, by kernel_rfl⟩
theorem shows_octet_In_Int : Shows Go.Proofs.Try.prog F_octet_In_Int code_octet_In_Int := ⟨_, _, Go.Proofs.Try.func14, rfl, by kernel_rfl, by kernel_rfl, by kernel_rfl, by kernel_rfl, by kernel_rfl⟩
theorem shows_octet_In_Byte : Shows Go.Proofs.Try.prog F_octet_In_Byte code_octet_In_Byte := ⟨_, _, Go.Proofs.Try.func15, rfl, by kernel_rfl, by kernel_rfl, by kernel_rfl, by kernel_rfl, by kernel_rfl⟩
theorem shows_octet_In_Text : Shows Go.Proofs.Try.prog F_octet_In_Text code_octet_In_Text := ⟨_, _, Go.Proofs.Try.func16, rfl, by kernel_rfl, by kernel_rfl, by kernel_rfl, by kernel_rfl, by kernel_rfl⟩
theorem shows_octet_In_Value : Shows Go.Proofs.Try.prog F_octet_In_Value code_octet_In_Value := ⟨_, _, Go.Proofs.Try.func17, rfl, by kernel_rfl, by kernel_rfl, by kernel_rfl, by kernel_rfl, by kernel_rfl⟩
theorem shows_octet_In_Err : Shows Go.Proofs.Try.prog F_octet_In_Err code_octet_In_Err := ⟨_, _, Go.Proofs.Try.func18, rfl, by kernel_rfl, by kernel_rfl, by kernel_rfl, by kernel_rfl, by kernel_rfl⟩
theorem shows_octet_In_Left : Shows Go.Proofs.Try.prog F_octet_In_Left code_octet_In_Left := ⟨_, _, Go.Proofs.Try.func19, rfl, by kernel_rfl, by kernel_rfl, by kernel_rfl, by kernel_rfl, by kernel_rfl⟩
theorem shows_ref04_Number : Shows Go.Proofs.Try.prog F_ref04_Number code_ref04_Number := ⟨_, _, Go.Proofs.Try.func20, rfl, by kernel_rfl, by kernel_rfl, by kernel_rfl, by kernel_rfl, by kernel_rfl⟩
theorem shows_ref04_Byte : Shows Go.Proofs.Try.prog F_ref04_Byte code_ref04_Byte := ⟨_, _, Go.Proofs.Try.func21, rfl, by kernel_rfl, by kernel_rfl, by kernel_rfl, by kernel_rfl, by kernel_rfl⟩
theorem shows_ref04_Words : Shows Go.Proofs.Try.prog F_ref04_Words code_ref04_Words := ⟨_, _, Go.Proofs.Try.func22, rfl, by kernel_rfl, by kernel_rfl, by kernel_rfl, by kernel_rfl, by kernel_rfl⟩
theorem shows_ref04_Thing : Shows Go.Proofs.Try.prog F_ref04_Thing code_ref04_Thing := ⟨_, _, Go.Proofs.Try.func23, rfl, by kernel_rfl, by kernel_rfl, by kernel_rfl, by kernel_rfl, by kernel_rfl⟩
theorem shows_ref04_Left : Shows Go.Proofs.Try.prog F_ref04_Left code_ref04_Left := ⟨_, _, Go.Proofs.Try.func24, rfl, by kernel_rfl, by kernel_rfl, by kernel_rfl, by kernel_rfl, by kernel_rfl⟩
theorem shows_plain_Value : Shows Go.Proofs.Try.prog F_plain_Value code_plain_Value := ⟨_, _, Go.Proofs.Try.func25, rfl, by kernel_rfl, by kernel_rfl, by kernel_rfl, by kernel_rfl, by kernel_rfl⟩
theorem shows_octet_Out_Int : Shows Go.Proofs.Try.prog F_octet_Out_Int code_octet_Out_Int := ⟨_, _, Go.Proofs.Try.func26, rfl, by kernel_rfl, by kernel_rfl, by kernel_rfl, by kernel_rfl, by kernel_rfl⟩
theorem shows_octet_Out_Byte : Shows Go.Proofs.Try.prog F_octet_Out_Byte code_octet_Out_Byte := ⟨_, _, Go.Proofs.Try.func27, rfl, by kernel_rfl, by kernel_rfl, by kernel_rfl, by kernel_rfl, by kernel_rfl⟩
theorem shows_octet_Out_Text : Shows Go.Proofs.Try.prog F_octet_Out_Text code_octet_Out_Text := ⟨_, _, Go.Proofs.Try.func28, rfl, by kernel_rfl, by kernel_rfl, by kernel_rfl, by kernel_rfl, by kernel_rfl⟩
theorem shows_octet_Out_Value : Shows Go.Proofs.Try.prog F_octet_Out_Value code_octet_Out_Value := ⟨_, _, Go.Proofs.Try.func29, rfl, by kernel_rfl, by kernel_rfl, by kernel_rfl, by kernel_rfl, by kernel_rfl⟩
theorem shows_octet_Out_Done : Shows Go.Proofs.Try.prog F_octet_Out_Done code_octet_Out_Done := ⟨_, _, Go.Proofs.Try.func30, rfl, by kernel_rfl, by kernel_rfl, by kernel_rfl, by kernel_rfl, by kernel_rfl⟩
theorem shows_ref06_Name : Shows Go.Proofs.Try.prog F_ref06_Name code_ref06_Name := ⟨_, _, Go.Proofs.Try.func31, rfl, by kernel_rfl, by kernel_rfl, by kernel_rfl, by kernel_rfl, by kernel_rfl⟩
theorem shows_ref02_Check : Shows Go.Proofs.Try.prog F_ref02_Check code_ref02_Check := ⟨_, _, Go.Proofs.Try.func32, rfl, by kernel_rfl, by kernel_rfl, by kernel_rfl, by kernel_rfl, by kernel_rfl⟩
theorem shows_ref23_empty : Shows Go.Proofs.Try.prog F_ref23_empty code_ref23_empty := ⟨_, _, Go.Proofs.Try.func33, rfl, by kernel_rfl, by kernel_rfl, by kernel_rfl, by kernel_rfl, by kernel_rfl⟩
theorem shows_event_blank : Shows Go.Proofs.Try.prog F_event_blank code_event_blank := ⟨_, _, Go.Proofs.Try.func34, rfl, by kernel_rfl, by kernel_rfl, by kernel_rfl, by kernel_rfl, by kernel_rfl⟩
theorem shows_event_named : Shows Go.Proofs.Try.prog F_event_named code_event_named := ⟨_, _, Go.Proofs.Try.func35, rfl, by kernel_rfl, by kernel_rfl, by kernel_rfl, by kernel_rfl, by kernel_rfl⟩
theorem shows_octet_In_take : Shows Go.Proofs.Try.prog F_octet_In_take code_octet_In_take := ⟨_, _, Go.Proofs.Try.func36, rfl, by kernel_rfl, by kernel_rfl, by kernel_rfl, by kernel_rfl, by kernel_rfl⟩
theorem shows_octet_In_body : Shows Go.Proofs.Try.prog F_octet_In_body code_octet_In_body := ⟨_, _, Go.Proofs.Try.func37, rfl, by kernel_rfl, by kernel_rfl, by kernel_rfl, by kernel_rfl, by kernel_rfl⟩
theorem shows_value_Check : Shows Go.Proofs.Try.prog F_value_Check code_value_Check := ⟨_, _, Go.Proofs.Try.func38, rfl, by kernel_rfl, by kernel_rfl, by kernel_rfl, by kernel_rfl, by kernel_rfl⟩
theorem shows_octet_In_bad : Shows Go.Proofs.Try.prog F_octet_In_bad code_octet_In_bad := ⟨_, _, Go.Proofs.Try.func39, rfl, by kernel_rfl, by kernel_rfl, by kernel_rfl, by kernel_rfl, by kernel_rfl⟩
theorem shows_ref04_take : Shows Go.Proofs.Try.prog F_ref04_take code_ref04_take := ⟨_, _, Go.Proofs.Try.func40, rfl, by kernel_rfl, by kernel_rfl, by kernel_rfl, by kernel_rfl, by kernel_rfl⟩
theorem shows_plain_Texts : Shows Go.Proofs.Try.prog F_plain_Texts code_plain_Texts := ⟨_, _, Go.Proofs.Try.func41, rfl, by kernel_rfl, by kernel_rfl, by kernel_rfl, by kernel_rfl, by kernel_rfl⟩
theorem shows_octet_Out_fail : Shows Go.Proofs.Try.prog F_octet_Out_fail code_octet_Out_fail := ⟨_, _, Go.Proofs.Try.func42, rfl, by kernel_rfl, by kernel_rfl, by kernel_rfl, by kernel_rfl, by kernel_rfl⟩
theorem shows_ref06_head : Shows Go.Proofs.Try.prog F_ref06_head code_ref06_head := ⟨_, _, Go.Proofs.Try.func43, rfl, by kernel_rfl, by kernel_rfl, by kernel_rfl, by kernel_rfl, by kernel_rfl⟩
theorem shows_ref06_tail : Shows Go.Proofs.Try.prog F_ref06_tail code_ref06_tail := ⟨_, _, Go.Proofs.Try.func44, rfl, by kernel_rfl, by kernel_rfl, by kernel_rfl, by kernel_rfl, by kernel_rfl⟩
theorem shows_ref02_bad : Shows Go.Proofs.Try.prog F_ref02_bad code_ref02_bad := ⟨_, _, Go.Proofs.Try.func45, rfl, by kernel_rfl, by kernel_rfl, by kernel_rfl, by kernel_rfl, by kernel_rfl⟩
theorem shows_value_Same : Shows Go.Proofs.Try.prog F_value_Same code_value_Same := ⟨_, _, Go.Proofs.Try.func46, rfl, by kernel_rfl, by kernel_rfl, by kernel_rfl, by kernel_rfl, by kernel_rfl⟩
theorem shows_lex_Name : Shows Go.Proofs.Try.prog F_lex_Name code_lex_Name := ⟨_, _, Go.Proofs.Try.func47, rfl, by kernel_rfl, by kernel_rfl, by kernel_rfl, by kernel_rfl, by kernel_rfl⟩
theorem shows_value_long : Shows Go.Proofs.Try.prog F_value_long code_value_long := ⟨_, _, Go.Proofs.Try.func48, rfl, by kernel_rfl, by kernel_rfl, by kernel_rfl, by kernel_rfl, by kernel_rfl⟩
theorem shows_slices_ContainsFunc_string_string : Shows Go.Proofs.Try.prog F_slices_ContainsFunc_string_string code_slices_ContainsFunc_string_string := ⟨_, _, Go.Proofs.Try.func49, rfl, by kernel_rfl, by kernel_rfl, by kernel_rfl, by kernel_rfl, by kernel_rfl⟩
theorem shows_value_odd : Shows Go.Proofs.Try.prog F_value_odd code_value_odd := ⟨_, _, Go.Proofs.Try.func50, rfl, by kernel_rfl, by kernel_rfl, by kernel_rfl, by kernel_rfl, by kernel_rfl⟩
theorem shows_value_Cmp : Shows Go.Proofs.Try.prog F_value_Cmp code_value_Cmp := ⟨_, _, Go.Proofs.Try.func51, rfl, by kernel_rfl, by kernel_rfl, by kernel_rfl, by kernel_rfl, by kernel_rfl⟩
theorem shows_lex_letter : Shows Go.Proofs.Try.prog F_lex_letter code_lex_letter := ⟨_, _, Go.Proofs.Try.func52, rfl, by kernel_rfl, by kernel_rfl, by kernel_rfl, by kernel_rfl, by kernel_rfl⟩
theorem shows_lex_digit : Shows Go.Proofs.Try.prog F_lex_digit code_lex_digit := ⟨_, _, Go.Proofs.Try.func53, rfl, by kernel_rfl, by kernel_rfl, by kernel_rfl, by kernel_rfl, by kernel_rfl⟩
theorem shows_slices_IndexFunc_string_string : Shows Go.Proofs.Try.prog F_slices_IndexFunc_string_string code_slices_IndexFunc_string_string := ⟨_, _, Go.Proofs.Try.func54, rfl, by kernel_rfl, by kernel_rfl, by kernel_rfl, by kernel_rfl, by kernel_rfl⟩
theorem shows_value_rises : Shows Go.Proofs.Try.prog F_value_rises code_value_rises := ⟨_, _, Go.Proofs.Try.func55, rfl, by kernel_rfl, by kernel_rfl, by kernel_rfl, by kernel_rfl, by kernel_rfl⟩
theorem shows_cmp_Compare_int : Shows Go.Proofs.Try.prog F_cmp_Compare_int code_cmp_Compare_int := ⟨_, _, Go.Proofs.Try.func57, rfl, by kernel_rfl, by kernel_rfl, by kernel_rfl, by kernel_rfl, by kernel_rfl⟩
theorem shows_cmp_Compare_int64 : Shows Go.Proofs.Try.prog F_cmp_Compare_int64 code_cmp_Compare_int64 := ⟨_, _, Go.Proofs.Try.func58, rfl, by kernel_rfl, by kernel_rfl, by kernel_rfl, by kernel_rfl, by kernel_rfl⟩
theorem shows_cmp_Compare_string : Shows Go.Proofs.Try.prog F_cmp_Compare_string code_cmp_Compare_string := ⟨_, _, Go.Proofs.Try.func59, rfl, by kernel_rfl, by kernel_rfl, by kernel_rfl, by kernel_rfl, by kernel_rfl⟩
theorem shows_slices_Compare_string_string : Shows Go.Proofs.Try.prog F_slices_Compare_string_string code_slices_Compare_string_string := ⟨_, _, Go.Proofs.Try.func60, rfl, by kernel_rfl, by kernel_rfl, by kernel_rfl, by kernel_rfl, by kernel_rfl⟩
theorem shows_cmp_Or_int : Shows Go.Proofs.Try.prog F_cmp_Or_int code_cmp_Or_int := ⟨_, _, Go.Proofs.Try.func56, rfl, by kernel_rfl, by kernel_rfl, by kernel_rfl, by kernel_rfl, by kernel_rfl⟩
theorem shows_cmp_isNaN_int : Shows Go.Proofs.Try.prog F_cmp_isNaN_int code_cmp_isNaN_int := ⟨_, _, Go.Proofs.Try.func61, rfl, by kernel_rfl, by kernel_rfl, by kernel_rfl, by kernel_rfl, by kernel_rfl⟩
theorem shows_cmp_isNaN_int64 : Shows Go.Proofs.Try.prog F_cmp_isNaN_int64 code_cmp_isNaN_int64 := ⟨_, _, Go.Proofs.Try.func62, rfl, by kernel_rfl, by kernel_rfl, by kernel_rfl, by kernel_rfl, by kernel_rfl⟩
theorem shows_cmp_isNaN_string : Shows Go.Proofs.Try.prog F_cmp_isNaN_string code_cmp_isNaN_string := ⟨_, _, Go.Proofs.Try.func63, rfl, by kernel_rfl, by kernel_rfl, by kernel_rfl, by kernel_rfl, by kernel_rfl⟩
theorem codeL_ok : TableOK Go.Proofs.Try.prog codeL := ⟨shows_law23_EventReads,
  ⟨shows_law23_EventBack,
  ⟨shows_law23_alive,
  ⟨shows_event_Read,
  ⟨shows_ref23_Read,
  ⟨shows_plain_Event,
  ⟨shows_event_Put,
  ⟨shows_ref23_Check,
  ⟨shows_law23_tick,
  ⟨shows_event_Check,
  ⟨shows_octet_Open,
  ⟨shows_octet_In_Int,
  ⟨shows_octet_In_Byte,
  ⟨shows_octet_In_Text,
  ⟨shows_octet_In_Value,
  ⟨shows_octet_In_Err,
  ⟨shows_octet_In_Left,
  ⟨shows_ref04_Number,
  ⟨shows_ref04_Byte,
  ⟨shows_ref04_Words,
  ⟨shows_ref04_Thing,
  ⟨shows_ref04_Left,
  ⟨shows_plain_Value,
  ⟨shows_octet_Out_Int,
  ⟨shows_octet_Out_Byte,
  ⟨shows_octet_Out_Text,
  ⟨shows_octet_Out_Value,
  ⟨shows_octet_Out_Done,
  ⟨shows_ref06_Name,
  ⟨shows_ref02_Check,
  ⟨shows_ref23_empty,
  ⟨shows_event_blank,
  ⟨shows_event_named,
  ⟨shows_octet_In_take,
  ⟨shows_octet_In_body,
  ⟨shows_value_Check,
  ⟨shows_octet_In_bad,
  ⟨shows_ref04_take,
  ⟨shows_plain_Texts,
  ⟨shows_octet_Out_fail,
  ⟨shows_ref06_head,
  ⟨shows_ref06_tail,
  ⟨shows_ref02_bad,
  ⟨shows_value_Same,
  ⟨shows_lex_Name,
  ⟨shows_value_long,
  ⟨shows_slices_ContainsFunc_string_string,
  ⟨shows_value_odd,
  ⟨shows_value_Cmp,
  ⟨shows_lex_letter,
  ⟨shows_lex_digit,
  ⟨shows_slices_IndexFunc_string_string,
  ⟨shows_value_rises,
  ⟨shows_cmp_Compare_int,
  ⟨shows_cmp_Compare_int64,
  ⟨shows_cmp_Compare_string,
  ⟨shows_slices_Compare_string_string,
  ⟨shows_cmp_Or_int,
  ⟨shows_cmp_isNaN_int,
  ⟨shows_cmp_isNaN_int64,
  ⟨shows_cmp_isNaN_string,
  trivial⟩⟩⟩⟩⟩⟩⟩⟩⟩⟩⟩⟩⟩⟩⟩⟩⟩⟩⟩⟩⟩⟩⟩⟩⟩⟩⟩⟩⟩⟩⟩⟩⟩⟩⟩⟩⟩⟩⟩⟩⟩⟩⟩⟩⟩⟩⟩⟩⟩⟩⟩⟩⟩⟩⟩⟩⟩⟩⟩⟩⟩
theorem code_ok (f : Nat) (fn : AFunc) (h : code f = some fn) : Shows Go.Proofs.Try.prog f fn := tableAt_ok codeL_ok h
end Bz.S
