/- The code is the program's. -/
import Derived.Test.YtfhkjoebkiigoaaCode0
import Derived.Test.YtfhkjoebkiigoaaProg
import Derived.KernelRfl
set_option linter.unusedSimpArgs false
set_option linter.unusedVariables false
set_option maxRecDepth 100000
set_option maxHeartbeats 4000000
namespace Bz.S
open Go Bz
theorem shows_law14_PackWrites : Shows Go.Proofs.Try.prog F_law14_PackWrites code_law14_PackWrites := ⟨_, _, Go.Proofs.Try.func3, rfl, by kernel_rfl, by kernel_rfl, by kernel_rfl, by kernel_rfl, by kernel_rfl⟩
theorem shows_law14_PackReads : Shows Go.Proofs.Try.prog F_law14_PackReads code_law14_PackReads := ⟨_, _, Go.Proofs.Try.func4, rfl, by kernel_rfl, by kernel_rfl, by kernel_rfl, by kernel_rfl, by kernel_rfl⟩
theorem shows_law14_PackBack : Shows Go.Proofs.Try.prog F_law14_PackBack code_law14_PackBack := ⟨_, _, Go.Proofs.Try.func5, rfl, by kernel_rfl, by kernel_rfl, by kernel_rfl, by kernel_rfl, by kernel_rfl⟩
theorem shows_law14_PackOnce : Shows Go.Proofs.Try.prog F_law14_PackOnce code_law14_PackOnce := ⟨_, _, Go.Proofs.Try.func6, rfl, by kernel_rfl, by kernel_rfl, by kernel_rfl, by kernel_rfl, by kernel_rfl⟩
theorem shows_law14_alive : Shows Go.Proofs.Try.prog F_law14_alive code_law14_alive := ⟨_, _, Go.Proofs.Try.func7, rfl, by kernel_rfl, by kernel_rfl, by kernel_rfl, by kernel_rfl, by kernel_rfl⟩
theorem shows_pack_Put : Shows Go.Proofs.Try.prog F_pack_Put code_pack_Put := ⟨_, _, Go.Proofs.Try.func8, rfl, by kernel_rfl, by kernel_rfl, by kernel_rfl, by kernel_rfl, by kernel_rfl⟩
theorem shows_law14_rows : Shows Go.Proofs.Try.prog F_law14_rows code_law14_rows := ⟨_, _, Go.Proofs.Try.func10, rfl, by kernel_rfl, by kernel_rfl, by kernel_rfl, by kernel_rfl, by kernel_rfl⟩
theorem shows_ref13_Back : Shows Go.Proofs.Try.prog F_ref13_Back code_ref13_Back := ⟨_, _, Go.Proofs.Try.func9, rfl, by kernel_rfl, by kernel_rfl, by kernel_rfl, by kernel_rfl, by kernel_rfl⟩
theorem shows_ref13_Octets : Shows Go.Proofs.Try.prog F_ref13_Octets code_ref13_Octets := ⟨_, _, Go.Proofs.Try.func11, rfl, by kernel_rfl, by kernel_rfl, by kernel_rfl, by kernel_rfl, by kernel_rfl⟩
theorem shows_pack_Expr : Shows Go.Proofs.Try.prog F_pack_Expr code_pack_Expr := ⟨_, _, Go.Proofs.Try.func12, rfl, by kernel_rfl, by kernel_rfl, by kernel_rfl, by kernel_rfl, by kernel_rfl⟩
theorem shows_ref07_Check : Shows Go.Proofs.Try.prog F_ref07_Check code_ref07_Check := ⟨_, _, Go.Proofs.Try.func13, rfl, by kernel_rfl, by kernel_rfl, by kernel_rfl, by kernel_rfl, by kernel_rfl⟩
theorem shows_ref13_Of : Shows Go.Proofs.Try.prog F_ref13_Of code_ref13_Of := ⟨_, _, Go.Proofs.Try.func14, rfl, by kernel_rfl, by kernel_rfl, by kernel_rfl, by kernel_rfl, by kernel_rfl⟩
theorem shows_ref13_Read : Shows Go.Proofs.Try.prog F_ref13_Read code_ref13_Read := ⟨_, _, Go.Proofs.Try.func15, rfl, by kernel_rfl, by kernel_rfl, by kernel_rfl, by kernel_rfl, by kernel_rfl⟩
theorem shows_pack_Read : Shows Go.Proofs.Try.prog F_pack_Read code_pack_Read := ⟨_, _, Go.Proofs.Try.func16, rfl, by kernel_rfl, by kernel_rfl, by kernel_rfl, by kernel_rfl, by kernel_rfl⟩
theorem shows_pack_Back : Shows Go.Proofs.Try.prog F_pack_Back code_pack_Back := ⟨_, _, Go.Proofs.Try.func17, rfl, by kernel_rfl, by kernel_rfl, by kernel_rfl, by kernel_rfl, by kernel_rfl⟩
theorem shows_plain_Expr : Shows Go.Proofs.Try.prog F_plain_Expr code_plain_Expr := ⟨_, _, Go.Proofs.Try.func18, rfl, by kernel_rfl, by kernel_rfl, by kernel_rfl, by kernel_rfl, by kernel_rfl⟩
theorem shows_ref13_Same : Shows Go.Proofs.Try.prog F_ref13_Same code_ref13_Same := ⟨_, _, Go.Proofs.Try.func19, rfl, by kernel_rfl, by kernel_rfl, by kernel_rfl, by kernel_rfl, by kernel_rfl⟩
theorem shows_table_Check : Shows Go.Proofs.Try.prog F_table_Check code_table_Check := ⟨_, _, Go.Proofs.Try.func20, rfl, by kernel_rfl, by kernel_rfl, by kernel_rfl, by kernel_rfl, by kernel_rfl⟩
theorem shows_octet_Out_Byte : Shows Go.Proofs.Try.prog F_octet_Out_Byte code_octet_Out_Byte := ⟨_, _, Go.Proofs.Try.func21, rfl, by kernel_rfl, by kernel_rfl, by kernel_rfl, by kernel_rfl, by kernel_rfl⟩
theorem shows_pack_row : Shows Go.Proofs.Try.prog F_pack_row code_pack_row := ⟨_, _, Go.Proofs.Try.func22, rfl, by kernel_rfl, by kernel_rfl, by kernel_rfl, by kernel_rfl, by kernel_rfl⟩
theorem shows_octet_Out_Done : Shows Go.Proofs.Try.prog F_octet_Out_Done code_octet_Out_Done := ⟨_, _, Go.Proofs.Try.func23, rfl, by kernel_rfl, by kernel_rfl, by kernel_rfl, by kernel_rfl, by kernel_rfl⟩
theorem shows_ref13_grow : Shows Go.Proofs.Try.prog F_ref13_grow code_ref13_grow := ⟨_, _, Go.Proofs.Try.func24, rfl, by kernel_rfl, by kernel_rfl, by kernel_rfl, by kernel_rfl, by kernel_rfl⟩
theorem shows_ref04_Text : Shows Go.Proofs.Try.prog F_ref04_Text code_ref04_Text := ⟨_, _, Go.Proofs.Try.func25, rfl, by kernel_rfl, by kernel_rfl, by kernel_rfl, by kernel_rfl, by kernel_rfl⟩
theorem shows_ref04_Int : Shows Go.Proofs.Try.prog F_ref04_Int code_ref04_Int := ⟨_, _, Go.Proofs.Try.func26, rfl, by kernel_rfl, by kernel_rfl, by kernel_rfl, by kernel_rfl, by kernel_rfl⟩
theorem shows_ast_Check : Shows Go.Proofs.Try.prog F_ast_Check code_ast_Check := ⟨_, _, Go.Proofs.Try.func27, rfl, by kernel_rfl, by kernel_rfl, by kernel_rfl, by kernel_rfl, by kernel_rfl⟩
theorem shows_table_Of : Shows Go.Proofs.Try.prog F_table_Of code_table_Of := ⟨_, _, Go.Proofs.Try.func28, rfl, by kernel_rfl, by kernel_rfl, by kernel_rfl, by kernel_rfl, by kernel_rfl⟩
theorem shows_ref07_Depth : Shows Go.Proofs.Try.prog F_ref07_Depth code_ref07_Depth := ⟨_, _, Go.Proofs.Try.func29, rfl, by kernel_rfl, by kernel_rfl, by kernel_rfl, by kernel_rfl, by kernel_rfl⟩
theorem shows_ref07_All : Shows Go.Proofs.Try.prog F_ref07_All code_ref07_All := ⟨_, _, Go.Proofs.Try.func30, rfl, by kernel_rfl, by kernel_rfl, by kernel_rfl, by kernel_rfl, by kernel_rfl⟩
theorem shows_ref07_Kids : Shows Go.Proofs.Try.prog F_ref07_Kids code_ref07_Kids := ⟨_, _, Go.Proofs.Try.func31, rfl, by kernel_rfl, by kernel_rfl, by kernel_rfl, by kernel_rfl, by kernel_rfl⟩
theorem shows_ref07_set : Shows Go.Proofs.Try.prog F_ref07_set code_ref07_set := ⟨_, _, Go.Proofs.Try.func32, rfl, by kernel_rfl, by kernel_rfl, by kernel_rfl, by kernel_rfl, by kernel_rfl⟩
theorem shows_ref07_fits : Shows Go.Proofs.Try.prog F_ref07_fits code_ref07_fits := ⟨_, _, Go.Proofs.Try.func33, rfl, by kernel_rfl, by kernel_rfl, by kernel_rfl, by kernel_rfl, by kernel_rfl⟩
theorem shows_ref04_Byte : Shows Go.Proofs.Try.prog F_ref04_Byte code_ref04_Byte := ⟨_, _, Go.Proofs.Try.func34, rfl, by kernel_rfl, by kernel_rfl, by kernel_rfl, by kernel_rfl, by kernel_rfl⟩
theorem shows_ref13_row : Shows Go.Proofs.Try.prog F_ref13_row code_ref13_row := ⟨_, _, Go.Proofs.Try.func35, rfl, by kernel_rfl, by kernel_rfl, by kernel_rfl, by kernel_rfl, by kernel_rfl⟩
theorem shows_ref04_Left : Shows Go.Proofs.Try.prog F_ref04_Left code_ref04_Left := ⟨_, _, Go.Proofs.Try.func36, rfl, by kernel_rfl, by kernel_rfl, by kernel_rfl, by kernel_rfl, by kernel_rfl⟩
theorem shows_octet_Open : Shows Go.Proofs.Try.prog F_octet_Open code_octet_Open := ⟨_, _, Go.Proofs.Try.func37, rfl, by kernel_rfl, by kernel_rfl, by kernel_rfl, by kernel_rfl, by kernel_rfl⟩
theorem shows_octet_In_Byte : Shows Go.Proofs.Try.prog F_octet_In_Byte code_octet_In_Byte := ⟨_, _, Go.Proofs.Try.func38, rfl, by kernel_rfl, by kernel_rfl, by kernel_rfl, by kernel_rfl, by kernel_rfl⟩
theorem shows_pack_get : Shows Go.Proofs.Try.prog F_pack_get code_pack_get := ⟨_, _, Go.Proofs.Try.func39, rfl, by kernel_rfl, by kernel_rfl, by kernel_rfl, by kernel_rfl, by kernel_rfl⟩
theorem shows_octet_In_Err : Shows Go.Proofs.Try.prog F_octet_In_Err code_octet_In_Err := ⟨_, _, Go.Proofs.Try.func40, rfl, by kernel_rfl, by kernel_rfl, by kernel_rfl, by kernel_rfl, by kernel_rfl⟩
theorem shows_octet_In_Left : Shows Go.Proofs.Try.prog F_octet_In_Left code_octet_In_Left := ⟨_, _, Go.Proofs.Try.func41, rfl, by kernel_rfl, by kernel_rfl, by kernel_rfl, by kernel_rfl, by kernel_rfl⟩
theorem shows_table_Back : Shows Go.Proofs.Try.prog F_table_Back code_table_Back := ⟨_, _, Go.Proofs.Try.func42, rfl, by kernel_rfl, by kernel_rfl, by kernel_rfl, by kernel_rfl, by kernel_rfl⟩
theorem shows_octet_Out_fail : Shows Go.Proofs.Try.prog F_octet_Out_fail code_octet_Out_fail := ⟨_, _, Go.Proofs.Try.func43, rfl, by kernel_rfl, by kernel_rfl, by kernel_rfl, by kernel_rfl, by kernel_rfl⟩
theorem shows_octet_Out_Text : Shows Go.Proofs.Try.prog F_octet_Out_Text code_octet_Out_Text := ⟨_, _, Go.Proofs.Try.func44, rfl, by kernel_rfl, by kernel_rfl, by kernel_rfl, by kernel_rfl, by kernel_rfl⟩
theorem shows_octet_Out_Int : Shows Go.Proofs.Try.prog F_octet_Out_Int code_octet_Out_Int := ⟨_, _, Go.Proofs.Try.func45, rfl, by kernel_rfl, by kernel_rfl, by kernel_rfl, by kernel_rfl, by kernel_rfl⟩
theorem shows_ast_Depth : Shows Go.Proofs.Try.prog F_ast_Depth code_ast_Depth := ⟨_, _, Go.Proofs.Try.func46, rfl, by kernel_rfl, by kernel_rfl, by kernel_rfl, by kernel_rfl, by kernel_rfl⟩
theorem shows_ast_Size : Shows Go.Proofs.Try.prog F_ast_Size code_ast_Size := ⟨_, _, Go.Proofs.Try.func47, rfl, by kernel_rfl, by kernel_rfl, by kernel_rfl, by kernel_rfl, by kernel_rfl⟩
theorem shows_ast_may : Shows Go.Proofs.Try.prog F_ast_may code_ast_may := ⟨_, _, Go.Proofs.Try.func48, rfl, by kernel_rfl, by kernel_rfl, by kernel_rfl, by kernel_rfl, by kernel_rfl⟩
theorem shows_table_Of_1 : Shows Go.Proofs.Try.prog F_table_Of_1 code_table_Of_1 := ⟨_, _, Go.Proofs.Try.func49, rfl, by kernel_rfl, by kernel_rfl, by kernel_rfl, by kernel_rfl, by kernel_rfl⟩
theorem shows_ref06_Plain : Shows Go.Proofs.Try.prog F_ref06_Plain code_ref06_Plain := ⟨_, _, Go.Proofs.Try.func51, rfl, by kernel_rfl, by kernel_rfl, by kernel_rfl, by kernel_rfl, by kernel_rfl⟩
theorem shows_ref06_Name : Shows Go.Proofs.Try.prog F_ref06_Name code_ref06_Name := ⟨_, _, Go.Proofs.Try.func52, rfl, by kernel_rfl, by kernel_rfl, by kernel_rfl, by kernel_rfl, by kernel_rfl⟩
theorem shows_ref04_take : Shows Go.Proofs.Try.prog F_ref04_take code_ref04_take := ⟨_, _, Go.Proofs.Try.func53, rfl, by kernel_rfl, by kernel_rfl, by kernel_rfl, by kernel_rfl, by kernel_rfl⟩
theorem shows_ref04_Words : Shows Go.Proofs.Try.prog F_ref04_Words code_ref04_Words := ⟨_, _, Go.Proofs.Try.func54, rfl, by kernel_rfl, by kernel_rfl, by kernel_rfl, by kernel_rfl, by kernel_rfl⟩
theorem shows_ref04_Number : Shows Go.Proofs.Try.prog F_ref04_Number code_ref04_Number := ⟨_, _, Go.Proofs.Try.func55, rfl, by kernel_rfl, by kernel_rfl, by kernel_rfl, by kernel_rfl, by kernel_rfl⟩
theorem shows_octet_In_take : Shows Go.Proofs.Try.prog F_octet_In_take code_octet_In_take := ⟨_, _, Go.Proofs.Try.func56, rfl, by kernel_rfl, by kernel_rfl, by kernel_rfl, by kernel_rfl, by kernel_rfl⟩
theorem shows_octet_In_Text : Shows Go.Proofs.Try.prog F_octet_In_Text code_octet_In_Text := ⟨_, _, Go.Proofs.Try.func57, rfl, by kernel_rfl, by kernel_rfl, by kernel_rfl, by kernel_rfl, by kernel_rfl⟩
theorem shows_octet_In_Int : Shows Go.Proofs.Try.prog F_octet_In_Int code_octet_In_Int := ⟨_, _, Go.Proofs.Try.func58, rfl, by kernel_rfl, by kernel_rfl, by kernel_rfl, by kernel_rfl, by kernel_rfl⟩
theorem shows_table_back : Shows Go.Proofs.Try.prog F_table_back code_table_back := ⟨_, _, Go.Proofs.Try.func59, rfl, by kernel_rfl, by kernel_rfl, by kernel_rfl, by kernel_rfl, by kernel_rfl⟩
theorem shows_slices_EqualFunc_table_Row_table_Row_table_Row_table_Row : Shows Go.Proofs.Try.prog F_slices_EqualFunc_table_Row_table_Row_table_Row_table_Row code_slices_EqualFunc_table_Row_table_Row_table_Row_table_Row := ⟨_, _, Go.Proofs.Try.func60, rfl, by kernel_rfl, by kernel_rfl, by kernel_rfl, by kernel_rfl, by kernel_rfl⟩
theorem shows_table_same : Shows Go.Proofs.Try.prog F_table_same code_table_same := ⟨_, _, Go.Proofs.Try.func61, rfl, by kernel_rfl, by kernel_rfl, by kernel_rfl, by kernel_rfl, by kernel_rfl⟩
theorem shows_ast_Clone : Shows Go.Proofs.Try.prog F_ast_Clone code_ast_Clone := ⟨_, _, Go.Proofs.Try.func62, rfl, by kernel_rfl, by kernel_rfl, by kernel_rfl, by kernel_rfl, by kernel_rfl⟩
theorem shows_ast_inner : Shows Go.Proofs.Try.prog F_ast_inner code_ast_inner := ⟨_, _, Go.Proofs.Try.func63, rfl, by kernel_rfl, by kernel_rfl, by kernel_rfl, by kernel_rfl, by kernel_rfl⟩
theorem shows_ast_own : Shows Go.Proofs.Try.prog F_ast_own code_ast_own := ⟨_, _, Go.Proofs.Try.func64, rfl, by kernel_rfl, by kernel_rfl, by kernel_rfl, by kernel_rfl, by kernel_rfl⟩
theorem shows_ast_texts : Shows Go.Proofs.Try.prog F_ast_texts code_ast_texts := ⟨_, _, Go.Proofs.Try.func65, rfl, by kernel_rfl, by kernel_rfl, by kernel_rfl, by kernel_rfl, by kernel_rfl⟩
theorem shows_ast_Kids : Shows Go.Proofs.Try.prog F_ast_Kids code_ast_Kids := ⟨_, _, Go.Proofs.Try.func66, rfl, by kernel_rfl, by kernel_rfl, by kernel_rfl, by kernel_rfl, by kernel_rfl⟩
theorem shows_slices_ContainsFunc_api_Expr_api_Expr : Shows Go.Proofs.Try.prog F_slices_ContainsFunc_api_Expr_api_Expr code_slices_ContainsFunc_api_Expr_api_Expr := ⟨_, _, Go.Proofs.Try.func67, rfl, by kernel_rfl, by kernel_rfl, by kernel_rfl, by kernel_rfl, by kernel_rfl⟩
theorem shows_ast_may_1 : Shows Go.Proofs.Try.prog F_ast_may_1 code_ast_may_1 := ⟨_, _, Go.Proofs.Try.func68, rfl, by kernel_rfl, by kernel_rfl, by kernel_rfl, by kernel_rfl, by kernel_rfl⟩
theorem shows_table_own : Shows Go.Proofs.Try.prog F_table_own code_table_own := ⟨_, _, Go.Proofs.Try.func50, rfl, by kernel_rfl, by kernel_rfl, by kernel_rfl, by kernel_rfl, by kernel_rfl⟩
theorem shows_ref06_head : Shows Go.Proofs.Try.prog F_ref06_head code_ref06_head := ⟨_, _, Go.Proofs.Try.func69, rfl, by kernel_rfl, by kernel_rfl, by kernel_rfl, by kernel_rfl, by kernel_rfl⟩
theorem shows_ref06_tail : Shows Go.Proofs.Try.prog F_ref06_tail code_ref06_tail := ⟨_, _, Go.Proofs.Try.func70, rfl, by kernel_rfl, by kernel_rfl, by kernel_rfl, by kernel_rfl, by kernel_rfl⟩
theorem shows_octet_In_bad : Shows Go.Proofs.Try.prog F_octet_In_bad code_octet_In_bad := ⟨_, _, Go.Proofs.Try.func71, rfl, by kernel_rfl, by kernel_rfl, by kernel_rfl, by kernel_rfl, by kernel_rfl⟩
theorem shows_slices_Equal_string_string : Shows Go.Proofs.Try.prog F_slices_Equal_string_string code_slices_Equal_string_string := ⟨_, _, Go.Proofs.Try.func72, rfl, by kernel_rfl, by kernel_rfl, by kernel_rfl, by kernel_rfl, by kernel_rfl⟩
theorem shows_slices_Equal_int_int : Shows Go.Proofs.Try.prog F_slices_Equal_int_int code_slices_Equal_int_int := ⟨_, _, Go.Proofs.Try.func73, rfl, by kernel_rfl, by kernel_rfl, by kernel_rfl, by kernel_rfl, by kernel_rfl⟩
theorem shows_lex_Plain : Shows Go.Proofs.Try.prog F_lex_Plain code_lex_Plain := ⟨_, _, Go.Proofs.Try.func74, rfl, by kernel_rfl, by kernel_rfl, by kernel_rfl, by kernel_rfl, by kernel_rfl⟩
theorem shows_lex_Name : Shows Go.Proofs.Try.prog F_lex_Name code_lex_Name := ⟨_, _, Go.Proofs.Try.func75, rfl, by kernel_rfl, by kernel_rfl, by kernel_rfl, by kernel_rfl, by kernel_rfl⟩
theorem shows_ast_span : Shows Go.Proofs.Try.prog F_ast_span code_ast_span := ⟨_, _, Go.Proofs.Try.func76, rfl, by kernel_rfl, by kernel_rfl, by kernel_rfl, by kernel_rfl, by kernel_rfl⟩
theorem shows_slices_IndexFunc_api_Expr_api_Expr : Shows Go.Proofs.Try.prog F_slices_IndexFunc_api_Expr_api_Expr code_slices_IndexFunc_api_Expr_api_Expr := ⟨_, _, Go.Proofs.Try.func77, rfl, by kernel_rfl, by kernel_rfl, by kernel_rfl, by kernel_rfl, by kernel_rfl⟩
theorem shows_strings_IndexByte : Shows Go.Proofs.Try.prog F_strings_IndexByte code_strings_IndexByte := ⟨_, _, Go.Proofs.Try.func78, rfl, by kernel_rfl, by kernel_rfl, by kernel_rfl, by kernel_rfl, by kernel_rfl⟩
theorem shows_lex_letter : Shows Go.Proofs.Try.prog F_lex_letter code_lex_letter := ⟨_, _, Go.Proofs.Try.func79, rfl, by kernel_rfl, by kernel_rfl, by kernel_rfl, by kernel_rfl, by kernel_rfl⟩
theorem shows_lex_digit : Shows Go.Proofs.Try.prog F_lex_digit code_lex_digit := ⟨_, _, Go.Proofs.Try.func80, rfl, by kernel_rfl, by kernel_rfl, by kernel_rfl, by kernel_rfl, by kernel_rfl⟩
theorem shows_internal_stringslite_IndexByte : Shows Go.Proofs.Try.prog F_internal_stringslite_IndexByte code_internal_stringslite_IndexByte := ⟨_, _, Go.Proofs.Try.func81, rfl, by kernel_rfl, by kernel_rfl, by kernel_rfl, by kernel_rfl, by kernel_rfl⟩
theorem codeL_ok : TableOK Go.Proofs.Try.prog codeL := ⟨shows_law14_PackWrites,
  ⟨shows_law14_PackReads,
  ⟨shows_law14_PackBack,
  ⟨shows_law14_PackOnce,
  ⟨shows_law14_alive,
  ⟨shows_pack_Put,
  ⟨shows_law14_rows,
  ⟨shows_ref13_Back,
  ⟨shows_ref13_Octets,
  ⟨shows_pack_Expr,
  ⟨shows_ref07_Check,
  ⟨shows_ref13_Of,
  ⟨shows_ref13_Read,
  ⟨shows_pack_Read,
  ⟨shows_pack_Back,
  ⟨shows_plain_Expr,
  ⟨shows_ref13_Same,
  ⟨shows_table_Check,
  ⟨shows_octet_Out_Byte,
  ⟨shows_pack_row,
  ⟨shows_octet_Out_Done,
  ⟨shows_ref13_grow,
  ⟨shows_ref04_Text,
  ⟨shows_ref04_Int,
  ⟨shows_ast_Check,
  ⟨shows_table_Of,
  ⟨shows_ref07_Depth,
  ⟨shows_ref07_All,
  ⟨shows_ref07_Kids,
  ⟨shows_ref07_set,
  ⟨shows_ref07_fits,
  ⟨shows_ref04_Byte,
  ⟨shows_ref13_row,
  ⟨shows_ref04_Left,
  ⟨shows_octet_Open,
  ⟨shows_octet_In_Byte,
  ⟨shows_pack_get,
  ⟨shows_octet_In_Err,
  ⟨shows_octet_In_Left,
  ⟨shows_table_Back,
  ⟨shows_octet_Out_fail,
  ⟨shows_octet_Out_Text,
  ⟨shows_octet_Out_Int,
  ⟨shows_ast_Depth,
  ⟨shows_ast_Size,
  ⟨shows_ast_may,
  ⟨shows_table_Of_1,
  ⟨shows_ref06_Plain,
  ⟨shows_ref06_Name,
  ⟨shows_ref04_take,
  ⟨shows_ref04_Words,
  ⟨shows_ref04_Number,
  ⟨shows_octet_In_take,
  ⟨shows_octet_In_Text,
  ⟨shows_octet_In_Int,
  ⟨shows_table_back,
  ⟨shows_slices_EqualFunc_table_Row_table_Row_table_Row_table_Row,
  ⟨shows_table_same,
  ⟨shows_ast_Clone,
  ⟨shows_ast_inner,
  ⟨shows_ast_own,
  ⟨shows_ast_texts,
  ⟨shows_ast_Kids,
  ⟨shows_slices_ContainsFunc_api_Expr_api_Expr,
  ⟨shows_ast_may_1,
  ⟨shows_table_own,
  ⟨shows_ref06_head,
  ⟨shows_ref06_tail,
  ⟨shows_octet_In_bad,
  ⟨shows_slices_Equal_string_string,
  ⟨shows_slices_Equal_int_int,
  ⟨shows_lex_Plain,
  ⟨shows_lex_Name,
  ⟨shows_ast_span,
  ⟨shows_slices_IndexFunc_api_Expr_api_Expr,
  ⟨shows_strings_IndexByte,
  ⟨shows_lex_letter,
  ⟨shows_lex_digit,
  ⟨shows_internal_stringslite_IndexByte,
  trivial⟩⟩⟩⟩⟩⟩⟩⟩⟩⟩⟩⟩⟩⟩⟩⟩⟩⟩⟩⟩⟩⟩⟩⟩⟩⟩⟩⟩⟩⟩⟩⟩⟩⟩⟩⟩⟩⟩⟩⟩⟩⟩⟩⟩⟩⟩⟩⟩⟩⟩⟩⟩⟩⟩⟩⟩⟩⟩⟩⟩⟩⟩⟩⟩⟩⟩⟩⟩⟩⟩⟩⟩⟩⟩⟩⟩⟩⟩⟩
theorem code_ok (f : Nat) (fn : AFunc) (h : code f = some fn) : Shows Go.Proofs.Try.prog f fn := tableAt_ok codeL_ok h
end Bz.S
