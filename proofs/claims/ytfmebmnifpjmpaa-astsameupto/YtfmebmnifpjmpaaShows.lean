/- The code is the program's. -/
import Derived.Test.YtfmebmnifpjmpaaCode0
import Derived.Test.YtfmebmnifpjmpaaProg
import Derived.KernelRfl
set_option linter.unusedSimpArgs false
set_option linter.unusedVariables false
set_option maxRecDepth 100000
set_option maxHeartbeats 4000000
namespace Bz.S
open Go Bz
theorem shows_law05_StoreKeeps : Shows Go.Proofs.Try.prog F_law05_StoreKeeps code_law05_StoreKeeps := ⟨_, _, Go.Proofs.Try.func3, rfl, by kernel_rfl, by kernel_rfl, by kernel_rfl, by kernel_rfl, by kernel_rfl⟩
theorem shows_law07_AstChecks : Shows Go.Proofs.Try.prog F_law07_AstChecks code_law07_AstChecks := ⟨_, _, Go.Proofs.Try.func4, rfl, by kernel_rfl, by kernel_rfl, by kernel_rfl, by kernel_rfl, by kernel_rfl⟩
theorem shows_law07_AstMeasures : Shows Go.Proofs.Try.prog F_law07_AstMeasures code_law07_AstMeasures := ⟨_, _, Go.Proofs.Try.func5, rfl, by kernel_rfl, by kernel_rfl, by kernel_rfl, by kernel_rfl, by kernel_rfl⟩
theorem shows_law07_AstParts : Shows Go.Proofs.Try.prog F_law07_AstParts code_law07_AstParts := ⟨_, _, Go.Proofs.Try.func6, rfl, by kernel_rfl, by kernel_rfl, by kernel_rfl, by kernel_rfl, by kernel_rfl⟩
theorem shows_law07_AstSame : Shows Go.Proofs.Try.prog F_law07_AstSame code_law07_AstSame := ⟨_, _, Go.Proofs.Try.func7, rfl, by kernel_rfl, by kernel_rfl, by kernel_rfl, by kernel_rfl, by kernel_rfl⟩
theorem shows_law05_alive : Shows Go.Proofs.Try.prog F_law05_alive code_law05_alive := ⟨_, _, Go.Proofs.Try.func8, rfl, by kernel_rfl, by kernel_rfl, by kernel_rfl, by kernel_rfl, by kernel_rfl⟩
theorem shows_plain_Rising : Shows Go.Proofs.Try.prog F_plain_Rising code_plain_Rising := ⟨_, _, Go.Proofs.Try.func9, rfl, by kernel_rfl, by kernel_rfl, by kernel_rfl, by kernel_rfl, by kernel_rfl⟩
theorem shows_store_New : Shows Go.Proofs.Try.prog F_store_New code_store_New := ⟨_, _, Go.Proofs.Try.func10, rfl, by kernel_rfl, by kernel_rfl, by kernel_rfl, by kernel_rfl, by kernel_rfl⟩
theorem shows_store_Store_Set : Shows Go.Proofs.Try.prog F_store_Store_Set code_store_Store_Set := ⟨_, _, Go.Proofs.Try.func11, rfl, by kernel_rfl, by kernel_rfl, by kernel_rfl, by kernel_rfl, by kernel_rfl⟩
theorem shows_law05_long : Shows Go.Proofs.Try.prog F_law05_long code_law05_long := ⟨_, _, Go.Proofs.Try.func12, rfl, by kernel_rfl, by kernel_rfl, by kernel_rfl, by kernel_rfl, by kernel_rfl⟩
theorem shows_store_Store_Get : Shows Go.Proofs.Try.prog F_store_Store_Get code_store_Store_Get := ⟨_, _, Go.Proofs.Try.func13, rfl, by kernel_rfl, by kernel_rfl, by kernel_rfl, by kernel_rfl, by kernel_rfl⟩
theorem shows_plain_Texts : Shows Go.Proofs.Try.prog F_plain_Texts code_plain_Texts := ⟨_, _, Go.Proofs.Try.func14, rfl, by kernel_rfl, by kernel_rfl, by kernel_rfl, by kernel_rfl, by kernel_rfl⟩
theorem shows_law07_alive : Shows Go.Proofs.Try.prog F_law07_alive code_law07_alive := ⟨_, _, Go.Proofs.Try.func15, rfl, by kernel_rfl, by kernel_rfl, by kernel_rfl, by kernel_rfl, by kernel_rfl⟩
theorem shows_ast_Check : Shows Go.Proofs.Try.prog F_ast_Check code_ast_Check := ⟨_, _, Go.Proofs.Try.func16, rfl, by kernel_rfl, by kernel_rfl, by kernel_rfl, by kernel_rfl, by kernel_rfl⟩
theorem shows_ref07_Check : Shows Go.Proofs.Try.prog F_ref07_Check code_ref07_Check := ⟨_, _, Go.Proofs.Try.func17, rfl, by kernel_rfl, by kernel_rfl, by kernel_rfl, by kernel_rfl, by kernel_rfl⟩
theorem shows_ast_Kids : Shows Go.Proofs.Try.prog F_ast_Kids code_ast_Kids := ⟨_, _, Go.Proofs.Try.func18, rfl, by kernel_rfl, by kernel_rfl, by kernel_rfl, by kernel_rfl, by kernel_rfl⟩
theorem shows_ref07_Kids : Shows Go.Proofs.Try.prog F_ref07_Kids code_ref07_Kids := ⟨_, _, Go.Proofs.Try.func19, rfl, by kernel_rfl, by kernel_rfl, by kernel_rfl, by kernel_rfl, by kernel_rfl⟩
theorem shows_ast_Depth : Shows Go.Proofs.Try.prog F_ast_Depth code_ast_Depth := ⟨_, _, Go.Proofs.Try.func20, rfl, by kernel_rfl, by kernel_rfl, by kernel_rfl, by kernel_rfl, by kernel_rfl⟩
theorem shows_ref07_Depth : Shows Go.Proofs.Try.prog F_ref07_Depth code_ref07_Depth := ⟨_, _, Go.Proofs.Try.func21, rfl, by kernel_rfl, by kernel_rfl, by kernel_rfl, by kernel_rfl, by kernel_rfl⟩
theorem shows_ast_Size : Shows Go.Proofs.Try.prog F_ast_Size code_ast_Size := ⟨_, _, Go.Proofs.Try.func22, rfl, by kernel_rfl, by kernel_rfl, by kernel_rfl, by kernel_rfl, by kernel_rfl⟩
theorem shows_ref07_All : Shows Go.Proofs.Try.prog F_ref07_All code_ref07_All := ⟨_, _, Go.Proofs.Try.func23, rfl, by kernel_rfl, by kernel_rfl, by kernel_rfl, by kernel_rfl, by kernel_rfl⟩
theorem shows_ast_Past : Shows Go.Proofs.Try.prog F_ast_Past code_ast_Past := ⟨_, _, Go.Proofs.Try.func24, rfl, by kernel_rfl, by kernel_rfl, by kernel_rfl, by kernel_rfl, by kernel_rfl⟩
theorem shows_ref07_Past : Shows Go.Proofs.Try.prog F_ref07_Past code_ref07_Past := ⟨_, _, Go.Proofs.Try.func25, rfl, by kernel_rfl, by kernel_rfl, by kernel_rfl, by kernel_rfl, by kernel_rfl⟩
theorem shows_plain_Copy : Shows Go.Proofs.Try.prog F_plain_Copy code_plain_Copy := ⟨_, _, Go.Proofs.Try.func26, rfl, by kernel_rfl, by kernel_rfl, by kernel_rfl, by kernel_rfl, by kernel_rfl⟩
theorem shows_ast_Clone : Shows Go.Proofs.Try.prog F_ast_Clone code_ast_Clone := ⟨_, _, Go.Proofs.Try.func27, rfl, by kernel_rfl, by kernel_rfl, by kernel_rfl, by kernel_rfl, by kernel_rfl⟩
theorem shows_ast_Same : Shows Go.Proofs.Try.prog F_ast_Same code_ast_Same := ⟨_, _, Go.Proofs.Try.func28, rfl, by kernel_rfl, by kernel_rfl, by kernel_rfl, by kernel_rfl, by kernel_rfl⟩
theorem shows_plain_Expr : Shows Go.Proofs.Try.prog F_plain_Expr code_plain_Expr := ⟨_, _, Go.Proofs.Try.func29, rfl, by kernel_rfl, by kernel_rfl, by kernel_rfl, by kernel_rfl, by kernel_rfl⟩
theorem shows_law07_spoil : Shows Go.Proofs.Try.prog F_law07_spoil code_law07_spoil := ⟨_, _, Go.Proofs.Try.func30, rfl, by kernel_rfl, by kernel_rfl, by kernel_rfl, by kernel_rfl, by kernel_rfl⟩
theorem shows_store_Store_Count : Shows Go.Proofs.Try.prog F_store_Store_Count code_store_Store_Count := ⟨_, _, Go.Proofs.Try.func31, rfl, by kernel_rfl, by kernel_rfl, by kernel_rfl, by kernel_rfl, by kernel_rfl⟩
theorem shows_plain_In : Shows Go.Proofs.Try.prog F_plain_In code_plain_In := ⟨_, _, Go.Proofs.Try.func32, rfl, by kernel_rfl, by kernel_rfl, by kernel_rfl, by kernel_rfl, by kernel_rfl⟩
theorem shows_store_Store_Kind : Shows Go.Proofs.Try.prog F_store_Store_Kind code_store_Store_Kind := ⟨_, _, Go.Proofs.Try.func33, rfl, by kernel_rfl, by kernel_rfl, by kernel_rfl, by kernel_rfl, by kernel_rfl⟩
theorem shows_store_Store_is : Shows Go.Proofs.Try.prog F_store_Store_is code_store_Store_is := ⟨_, _, Go.Proofs.Try.func34, rfl, by kernel_rfl, by kernel_rfl, by kernel_rfl, by kernel_rfl, by kernel_rfl⟩
theorem shows_value_Check : Shows Go.Proofs.Try.prog F_value_Check code_value_Check := ⟨_, _, Go.Proofs.Try.func35, rfl, by kernel_rfl, by kernel_rfl, by kernel_rfl, by kernel_rfl, by kernel_rfl⟩
theorem shows_store_own : Shows Go.Proofs.Try.prog F_store_own code_store_own := ⟨_, _, Go.Proofs.Try.func36, rfl, by kernel_rfl, by kernel_rfl, by kernel_rfl, by kernel_rfl, by kernel_rfl⟩
theorem shows_value_Zero : Shows Go.Proofs.Try.prog F_value_Zero code_value_Zero := ⟨_, _, Go.Proofs.Try.func37, rfl, by kernel_rfl, by kernel_rfl, by kernel_rfl, by kernel_rfl, by kernel_rfl⟩
theorem shows_law07_sum : Shows Go.Proofs.Try.prog F_law07_sum code_law07_sum := ⟨_, _, Go.Proofs.Try.func38, rfl, by kernel_rfl, by kernel_rfl, by kernel_rfl, by kernel_rfl, by kernel_rfl⟩
theorem shows_ast_may : Shows Go.Proofs.Try.prog F_ast_may code_ast_may := ⟨_, _, Go.Proofs.Try.func39, rfl, by kernel_rfl, by kernel_rfl, by kernel_rfl, by kernel_rfl, by kernel_rfl⟩
theorem shows_ref07_set : Shows Go.Proofs.Try.prog F_ref07_set code_ref07_set := ⟨_, _, Go.Proofs.Try.func40, rfl, by kernel_rfl, by kernel_rfl, by kernel_rfl, by kernel_rfl, by kernel_rfl⟩
theorem shows_ref07_fits : Shows Go.Proofs.Try.prog F_ref07_fits code_ref07_fits := ⟨_, _, Go.Proofs.Try.func41, rfl, by kernel_rfl, by kernel_rfl, by kernel_rfl, by kernel_rfl, by kernel_rfl⟩
theorem shows_ast_inner : Shows Go.Proofs.Try.prog F_ast_inner code_ast_inner := ⟨_, _, Go.Proofs.Try.func42, rfl, by kernel_rfl, by kernel_rfl, by kernel_rfl, by kernel_rfl, by kernel_rfl⟩
theorem shows_slices_ContainsFunc_api_Expr_api_Expr : Shows Go.Proofs.Try.prog F_slices_ContainsFunc_api_Expr_api_Expr code_slices_ContainsFunc_api_Expr_api_Expr := ⟨_, _, Go.Proofs.Try.func43, rfl, by kernel_rfl, by kernel_rfl, by kernel_rfl, by kernel_rfl, by kernel_rfl⟩
theorem shows_ref07_Looks : Shows Go.Proofs.Try.prog F_ref07_Looks code_ref07_Looks := ⟨_, _, Go.Proofs.Try.func44, rfl, by kernel_rfl, by kernel_rfl, by kernel_rfl, by kernel_rfl, by kernel_rfl⟩
theorem shows_slices_EqualFunc_api_Expr_api_Expr_api_Expr_api_Expr : Shows Go.Proofs.Try.prog F_slices_EqualFunc_api_Expr_api_Expr_api_Expr_api_Expr code_slices_EqualFunc_api_Expr_api_Expr_api_Expr_api_Expr := ⟨_, _, Go.Proofs.Try.func45, rfl, by kernel_rfl, by kernel_rfl, by kernel_rfl, by kernel_rfl, by kernel_rfl⟩
theorem shows_value_long : Shows Go.Proofs.Try.prog F_value_long code_value_long := ⟨_, _, Go.Proofs.Try.func46, rfl, by kernel_rfl, by kernel_rfl, by kernel_rfl, by kernel_rfl, by kernel_rfl⟩
theorem shows_slices_ContainsFunc_string_string : Shows Go.Proofs.Try.prog F_slices_ContainsFunc_string_string code_slices_ContainsFunc_string_string := ⟨_, _, Go.Proofs.Try.func47, rfl, by kernel_rfl, by kernel_rfl, by kernel_rfl, by kernel_rfl, by kernel_rfl⟩
theorem shows_value_odd : Shows Go.Proofs.Try.prog F_value_odd code_value_odd := ⟨_, _, Go.Proofs.Try.func48, rfl, by kernel_rfl, by kernel_rfl, by kernel_rfl, by kernel_rfl, by kernel_rfl⟩
theorem shows_slices_Clone_string_string : Shows Go.Proofs.Try.prog F_slices_Clone_string_string code_slices_Clone_string_string := ⟨_, _, Go.Proofs.Try.func49, rfl, by kernel_rfl, by kernel_rfl, by kernel_rfl, by kernel_rfl, by kernel_rfl⟩
theorem shows_ast_own : Shows Go.Proofs.Try.prog F_ast_own code_ast_own := ⟨_, _, Go.Proofs.Try.func50, rfl, by kernel_rfl, by kernel_rfl, by kernel_rfl, by kernel_rfl, by kernel_rfl⟩
theorem shows_ast_texts : Shows Go.Proofs.Try.prog F_ast_texts code_ast_texts := ⟨_, _, Go.Proofs.Try.func51, rfl, by kernel_rfl, by kernel_rfl, by kernel_rfl, by kernel_rfl, by kernel_rfl⟩
theorem shows_ast_may_1 : Shows Go.Proofs.Try.prog F_ast_may_1 code_ast_may_1 := ⟨_, _, Go.Proofs.Try.func52, rfl, by kernel_rfl, by kernel_rfl, by kernel_rfl, by kernel_rfl, by kernel_rfl⟩
theorem shows_ref06_Plain : Shows Go.Proofs.Try.prog F_ref06_Plain code_ref06_Plain := ⟨_, _, Go.Proofs.Try.func53, rfl, by kernel_rfl, by kernel_rfl, by kernel_rfl, by kernel_rfl, by kernel_rfl⟩
theorem shows_ref06_Name : Shows Go.Proofs.Try.prog F_ref06_Name code_ref06_Name := ⟨_, _, Go.Proofs.Try.func54, rfl, by kernel_rfl, by kernel_rfl, by kernel_rfl, by kernel_rfl, by kernel_rfl⟩
theorem shows_slices_IndexFunc_api_Expr_api_Expr : Shows Go.Proofs.Try.prog F_slices_IndexFunc_api_Expr_api_Expr code_slices_IndexFunc_api_Expr_api_Expr := ⟨_, _, Go.Proofs.Try.func55, rfl, by kernel_rfl, by kernel_rfl, by kernel_rfl, by kernel_rfl, by kernel_rfl⟩
theorem shows_slices_IndexFunc_string_string : Shows Go.Proofs.Try.prog F_slices_IndexFunc_string_string code_slices_IndexFunc_string_string := ⟨_, _, Go.Proofs.Try.func56, rfl, by kernel_rfl, by kernel_rfl, by kernel_rfl, by kernel_rfl, by kernel_rfl⟩
theorem shows_value_rises : Shows Go.Proofs.Try.prog F_value_rises code_value_rises := ⟨_, _, Go.Proofs.Try.func57, rfl, by kernel_rfl, by kernel_rfl, by kernel_rfl, by kernel_rfl, by kernel_rfl⟩
theorem shows_lex_Plain : Shows Go.Proofs.Try.prog F_lex_Plain code_lex_Plain := ⟨_, _, Go.Proofs.Try.func58, rfl, by kernel_rfl, by kernel_rfl, by kernel_rfl, by kernel_rfl, by kernel_rfl⟩
theorem shows_lex_Name : Shows Go.Proofs.Try.prog F_lex_Name code_lex_Name := ⟨_, _, Go.Proofs.Try.func59, rfl, by kernel_rfl, by kernel_rfl, by kernel_rfl, by kernel_rfl, by kernel_rfl⟩
theorem shows_ast_span : Shows Go.Proofs.Try.prog F_ast_span code_ast_span := ⟨_, _, Go.Proofs.Try.func60, rfl, by kernel_rfl, by kernel_rfl, by kernel_rfl, by kernel_rfl, by kernel_rfl⟩
theorem shows_ref06_head : Shows Go.Proofs.Try.prog F_ref06_head code_ref06_head := ⟨_, _, Go.Proofs.Try.func61, rfl, by kernel_rfl, by kernel_rfl, by kernel_rfl, by kernel_rfl, by kernel_rfl⟩
theorem shows_ref06_tail : Shows Go.Proofs.Try.prog F_ref06_tail code_ref06_tail := ⟨_, _, Go.Proofs.Try.func62, rfl, by kernel_rfl, by kernel_rfl, by kernel_rfl, by kernel_rfl, by kernel_rfl⟩
theorem shows_strings_IndexByte : Shows Go.Proofs.Try.prog F_strings_IndexByte code_strings_IndexByte := ⟨_, _, Go.Proofs.Try.func63, rfl, by kernel_rfl, by kernel_rfl, by kernel_rfl, by kernel_rfl, by kernel_rfl⟩
theorem shows_lex_letter : Shows Go.Proofs.Try.prog F_lex_letter code_lex_letter := ⟨_, _, Go.Proofs.Try.func64, rfl, by kernel_rfl, by kernel_rfl, by kernel_rfl, by kernel_rfl, by kernel_rfl⟩
theorem shows_lex_digit : Shows Go.Proofs.Try.prog F_lex_digit code_lex_digit := ⟨_, _, Go.Proofs.Try.func65, rfl, by kernel_rfl, by kernel_rfl, by kernel_rfl, by kernel_rfl, by kernel_rfl⟩
theorem shows_internal_stringslite_IndexByte : Shows Go.Proofs.Try.prog F_internal_stringslite_IndexByte code_internal_stringslite_IndexByte := ⟨_, _, Go.Proofs.Try.func66, rfl, by kernel_rfl, by kernel_rfl, by kernel_rfl, by kernel_rfl, by kernel_rfl⟩
theorem codeL_ok : TableOK Go.Proofs.Try.prog codeL := ⟨shows_law05_StoreKeeps,
  ⟨shows_law07_AstChecks,
  ⟨shows_law07_AstMeasures,
  ⟨shows_law07_AstParts,
  ⟨shows_law07_AstSame,
  ⟨shows_law05_alive,
  ⟨shows_plain_Rising,
  ⟨shows_store_New,
  ⟨shows_store_Store_Set,
  ⟨shows_law05_long,
  ⟨shows_store_Store_Get,
  ⟨shows_plain_Texts,
  ⟨shows_law07_alive,
  ⟨shows_ast_Check,
  ⟨shows_ref07_Check,
  ⟨shows_ast_Kids,
  ⟨shows_ref07_Kids,
  ⟨shows_ast_Depth,
  ⟨shows_ref07_Depth,
  ⟨shows_ast_Size,
  ⟨shows_ref07_All,
  ⟨shows_ast_Past,
  ⟨shows_ref07_Past,
  ⟨shows_plain_Copy,
  ⟨shows_ast_Clone,
  ⟨shows_ast_Same,
  ⟨shows_plain_Expr,
  ⟨shows_law07_spoil,
  ⟨shows_store_Store_Count,
  ⟨shows_plain_In,
  ⟨shows_store_Store_Kind,
  ⟨shows_store_Store_is,
  ⟨shows_value_Check,
  ⟨shows_store_own,
  ⟨shows_value_Zero,
  ⟨shows_law07_sum,
  ⟨shows_ast_may,
  ⟨shows_ref07_set,
  ⟨shows_ref07_fits,
  ⟨shows_ast_inner,
  ⟨shows_slices_ContainsFunc_api_Expr_api_Expr,
  ⟨shows_ref07_Looks,
  ⟨shows_slices_EqualFunc_api_Expr_api_Expr_api_Expr_api_Expr,
  ⟨shows_value_long,
  ⟨shows_slices_ContainsFunc_string_string,
  ⟨shows_value_odd,
  ⟨shows_slices_Clone_string_string,
  ⟨shows_ast_own,
  ⟨shows_ast_texts,
  ⟨shows_ast_may_1,
  ⟨shows_ref06_Plain,
  ⟨shows_ref06_Name,
  ⟨shows_slices_IndexFunc_api_Expr_api_Expr,
  ⟨shows_slices_IndexFunc_string_string,
  ⟨shows_value_rises,
  ⟨shows_lex_Plain,
  ⟨shows_lex_Name,
  ⟨shows_ast_span,
  ⟨shows_ref06_head,
  ⟨shows_ref06_tail,
  ⟨shows_strings_IndexByte,
  ⟨shows_lex_letter,
  ⟨shows_lex_digit,
  ⟨shows_internal_stringslite_IndexByte,
  trivial⟩⟩⟩⟩⟩⟩⟩⟩⟩⟩⟩⟩⟩⟩⟩⟩⟩⟩⟩⟩⟩⟩⟩⟩⟩⟩⟩⟩⟩⟩⟩⟩⟩⟩⟩⟩⟩⟩⟩⟩⟩⟩⟩⟩⟩⟩⟩⟩⟩⟩⟩⟩⟩⟩⟩⟩⟩⟩⟩⟩⟩⟩⟩⟩
theorem code_ok (f : Nat) (fn : AFunc) (h : code f = some fn) : Shows Go.Proofs.Try.prog f fn := tableAt_ok codeL_ok h
end Bz.S
