/- The code is the program's. -/
import Derived.Test.YtpkpkpaiaofmiaaCode0
import Derived.Test.YtpkpkpaiaofmiaaProg
import Derived.KernelRfl
set_option linter.unusedSimpArgs false
set_option linter.unusedVariables false
set_option maxRecDepth 100000
set_option maxHeartbeats 4000000
namespace Bz.S
open Go Bz
theorem shows_law10_TypesTells : Shows Go.Proofs.Try.prog F_law10_TypesTells code_law10_TypesTells := ⟨_, _, Go.Proofs.Try.func3, rfl, by kernel_rfl, by kernel_rfl, by kernel_rfl, by kernel_rfl, by kernel_rfl⟩
theorem shows_law10_TypesDecls : Shows Go.Proofs.Try.prog F_law10_TypesDecls code_law10_TypesDecls := ⟨_, _, Go.Proofs.Try.func4, rfl, by kernel_rfl, by kernel_rfl, by kernel_rfl, by kernel_rfl, by kernel_rfl⟩
theorem shows_law10_TypesParts : Shows Go.Proofs.Try.prog F_law10_TypesParts code_law10_TypesParts := ⟨_, _, Go.Proofs.Try.func5, rfl, by kernel_rfl, by kernel_rfl, by kernel_rfl, by kernel_rfl, by kernel_rfl⟩
theorem shows_law10_TypesMore : Shows Go.Proofs.Try.prog F_law10_TypesMore code_law10_TypesMore := ⟨_, _, Go.Proofs.Try.func6, rfl, by kernel_rfl, by kernel_rfl, by kernel_rfl, by kernel_rfl, by kernel_rfl⟩
theorem shows_law10_alive : Shows Go.Proofs.Try.prog F_law10_alive code_law10_alive := ⟨_, _, Go.Proofs.Try.func7, rfl, by kernel_rfl, by kernel_rfl, by kernel_rfl, by kernel_rfl, by kernel_rfl⟩
theorem shows_types_Of : Shows Go.Proofs.Try.prog F_types_Of code_types_Of := ⟨_, _, Go.Proofs.Try.func8, rfl, by kernel_rfl, by kernel_rfl, by kernel_rfl, by kernel_rfl, by kernel_rfl⟩
theorem shows_ref10_Of : Shows Go.Proofs.Try.prog F_ref10_Of code_ref10_Of := ⟨_, _, Go.Proofs.Try.func9, rfl, by kernel_rfl, by kernel_rfl, by kernel_rfl, by kernel_rfl, by kernel_rfl⟩
theorem shows_types_Truth : Shows Go.Proofs.Try.prog F_types_Truth code_types_Truth := ⟨_, _, Go.Proofs.Try.func10, rfl, by kernel_rfl, by kernel_rfl, by kernel_rfl, by kernel_rfl, by kernel_rfl⟩
theorem shows_ref10_Truth : Shows Go.Proofs.Try.prog F_ref10_Truth code_ref10_Truth := ⟨_, _, Go.Proofs.Try.func11, rfl, by kernel_rfl, by kernel_rfl, by kernel_rfl, by kernel_rfl, by kernel_rfl⟩
theorem shows_types_Decls : Shows Go.Proofs.Try.prog F_types_Decls code_types_Decls := ⟨_, _, Go.Proofs.Try.func12, rfl, by kernel_rfl, by kernel_rfl, by kernel_rfl, by kernel_rfl, by kernel_rfl⟩
theorem shows_ref10_Decls : Shows Go.Proofs.Try.prog F_ref10_Decls code_ref10_Decls := ⟨_, _, Go.Proofs.Try.func13, rfl, by kernel_rfl, by kernel_rfl, by kernel_rfl, by kernel_rfl, by kernel_rfl⟩
theorem shows_ast_Check : Shows Go.Proofs.Try.prog F_ast_Check code_ast_Check := ⟨_, _, Go.Proofs.Try.func14, rfl, by kernel_rfl, by kernel_rfl, by kernel_rfl, by kernel_rfl, by kernel_rfl⟩
theorem shows_types_kind : Shows Go.Proofs.Try.prog F_types_kind code_types_kind := ⟨_, _, Go.Proofs.Try.func15, rfl, by kernel_rfl, by kernel_rfl, by kernel_rfl, by kernel_rfl, by kernel_rfl⟩
theorem shows_ref07_Check : Shows Go.Proofs.Try.prog F_ref07_Check code_ref07_Check := ⟨_, _, Go.Proofs.Try.func16, rfl, by kernel_rfl, by kernel_rfl, by kernel_rfl, by kernel_rfl, by kernel_rfl⟩
theorem shows_ref10_kind : Shows Go.Proofs.Try.prog F_ref10_kind code_ref10_kind := ⟨_, _, Go.Proofs.Try.func17, rfl, by kernel_rfl, by kernel_rfl, by kernel_rfl, by kernel_rfl, by kernel_rfl⟩
theorem shows_lex_Name : Shows Go.Proofs.Try.prog F_lex_Name code_lex_Name := ⟨_, _, Go.Proofs.Try.func18, rfl, by kernel_rfl, by kernel_rfl, by kernel_rfl, by kernel_rfl, by kernel_rfl⟩
theorem shows_types_of : Shows Go.Proofs.Try.prog F_types_of code_types_of := ⟨_, _, Go.Proofs.Try.func19, rfl, by kernel_rfl, by kernel_rfl, by kernel_rfl, by kernel_rfl, by kernel_rfl⟩
theorem shows_ref06_Name : Shows Go.Proofs.Try.prog F_ref06_Name code_ref06_Name := ⟨_, _, Go.Proofs.Try.func20, rfl, by kernel_rfl, by kernel_rfl, by kernel_rfl, by kernel_rfl, by kernel_rfl⟩
theorem shows_ref10_Declared : Shows Go.Proofs.Try.prog F_ref10_Declared code_ref10_Declared := ⟨_, _, Go.Proofs.Try.func21, rfl, by kernel_rfl, by kernel_rfl, by kernel_rfl, by kernel_rfl, by kernel_rfl⟩
theorem shows_ast_Depth : Shows Go.Proofs.Try.prog F_ast_Depth code_ast_Depth := ⟨_, _, Go.Proofs.Try.func22, rfl, by kernel_rfl, by kernel_rfl, by kernel_rfl, by kernel_rfl, by kernel_rfl⟩
theorem shows_ast_Size : Shows Go.Proofs.Try.prog F_ast_Size code_ast_Size := ⟨_, _, Go.Proofs.Try.func23, rfl, by kernel_rfl, by kernel_rfl, by kernel_rfl, by kernel_rfl, by kernel_rfl⟩
theorem shows_ast_may : Shows Go.Proofs.Try.prog F_ast_may code_ast_may := ⟨_, _, Go.Proofs.Try.func24, rfl, by kernel_rfl, by kernel_rfl, by kernel_rfl, by kernel_rfl, by kernel_rfl⟩
theorem shows_ast_Kids : Shows Go.Proofs.Try.prog F_ast_Kids code_ast_Kids := ⟨_, _, Go.Proofs.Try.func25, rfl, by kernel_rfl, by kernel_rfl, by kernel_rfl, by kernel_rfl, by kernel_rfl⟩
theorem shows_types_leaf : Shows Go.Proofs.Try.prog F_types_leaf code_types_leaf := ⟨_, _, Go.Proofs.Try.func26, rfl, by kernel_rfl, by kernel_rfl, by kernel_rfl, by kernel_rfl, by kernel_rfl⟩
theorem shows_types_pair : Shows Go.Proofs.Try.prog F_types_pair code_types_pair := ⟨_, _, Go.Proofs.Try.func27, rfl, by kernel_rfl, by kernel_rfl, by kernel_rfl, by kernel_rfl, by kernel_rfl⟩
theorem shows_types_single : Shows Go.Proofs.Try.prog F_types_single code_types_single := ⟨_, _, Go.Proofs.Try.func28, rfl, by kernel_rfl, by kernel_rfl, by kernel_rfl, by kernel_rfl, by kernel_rfl⟩
theorem shows_ref07_Depth : Shows Go.Proofs.Try.prog F_ref07_Depth code_ref07_Depth := ⟨_, _, Go.Proofs.Try.func29, rfl, by kernel_rfl, by kernel_rfl, by kernel_rfl, by kernel_rfl, by kernel_rfl⟩
theorem shows_ref07_All : Shows Go.Proofs.Try.prog F_ref07_All code_ref07_All := ⟨_, _, Go.Proofs.Try.func30, rfl, by kernel_rfl, by kernel_rfl, by kernel_rfl, by kernel_rfl, by kernel_rfl⟩
theorem shows_ref07_Kids : Shows Go.Proofs.Try.prog F_ref07_Kids code_ref07_Kids := ⟨_, _, Go.Proofs.Try.func31, rfl, by kernel_rfl, by kernel_rfl, by kernel_rfl, by kernel_rfl, by kernel_rfl⟩
theorem shows_ref07_set : Shows Go.Proofs.Try.prog F_ref07_set code_ref07_set := ⟨_, _, Go.Proofs.Try.func32, rfl, by kernel_rfl, by kernel_rfl, by kernel_rfl, by kernel_rfl, by kernel_rfl⟩
theorem shows_ref07_fits : Shows Go.Proofs.Try.prog F_ref07_fits code_ref07_fits := ⟨_, _, Go.Proofs.Try.func33, rfl, by kernel_rfl, by kernel_rfl, by kernel_rfl, by kernel_rfl, by kernel_rfl⟩
theorem shows_ref10_Fit : Shows Go.Proofs.Try.prog F_ref10_Fit code_ref10_Fit := ⟨_, _, Go.Proofs.Try.func34, rfl, by kernel_rfl, by kernel_rfl, by kernel_rfl, by kernel_rfl, by kernel_rfl⟩
theorem shows_lex_letter : Shows Go.Proofs.Try.prog F_lex_letter code_lex_letter := ⟨_, _, Go.Proofs.Try.func35, rfl, by kernel_rfl, by kernel_rfl, by kernel_rfl, by kernel_rfl, by kernel_rfl⟩
theorem shows_lex_digit : Shows Go.Proofs.Try.prog F_lex_digit code_lex_digit := ⟨_, _, Go.Proofs.Try.func36, rfl, by kernel_rfl, by kernel_rfl, by kernel_rfl, by kernel_rfl, by kernel_rfl⟩
theorem shows_types_of_1 : Shows Go.Proofs.Try.prog F_types_of_1 code_types_of_1 := ⟨_, _, Go.Proofs.Try.func38, rfl, by kernel_rfl, by kernel_rfl, by kernel_rfl, by kernel_rfl, by kernel_rfl⟩
theorem shows_slices_IndexFunc_api_Decl_api_Decl : Shows Go.Proofs.Try.prog F_slices_IndexFunc_api_Decl_api_Decl code_slices_IndexFunc_api_Decl_api_Decl := ⟨_, _, Go.Proofs.Try.func37, rfl, by kernel_rfl, by kernel_rfl, by kernel_rfl, by kernel_rfl, by kernel_rfl⟩
theorem shows_ref06_head : Shows Go.Proofs.Try.prog F_ref06_head code_ref06_head := ⟨_, _, Go.Proofs.Try.func39, rfl, by kernel_rfl, by kernel_rfl, by kernel_rfl, by kernel_rfl, by kernel_rfl⟩
theorem shows_ref06_tail : Shows Go.Proofs.Try.prog F_ref06_tail code_ref06_tail := ⟨_, _, Go.Proofs.Try.func40, rfl, by kernel_rfl, by kernel_rfl, by kernel_rfl, by kernel_rfl, by kernel_rfl⟩
theorem shows_ast_inner : Shows Go.Proofs.Try.prog F_ast_inner code_ast_inner := ⟨_, _, Go.Proofs.Try.func41, rfl, by kernel_rfl, by kernel_rfl, by kernel_rfl, by kernel_rfl, by kernel_rfl⟩
theorem shows_ast_own : Shows Go.Proofs.Try.prog F_ast_own code_ast_own := ⟨_, _, Go.Proofs.Try.func42, rfl, by kernel_rfl, by kernel_rfl, by kernel_rfl, by kernel_rfl, by kernel_rfl⟩
theorem shows_ast_texts : Shows Go.Proofs.Try.prog F_ast_texts code_ast_texts := ⟨_, _, Go.Proofs.Try.func43, rfl, by kernel_rfl, by kernel_rfl, by kernel_rfl, by kernel_rfl, by kernel_rfl⟩
theorem shows_slices_ContainsFunc_api_Expr_api_Expr : Shows Go.Proofs.Try.prog F_slices_ContainsFunc_api_Expr_api_Expr code_slices_ContainsFunc_api_Expr_api_Expr := ⟨_, _, Go.Proofs.Try.func44, rfl, by kernel_rfl, by kernel_rfl, by kernel_rfl, by kernel_rfl, by kernel_rfl⟩
theorem shows_ast_may_1 : Shows Go.Proofs.Try.prog F_ast_may_1 code_ast_may_1 := ⟨_, _, Go.Proofs.Try.func45, rfl, by kernel_rfl, by kernel_rfl, by kernel_rfl, by kernel_rfl, by kernel_rfl⟩
theorem shows_ref06_Plain : Shows Go.Proofs.Try.prog F_ref06_Plain code_ref06_Plain := ⟨_, _, Go.Proofs.Try.func46, rfl, by kernel_rfl, by kernel_rfl, by kernel_rfl, by kernel_rfl, by kernel_rfl⟩
theorem shows_lex_Plain : Shows Go.Proofs.Try.prog F_lex_Plain code_lex_Plain := ⟨_, _, Go.Proofs.Try.func47, rfl, by kernel_rfl, by kernel_rfl, by kernel_rfl, by kernel_rfl, by kernel_rfl⟩
theorem shows_ast_span : Shows Go.Proofs.Try.prog F_ast_span code_ast_span := ⟨_, _, Go.Proofs.Try.func48, rfl, by kernel_rfl, by kernel_rfl, by kernel_rfl, by kernel_rfl, by kernel_rfl⟩
theorem shows_slices_IndexFunc_api_Expr_api_Expr : Shows Go.Proofs.Try.prog F_slices_IndexFunc_api_Expr_api_Expr code_slices_IndexFunc_api_Expr_api_Expr := ⟨_, _, Go.Proofs.Try.func49, rfl, by kernel_rfl, by kernel_rfl, by kernel_rfl, by kernel_rfl, by kernel_rfl⟩
theorem shows_strings_IndexByte : Shows Go.Proofs.Try.prog F_strings_IndexByte code_strings_IndexByte := ⟨_, _, Go.Proofs.Try.func50, rfl, by kernel_rfl, by kernel_rfl, by kernel_rfl, by kernel_rfl, by kernel_rfl⟩
theorem shows_internal_stringslite_IndexByte : Shows Go.Proofs.Try.prog F_internal_stringslite_IndexByte code_internal_stringslite_IndexByte := ⟨_, _, Go.Proofs.Try.func51, rfl, by kernel_rfl, by kernel_rfl, by kernel_rfl, by kernel_rfl, by kernel_rfl⟩
theorem codeL_ok : TableOK Go.Proofs.Try.prog codeL := ⟨shows_law10_TypesTells,
  ⟨shows_law10_TypesDecls,
  ⟨shows_law10_TypesParts,
  ⟨shows_law10_TypesMore,
  ⟨shows_law10_alive,
  ⟨shows_types_Of,
  ⟨shows_ref10_Of,
  ⟨shows_types_Truth,
  ⟨shows_ref10_Truth,
  ⟨shows_types_Decls,
  ⟨shows_ref10_Decls,
  ⟨shows_ast_Check,
  ⟨shows_types_kind,
  ⟨shows_ref07_Check,
  ⟨shows_ref10_kind,
  ⟨shows_lex_Name,
  ⟨shows_types_of,
  ⟨shows_ref06_Name,
  ⟨shows_ref10_Declared,
  ⟨shows_ast_Depth,
  ⟨shows_ast_Size,
  ⟨shows_ast_may,
  ⟨shows_ast_Kids,
  ⟨shows_types_leaf,
  ⟨shows_types_pair,
  ⟨shows_types_single,
  ⟨shows_ref07_Depth,
  ⟨shows_ref07_All,
  ⟨shows_ref07_Kids,
  ⟨shows_ref07_set,
  ⟨shows_ref07_fits,
  ⟨shows_ref10_Fit,
  ⟨shows_lex_letter,
  ⟨shows_lex_digit,
  ⟨shows_types_of_1,
  ⟨shows_slices_IndexFunc_api_Decl_api_Decl,
  ⟨shows_ref06_head,
  ⟨shows_ref06_tail,
  ⟨shows_ast_inner,
  ⟨shows_ast_own,
  ⟨shows_ast_texts,
  ⟨shows_slices_ContainsFunc_api_Expr_api_Expr,
  ⟨shows_ast_may_1,
  ⟨shows_ref06_Plain,
  ⟨shows_lex_Plain,
  ⟨shows_ast_span,
  ⟨shows_slices_IndexFunc_api_Expr_api_Expr,
  ⟨shows_strings_IndexByte,
  ⟨shows_internal_stringslite_IndexByte,
  trivial⟩⟩⟩⟩⟩⟩⟩⟩⟩⟩⟩⟩⟩⟩⟩⟩⟩⟩⟩⟩⟩⟩⟩⟩⟩⟩⟩⟩⟩⟩⟩⟩⟩⟩⟩⟩⟩⟩⟩⟩⟩⟩⟩⟩⟩⟩⟩⟩⟩
theorem code_ok (f : Nat) (fn : AFunc) (h : code f = some fn) : Shows Go.Proofs.Try.prog f fn := tableAt_ok codeL_ok h
end Bz.S
