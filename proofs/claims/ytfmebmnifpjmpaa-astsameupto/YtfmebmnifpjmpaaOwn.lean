/- Which functions are handed slices of the caller's own, and which hand out their own. -/
import Derived.Test.YtfmebmnifpjmpaaBz3
import Derived.Test.YtfmebmnifpjmpaaBz2
import Derived.Test.YtfmebmnifpjmpaaCode0
set_option linter.unusedSimpArgs false
set_option linter.unusedVariables false
namespace Bz.S
open Go Bz
def own : Nat → Bool := fun f => [F_slices_IndexFunc_string_string, F_law07_spoil, 999999999].contains f
def retOwn : Nat → Bool := fun f => [F_slices_Clone_string_string, F_ast_Clone, F_plain_Copy, F_law07_sum].contains f
@[simp] theorem own_indexByteString : own F_internal_bytealg_IndexByteString = false := rfl
def ext : Callee := extOr (extByte F_internal_bytealg_IndexByteString) (extNone)
def extL : List Nat := [F_internal_bytealg_IndexByteString]
theorem ext_none {f : Nat} {args : List AV} {H : Heap} (hf : extL.contains f = false) : ext f args H = none := by
  simp only [extL, List.contains_cons, List.contains_nil, Bool.or_eq_false_iff, beq_eq_false_iff_ne, ne_eq] at hf
  obtain ⟨h0, _⟩ := hf
  exact extOr_none (extByte_none h0) (rfl)
theorem ext_internal_bytealg_IndexByteString {args : List AV} {H : Heap} {r : AV × Heap} (h : (extByte F_internal_bytealg_IndexByteString) F_internal_bytealg_IndexByteString args H = some r) : ext F_internal_bytealg_IndexByteString args H = some r := extOr_l h
@[simp] theorem own_law05_StoreKeeps : own F_law05_StoreKeeps = false := rfl
@[simp] theorem retOwn_law05_StoreKeeps : retOwn F_law05_StoreKeeps = false := rfl
@[simp] theorem own_law07_AstChecks : own F_law07_AstChecks = false := rfl
@[simp] theorem retOwn_law07_AstChecks : retOwn F_law07_AstChecks = false := rfl
@[simp] theorem own_law07_AstMeasures : own F_law07_AstMeasures = false := rfl
@[simp] theorem retOwn_law07_AstMeasures : retOwn F_law07_AstMeasures = false := rfl
@[simp] theorem own_law07_AstParts : own F_law07_AstParts = false := rfl
@[simp] theorem retOwn_law07_AstParts : retOwn F_law07_AstParts = false := rfl
@[simp] theorem own_law07_AstSame : own F_law07_AstSame = false := rfl
@[simp] theorem retOwn_law07_AstSame : retOwn F_law07_AstSame = false := rfl
@[simp] theorem own_law05_alive : own F_law05_alive = false := rfl
@[simp] theorem retOwn_law05_alive : retOwn F_law05_alive = false := rfl
@[simp] theorem own_plain_Rising : own F_plain_Rising = false := rfl
@[simp] theorem retOwn_plain_Rising : retOwn F_plain_Rising = false := rfl
@[simp] theorem own_store_New : own F_store_New = false := rfl
@[simp] theorem retOwn_store_New : retOwn F_store_New = false := rfl
@[simp] theorem own_store_Store_Set : own F_store_Store_Set = false := rfl
@[simp] theorem retOwn_store_Store_Set : retOwn F_store_Store_Set = false := rfl
@[simp] theorem own_law05_long : own F_law05_long = false := rfl
@[simp] theorem retOwn_law05_long : retOwn F_law05_long = false := rfl
@[simp] theorem own_store_Store_Get : own F_store_Store_Get = false := rfl
@[simp] theorem retOwn_store_Store_Get : retOwn F_store_Store_Get = false := rfl
@[simp] theorem own_plain_Texts : own F_plain_Texts = false := rfl
@[simp] theorem retOwn_plain_Texts : retOwn F_plain_Texts = false := rfl
@[simp] theorem own_law07_alive : own F_law07_alive = false := rfl
@[simp] theorem retOwn_law07_alive : retOwn F_law07_alive = false := rfl
@[simp] theorem own_ast_Check : own F_ast_Check = false := rfl
@[simp] theorem retOwn_ast_Check : retOwn F_ast_Check = false := rfl
@[simp] theorem own_ref07_Check : own F_ref07_Check = false := rfl
@[simp] theorem retOwn_ref07_Check : retOwn F_ref07_Check = false := rfl
@[simp] theorem own_ast_Kids : own F_ast_Kids = false := rfl
@[simp] theorem retOwn_ast_Kids : retOwn F_ast_Kids = false := rfl
@[simp] theorem own_ref07_Kids : own F_ref07_Kids = false := rfl
@[simp] theorem retOwn_ref07_Kids : retOwn F_ref07_Kids = false := rfl
@[simp] theorem own_ast_Depth : own F_ast_Depth = false := rfl
@[simp] theorem retOwn_ast_Depth : retOwn F_ast_Depth = false := rfl
@[simp] theorem own_ref07_Depth : own F_ref07_Depth = false := rfl
@[simp] theorem retOwn_ref07_Depth : retOwn F_ref07_Depth = false := rfl
@[simp] theorem own_ast_Size : own F_ast_Size = false := rfl
@[simp] theorem retOwn_ast_Size : retOwn F_ast_Size = false := rfl
@[simp] theorem own_ref07_All : own F_ref07_All = false := rfl
@[simp] theorem retOwn_ref07_All : retOwn F_ref07_All = false := rfl
@[simp] theorem own_ast_Past : own F_ast_Past = false := rfl
@[simp] theorem retOwn_ast_Past : retOwn F_ast_Past = false := rfl
@[simp] theorem own_ref07_Past : own F_ref07_Past = false := rfl
@[simp] theorem retOwn_ref07_Past : retOwn F_ref07_Past = false := rfl
@[simp] theorem own_plain_Copy : own F_plain_Copy = false := rfl
@[simp] theorem retOwn_plain_Copy : retOwn F_plain_Copy = true := rfl
@[simp] theorem own_ast_Clone : own F_ast_Clone = false := rfl
@[simp] theorem retOwn_ast_Clone : retOwn F_ast_Clone = true := rfl
@[simp] theorem own_ast_Same : own F_ast_Same = false := rfl
@[simp] theorem retOwn_ast_Same : retOwn F_ast_Same = false := rfl
@[simp] theorem own_plain_Expr : own F_plain_Expr = false := rfl
@[simp] theorem retOwn_plain_Expr : retOwn F_plain_Expr = false := rfl
@[simp] theorem own_law07_spoil : own F_law07_spoil = true := rfl
@[simp] theorem retOwn_law07_spoil : retOwn F_law07_spoil = false := rfl
@[simp] theorem own_store_Store_Count : own F_store_Store_Count = false := rfl
@[simp] theorem retOwn_store_Store_Count : retOwn F_store_Store_Count = false := rfl
@[simp] theorem own_plain_In : own F_plain_In = false := rfl
@[simp] theorem retOwn_plain_In : retOwn F_plain_In = false := rfl
@[simp] theorem own_store_Store_Kind : own F_store_Store_Kind = false := rfl
@[simp] theorem retOwn_store_Store_Kind : retOwn F_store_Store_Kind = false := rfl
@[simp] theorem own_store_Store_is : own F_store_Store_is = false := rfl
@[simp] theorem retOwn_store_Store_is : retOwn F_store_Store_is = false := rfl
@[simp] theorem own_value_Check : own F_value_Check = false := rfl
@[simp] theorem retOwn_value_Check : retOwn F_value_Check = false := rfl
@[simp] theorem own_store_own : own F_store_own = false := rfl
@[simp] theorem retOwn_store_own : retOwn F_store_own = false := rfl
@[simp] theorem own_value_Zero : own F_value_Zero = false := rfl
@[simp] theorem retOwn_value_Zero : retOwn F_value_Zero = false := rfl
@[simp] theorem own_law07_sum : own F_law07_sum = false := rfl
@[simp] theorem retOwn_law07_sum : retOwn F_law07_sum = true := rfl
@[simp] theorem own_ast_may : own F_ast_may = false := rfl
@[simp] theorem retOwn_ast_may : retOwn F_ast_may = false := rfl
@[simp] theorem own_ref07_set : own F_ref07_set = false := rfl
@[simp] theorem retOwn_ref07_set : retOwn F_ref07_set = false := rfl
@[simp] theorem own_ref07_fits : own F_ref07_fits = false := rfl
@[simp] theorem retOwn_ref07_fits : retOwn F_ref07_fits = false := rfl
@[simp] theorem own_ast_inner : own F_ast_inner = false := rfl
@[simp] theorem retOwn_ast_inner : retOwn F_ast_inner = false := rfl
@[simp] theorem own_slices_ContainsFunc_api_Expr_api_Expr : own F_slices_ContainsFunc_api_Expr_api_Expr = false := rfl
@[simp] theorem retOwn_slices_ContainsFunc_api_Expr_api_Expr : retOwn F_slices_ContainsFunc_api_Expr_api_Expr = false := rfl
@[simp] theorem own_ref07_Looks : own F_ref07_Looks = false := rfl
@[simp] theorem retOwn_ref07_Looks : retOwn F_ref07_Looks = false := rfl
@[simp] theorem own_slices_EqualFunc_api_Expr_api_Expr_api_Expr_api_Expr : own F_slices_EqualFunc_api_Expr_api_Expr_api_Expr_api_Expr = false := rfl
@[simp] theorem retOwn_slices_EqualFunc_api_Expr_api_Expr_api_Expr_api_Expr : retOwn F_slices_EqualFunc_api_Expr_api_Expr_api_Expr_api_Expr = false := rfl
@[simp] theorem own_value_long : own F_value_long = false := rfl
@[simp] theorem retOwn_value_long : retOwn F_value_long = false := rfl
@[simp] theorem own_slices_ContainsFunc_string_string : own F_slices_ContainsFunc_string_string = false := rfl
@[simp] theorem retOwn_slices_ContainsFunc_string_string : retOwn F_slices_ContainsFunc_string_string = false := rfl
@[simp] theorem own_value_odd : own F_value_odd = false := rfl
@[simp] theorem retOwn_value_odd : retOwn F_value_odd = false := rfl
@[simp] theorem own_slices_Clone_string_string : own F_slices_Clone_string_string = false := rfl
@[simp] theorem retOwn_slices_Clone_string_string : retOwn F_slices_Clone_string_string = true := rfl
@[simp] theorem own_ast_own : own F_ast_own = false := rfl
@[simp] theorem retOwn_ast_own : retOwn F_ast_own = false := rfl
@[simp] theorem own_ast_texts : own F_ast_texts = false := rfl
@[simp] theorem retOwn_ast_texts : retOwn F_ast_texts = false := rfl
@[simp] theorem own_ast_may_1 : own F_ast_may_1 = false := rfl
@[simp] theorem retOwn_ast_may_1 : retOwn F_ast_may_1 = false := rfl
@[simp] theorem own_ref06_Plain : own F_ref06_Plain = false := rfl
@[simp] theorem retOwn_ref06_Plain : retOwn F_ref06_Plain = false := rfl
@[simp] theorem own_ref06_Name : own F_ref06_Name = false := rfl
@[simp] theorem retOwn_ref06_Name : retOwn F_ref06_Name = false := rfl
@[simp] theorem own_slices_IndexFunc_api_Expr_api_Expr : own F_slices_IndexFunc_api_Expr_api_Expr = false := rfl
@[simp] theorem retOwn_slices_IndexFunc_api_Expr_api_Expr : retOwn F_slices_IndexFunc_api_Expr_api_Expr = false := rfl
@[simp] theorem own_slices_IndexFunc_string_string : own F_slices_IndexFunc_string_string = true := rfl
@[simp] theorem retOwn_slices_IndexFunc_string_string : retOwn F_slices_IndexFunc_string_string = false := rfl
@[simp] theorem own_value_rises : own F_value_rises = false := rfl
@[simp] theorem retOwn_value_rises : retOwn F_value_rises = false := rfl
@[simp] theorem own_lex_Plain : own F_lex_Plain = false := rfl
@[simp] theorem retOwn_lex_Plain : retOwn F_lex_Plain = false := rfl
@[simp] theorem own_lex_Name : own F_lex_Name = false := rfl
@[simp] theorem retOwn_lex_Name : retOwn F_lex_Name = false := rfl
@[simp] theorem own_ast_span : own F_ast_span = false := rfl
@[simp] theorem retOwn_ast_span : retOwn F_ast_span = false := rfl
@[simp] theorem own_ref06_head : own F_ref06_head = false := rfl
@[simp] theorem retOwn_ref06_head : retOwn F_ref06_head = false := rfl
@[simp] theorem own_ref06_tail : own F_ref06_tail = false := rfl
@[simp] theorem retOwn_ref06_tail : retOwn F_ref06_tail = false := rfl
@[simp] theorem own_strings_IndexByte : own F_strings_IndexByte = false := rfl
@[simp] theorem retOwn_strings_IndexByte : retOwn F_strings_IndexByte = false := rfl
@[simp] theorem own_lex_letter : own F_lex_letter = false := rfl
@[simp] theorem retOwn_lex_letter : retOwn F_lex_letter = false := rfl
@[simp] theorem own_lex_digit : own F_lex_digit = false := rfl
@[simp] theorem retOwn_lex_digit : retOwn F_lex_digit = false := rfl
@[simp] theorem own_internal_stringslite_IndexByte : own F_internal_stringslite_IndexByte = false := rfl
@[simp] theorem retOwn_internal_stringslite_IndexByte : retOwn F_internal_stringslite_IndexByte = false := rfl
@[simp] theorem deep_XL (e : Callee) : (XL own retOwn e code).deep = true := rfl
end Bz.S
