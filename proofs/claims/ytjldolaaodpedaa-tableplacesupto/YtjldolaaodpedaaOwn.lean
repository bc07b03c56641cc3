/- Which functions are handed slices of the caller's own, and which hand out their own. -/
import Derived.Test.YtjldolaaodpedaaBz2
import Derived.Test.YtjldolaaodpedaaCode0
set_option linter.unusedSimpArgs false
set_option linter.unusedVariables false
namespace Bz.S
open Go Bz
def own : Nat → Bool := fun f => [F_table_back].contains f
def retOwn : Nat → Bool := fun f => [F_table_own].contains f
@[simp] theorem own_indexByteString : own F_internal_bytealg_IndexByteString = false := rfl
def ext : Callee := extByte F_internal_bytealg_IndexByteString
theorem ext_none {f : Nat} {args : List AV} {H : Heap} (hf : f ≠ F_internal_bytealg_IndexByteString) : ext f args H = none := by
  unfold ext extByte
  rw [if_neg hf]
@[simp] theorem own_law13_TableTells : own F_law13_TableTells = false := rfl
@[simp] theorem retOwn_law13_TableTells : retOwn F_law13_TableTells = false := rfl
@[simp] theorem own_law13_TableBack : own F_law13_TableBack = false := rfl
@[simp] theorem retOwn_law13_TableBack : retOwn F_law13_TableBack = false := rfl
@[simp] theorem own_law13_TableRefuses : own F_law13_TableRefuses = false := rfl
@[simp] theorem retOwn_law13_TableRefuses : retOwn F_law13_TableRefuses = false := rfl
@[simp] theorem own_law13_TablePlaces : own F_law13_TablePlaces = false := rfl
@[simp] theorem retOwn_law13_TablePlaces : retOwn F_law13_TablePlaces = false := rfl
@[simp] theorem own_law13_alive : own F_law13_alive = false := rfl
@[simp] theorem retOwn_law13_alive : retOwn F_law13_alive = false := rfl
@[simp] theorem own_table_Of : own F_table_Of = false := rfl
@[simp] theorem retOwn_table_Of : retOwn F_table_Of = false := rfl
@[simp] theorem own_law13_rows : own F_law13_rows = false := rfl
@[simp] theorem retOwn_law13_rows : retOwn F_law13_rows = false := rfl
@[simp] theorem own_ref07_Check : own F_ref07_Check = false := rfl
@[simp] theorem retOwn_ref07_Check : retOwn F_ref07_Check = false := rfl
@[simp] theorem own_ref13_Of : own F_ref13_Of = false := rfl
@[simp] theorem retOwn_ref13_Of : retOwn F_ref13_Of = false := rfl
@[simp] theorem own_ref13_Same : own F_ref13_Same = false := rfl
@[simp] theorem retOwn_ref13_Same : retOwn F_ref13_Same = false := rfl
@[simp] theorem own_table_Back : own F_table_Back = false := rfl
@[simp] theorem retOwn_table_Back : retOwn F_table_Back = false := rfl
@[simp] theorem own_plain_Expr : own F_plain_Expr = false := rfl
@[simp] theorem retOwn_plain_Expr : retOwn F_plain_Expr = false := rfl
@[simp] theorem own_ref13_Back : own F_ref13_Back = false := rfl
@[simp] theorem retOwn_ref13_Back : retOwn F_ref13_Back = false := rfl
@[simp] theorem own_table_Check : own F_table_Check = false := rfl
@[simp] theorem retOwn_table_Check : retOwn F_table_Check = false := rfl
@[simp] theorem own_ref07_All : own F_ref07_All = false := rfl
@[simp] theorem retOwn_ref07_All : retOwn F_ref07_All = false := rfl
@[simp] theorem own_ast_Check : own F_ast_Check = false := rfl
@[simp] theorem retOwn_ast_Check : retOwn F_ast_Check = false := rfl
@[simp] theorem own_table_Of_1 : own F_table_Of_1 = false := rfl
@[simp] theorem retOwn_table_Of_1 : retOwn F_table_Of_1 = false := rfl
@[simp] theorem own_ref07_Depth : own F_ref07_Depth = false := rfl
@[simp] theorem retOwn_ref07_Depth : retOwn F_ref07_Depth = false := rfl
@[simp] theorem own_ref07_Kids : own F_ref07_Kids = false := rfl
@[simp] theorem retOwn_ref07_Kids : retOwn F_ref07_Kids = false := rfl
@[simp] theorem own_ref07_set : own F_ref07_set = false := rfl
@[simp] theorem retOwn_ref07_set : retOwn F_ref07_set = false := rfl
@[simp] theorem own_ref07_fits : own F_ref07_fits = false := rfl
@[simp] theorem retOwn_ref07_fits : retOwn F_ref07_fits = false := rfl
@[simp] theorem own_table_back : own F_table_back = true := rfl
@[simp] theorem retOwn_table_back : retOwn F_table_back = false := rfl
@[simp] theorem own_slices_EqualFunc_table_Row_table_Row_table_Row_table_Row : own F_slices_EqualFunc_table_Row_table_Row_table_Row_table_Row = false := rfl
@[simp] theorem retOwn_slices_EqualFunc_table_Row_table_Row_table_Row_table_Row : retOwn F_slices_EqualFunc_table_Row_table_Row_table_Row_table_Row = false := rfl
@[simp] theorem own_table_same : own F_table_same = false := rfl
@[simp] theorem retOwn_table_same : retOwn F_table_same = false := rfl
@[simp] theorem own_ast_Clone : own F_ast_Clone = false := rfl
@[simp] theorem retOwn_ast_Clone : retOwn F_ast_Clone = false := rfl
@[simp] theorem own_ref13_grow : own F_ref13_grow = false := rfl
@[simp] theorem retOwn_ref13_grow : retOwn F_ref13_grow = false := rfl
@[simp] theorem own_ast_Depth : own F_ast_Depth = false := rfl
@[simp] theorem retOwn_ast_Depth : retOwn F_ast_Depth = false := rfl
@[simp] theorem own_ast_Size : own F_ast_Size = false := rfl
@[simp] theorem retOwn_ast_Size : retOwn F_ast_Size = false := rfl
@[simp] theorem own_ast_may : own F_ast_may = false := rfl
@[simp] theorem retOwn_ast_may : retOwn F_ast_may = false := rfl
@[simp] theorem own_table_own : own F_table_own = false := rfl
@[simp] theorem retOwn_table_own : retOwn F_table_own = true := rfl
@[simp] theorem own_ref06_Plain : own F_ref06_Plain = false := rfl
@[simp] theorem retOwn_ref06_Plain : retOwn F_ref06_Plain = false := rfl
@[simp] theorem own_ref06_Name : own F_ref06_Name = false := rfl
@[simp] theorem retOwn_ref06_Name : retOwn F_ref06_Name = false := rfl
@[simp] theorem own_slices_Equal_string_string : own F_slices_Equal_string_string = false := rfl
@[simp] theorem retOwn_slices_Equal_string_string : retOwn F_slices_Equal_string_string = false := rfl
@[simp] theorem own_slices_Equal_int_int : own F_slices_Equal_int_int = false := rfl
@[simp] theorem retOwn_slices_Equal_int_int : retOwn F_slices_Equal_int_int = false := rfl
@[simp] theorem own_ast_inner : own F_ast_inner = false := rfl
@[simp] theorem retOwn_ast_inner : retOwn F_ast_inner = false := rfl
@[simp] theorem own_ast_own : own F_ast_own = false := rfl
@[simp] theorem retOwn_ast_own : retOwn F_ast_own = false := rfl
@[simp] theorem own_ast_texts : own F_ast_texts = false := rfl
@[simp] theorem retOwn_ast_texts : retOwn F_ast_texts = false := rfl
@[simp] theorem own_ast_Kids : own F_ast_Kids = false := rfl
@[simp] theorem retOwn_ast_Kids : retOwn F_ast_Kids = false := rfl
@[simp] theorem own_slices_ContainsFunc_api_Expr_api_Expr : own F_slices_ContainsFunc_api_Expr_api_Expr = false := rfl
@[simp] theorem retOwn_slices_ContainsFunc_api_Expr_api_Expr : retOwn F_slices_ContainsFunc_api_Expr_api_Expr = false := rfl
@[simp] theorem own_ast_may_1 : own F_ast_may_1 = false := rfl
@[simp] theorem retOwn_ast_may_1 : retOwn F_ast_may_1 = false := rfl
@[simp] theorem own_ref06_head : own F_ref06_head = false := rfl
@[simp] theorem retOwn_ref06_head : retOwn F_ref06_head = false := rfl
@[simp] theorem own_ref06_tail : own F_ref06_tail = false := rfl
@[simp] theorem retOwn_ref06_tail : retOwn F_ref06_tail = false := rfl
@[simp] theorem own_lex_Plain : own F_lex_Plain = false := rfl
@[simp] theorem retOwn_lex_Plain : retOwn F_lex_Plain = false := rfl
@[simp] theorem own_lex_Name : own F_lex_Name = false := rfl
@[simp] theorem retOwn_lex_Name : retOwn F_lex_Name = false := rfl
@[simp] theorem own_ast_span : own F_ast_span = false := rfl
@[simp] theorem retOwn_ast_span : retOwn F_ast_span = false := rfl
@[simp] theorem own_slices_IndexFunc_api_Expr_api_Expr : own F_slices_IndexFunc_api_Expr_api_Expr = false := rfl
@[simp] theorem retOwn_slices_IndexFunc_api_Expr_api_Expr : retOwn F_slices_IndexFunc_api_Expr_api_Expr = false := rfl
@[simp] theorem own_strings_IndexByte : own F_strings_IndexByte = false := rfl
@[simp] theorem retOwn_strings_IndexByte : retOwn F_strings_IndexByte = false := rfl
@[simp] theorem own_lex_letter : own F_lex_letter = false := rfl
@[simp] theorem retOwn_lex_letter : retOwn F_lex_letter = false := rfl
@[simp] theorem own_lex_digit : own F_lex_digit = false := rfl
@[simp] theorem retOwn_lex_digit : retOwn F_lex_digit = false := rfl
@[simp] theorem own_internal_stringslite_IndexByte : own F_internal_stringslite_IndexByte = false := rfl
@[simp] theorem retOwn_internal_stringslite_IndexByte : retOwn F_internal_stringslite_IndexByte = false := rfl
end Bz.S
