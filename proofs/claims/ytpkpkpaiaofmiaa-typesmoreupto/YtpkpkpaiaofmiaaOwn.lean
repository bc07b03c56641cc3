/- Which functions are handed slices of the caller's own, and which hand out their own. -/
import Derived.Test.YtpkpkpaiaofmiaaBz2
import Derived.Test.YtpkpkpaiaofmiaaCode0
set_option linter.unusedSimpArgs false
set_option linter.unusedVariables false
namespace Bz.S
open Go Bz
def own : Nat → Bool := fun f => [].contains f
def retOwn : Nat → Bool := fun f => [].contains f
@[simp] theorem own_indexByteString : own F_internal_bytealg_IndexByteString = false := rfl
def ext : Callee := extByte F_internal_bytealg_IndexByteString
theorem ext_none {f : Nat} {args : List AV} {H : Heap} (hf : f ≠ F_internal_bytealg_IndexByteString) : ext f args H = none := by
  unfold ext extByte
  rw [if_neg hf]
@[simp] theorem own_law10_TypesTells : own F_law10_TypesTells = false := rfl
@[simp] theorem retOwn_law10_TypesTells : retOwn F_law10_TypesTells = false := rfl
@[simp] theorem own_law10_TypesDecls : own F_law10_TypesDecls = false := rfl
@[simp] theorem retOwn_law10_TypesDecls : retOwn F_law10_TypesDecls = false := rfl
@[simp] theorem own_law10_TypesParts : own F_law10_TypesParts = false := rfl
@[simp] theorem retOwn_law10_TypesParts : retOwn F_law10_TypesParts = false := rfl
@[simp] theorem own_law10_TypesMore : own F_law10_TypesMore = false := rfl
@[simp] theorem retOwn_law10_TypesMore : retOwn F_law10_TypesMore = false := rfl
@[simp] theorem own_law10_alive : own F_law10_alive = false := rfl
@[simp] theorem retOwn_law10_alive : retOwn F_law10_alive = false := rfl
@[simp] theorem own_types_Of : own F_types_Of = false := rfl
@[simp] theorem retOwn_types_Of : retOwn F_types_Of = false := rfl
@[simp] theorem own_ref10_Of : own F_ref10_Of = false := rfl
@[simp] theorem retOwn_ref10_Of : retOwn F_ref10_Of = false := rfl
@[simp] theorem own_types_Truth : own F_types_Truth = false := rfl
@[simp] theorem retOwn_types_Truth : retOwn F_types_Truth = false := rfl
@[simp] theorem own_ref10_Truth : own F_ref10_Truth = false := rfl
@[simp] theorem retOwn_ref10_Truth : retOwn F_ref10_Truth = false := rfl
@[simp] theorem own_types_Decls : own F_types_Decls = false := rfl
@[simp] theorem retOwn_types_Decls : retOwn F_types_Decls = false := rfl
@[simp] theorem own_ref10_Decls : own F_ref10_Decls = false := rfl
@[simp] theorem retOwn_ref10_Decls : retOwn F_ref10_Decls = false := rfl
@[simp] theorem own_ast_Check : own F_ast_Check = false := rfl
@[simp] theorem retOwn_ast_Check : retOwn F_ast_Check = false := rfl
@[simp] theorem own_types_kind : own F_types_kind = false := rfl
@[simp] theorem retOwn_types_kind : retOwn F_types_kind = false := rfl
@[simp] theorem own_ref07_Check : own F_ref07_Check = false := rfl
@[simp] theorem retOwn_ref07_Check : retOwn F_ref07_Check = false := rfl
@[simp] theorem own_ref10_kind : own F_ref10_kind = false := rfl
@[simp] theorem retOwn_ref10_kind : retOwn F_ref10_kind = false := rfl
@[simp] theorem own_lex_Name : own F_lex_Name = false := rfl
@[simp] theorem retOwn_lex_Name : retOwn F_lex_Name = false := rfl
@[simp] theorem own_types_of : own F_types_of = false := rfl
@[simp] theorem retOwn_types_of : retOwn F_types_of = false := rfl
@[simp] theorem own_ref06_Name : own F_ref06_Name = false := rfl
@[simp] theorem retOwn_ref06_Name : retOwn F_ref06_Name = false := rfl
@[simp] theorem own_ref10_Declared : own F_ref10_Declared = false := rfl
@[simp] theorem retOwn_ref10_Declared : retOwn F_ref10_Declared = false := rfl
@[simp] theorem own_ast_Depth : own F_ast_Depth = false := rfl
@[simp] theorem retOwn_ast_Depth : retOwn F_ast_Depth = false := rfl
@[simp] theorem own_ast_Size : own F_ast_Size = false := rfl
@[simp] theorem retOwn_ast_Size : retOwn F_ast_Size = false := rfl
@[simp] theorem own_ast_may : own F_ast_may = false := rfl
@[simp] theorem retOwn_ast_may : retOwn F_ast_may = false := rfl
@[simp] theorem own_ast_Kids : own F_ast_Kids = false := rfl
@[simp] theorem retOwn_ast_Kids : retOwn F_ast_Kids = false := rfl
@[simp] theorem own_types_leaf : own F_types_leaf = false := rfl
@[simp] theorem retOwn_types_leaf : retOwn F_types_leaf = false := rfl
@[simp] theorem own_types_pair : own F_types_pair = false := rfl
@[simp] theorem retOwn_types_pair : retOwn F_types_pair = false := rfl
@[simp] theorem own_types_single : own F_types_single = false := rfl
@[simp] theorem retOwn_types_single : retOwn F_types_single = false := rfl
@[simp] theorem own_ref07_Depth : own F_ref07_Depth = false := rfl
@[simp] theorem retOwn_ref07_Depth : retOwn F_ref07_Depth = false := rfl
@[simp] theorem own_ref07_All : own F_ref07_All = false := rfl
@[simp] theorem retOwn_ref07_All : retOwn F_ref07_All = false := rfl
@[simp] theorem own_ref07_Kids : own F_ref07_Kids = false := rfl
@[simp] theorem retOwn_ref07_Kids : retOwn F_ref07_Kids = false := rfl
@[simp] theorem own_ref07_set : own F_ref07_set = false := rfl
@[simp] theorem retOwn_ref07_set : retOwn F_ref07_set = false := rfl
@[simp] theorem own_ref07_fits : own F_ref07_fits = false := rfl
@[simp] theorem retOwn_ref07_fits : retOwn F_ref07_fits = false := rfl
@[simp] theorem own_ref10_Fit : own F_ref10_Fit = false := rfl
@[simp] theorem retOwn_ref10_Fit : retOwn F_ref10_Fit = false := rfl
@[simp] theorem own_lex_letter : own F_lex_letter = false := rfl
@[simp] theorem retOwn_lex_letter : retOwn F_lex_letter = false := rfl
@[simp] theorem own_lex_digit : own F_lex_digit = false := rfl
@[simp] theorem retOwn_lex_digit : retOwn F_lex_digit = false := rfl
@[simp] theorem own_types_of_1 : own F_types_of_1 = false := rfl
@[simp] theorem retOwn_types_of_1 : retOwn F_types_of_1 = false := rfl
@[simp] theorem own_slices_IndexFunc_api_Decl_api_Decl : own F_slices_IndexFunc_api_Decl_api_Decl = false := rfl
@[simp] theorem retOwn_slices_IndexFunc_api_Decl_api_Decl : retOwn F_slices_IndexFunc_api_Decl_api_Decl = false := rfl
@[simp] theorem own_ref06_head : own F_ref06_head = false := rfl
@[simp] theorem retOwn_ref06_head : retOwn F_ref06_head = false := rfl
@[simp] theorem own_ref06_tail : own F_ref06_tail = false := rfl
@[simp] theorem retOwn_ref06_tail : retOwn F_ref06_tail = false := rfl
@[simp] theorem own_ast_inner : own F_ast_inner = false := rfl
@[simp] theorem retOwn_ast_inner : retOwn F_ast_inner = false := rfl
@[simp] theorem own_ast_own : own F_ast_own = false := rfl
@[simp] theorem retOwn_ast_own : retOwn F_ast_own = false := rfl
@[simp] theorem own_ast_texts : own F_ast_texts = false := rfl
@[simp] theorem retOwn_ast_texts : retOwn F_ast_texts = false := rfl
@[simp] theorem own_slices_ContainsFunc_api_Expr_api_Expr : own F_slices_ContainsFunc_api_Expr_api_Expr = false := rfl
@[simp] theorem retOwn_slices_ContainsFunc_api_Expr_api_Expr : retOwn F_slices_ContainsFunc_api_Expr_api_Expr = false := rfl
@[simp] theorem own_ast_may_1 : own F_ast_may_1 = false := rfl
@[simp] theorem retOwn_ast_may_1 : retOwn F_ast_may_1 = false := rfl
@[simp] theorem own_ref06_Plain : own F_ref06_Plain = false := rfl
@[simp] theorem retOwn_ref06_Plain : retOwn F_ref06_Plain = false := rfl
@[simp] theorem own_lex_Plain : own F_lex_Plain = false := rfl
@[simp] theorem retOwn_lex_Plain : retOwn F_lex_Plain = false := rfl
@[simp] theorem own_ast_span : own F_ast_span = false := rfl
@[simp] theorem retOwn_ast_span : retOwn F_ast_span = false := rfl
@[simp] theorem own_slices_IndexFunc_api_Expr_api_Expr : own F_slices_IndexFunc_api_Expr_api_Expr = false := rfl
@[simp] theorem retOwn_slices_IndexFunc_api_Expr_api_Expr : retOwn F_slices_IndexFunc_api_Expr_api_Expr = false := rfl
@[simp] theorem own_strings_IndexByte : own F_strings_IndexByte = false := rfl
@[simp] theorem retOwn_strings_IndexByte : retOwn F_strings_IndexByte = false := rfl
@[simp] theorem own_internal_stringslite_IndexByte : own F_internal_stringslite_IndexByte = false := rfl
@[simp] theorem retOwn_internal_stringslite_IndexByte : retOwn F_internal_stringslite_IndexByte = false := rfl
end Bz.S
