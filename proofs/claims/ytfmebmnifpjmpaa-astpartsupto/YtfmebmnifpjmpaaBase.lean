/- The program's functions, as the clean machine answers them; what is said of them all. -/
import Derived.Test.YtfmebmnifpjmpaaOwn
set_option linter.unusedSimpArgs false
set_option linter.unusedVariables false
namespace Bz.S
open Go Bz

def ext : Callee := extByte F_internal_bytealg_IndexByteString
noncomputable abbrev R : Callee := RUN own retOwn ext code
noncomputable abbrev X : Ctx := XL own retOwn ext code

theorem XC : (XL own retOwn ext code).C = R := rfl

theorem R_of {f : Nat} {fn : AFunc} {args : List AV} {H : Heap} {r : AV × Heap} (hc : code f = some fn) (hf : f ≠ F_internal_bytealg_IndexByteString) (h : finish X f fn.results H (exL X fn.body (start fn.ntmps args H)) = some r) :
    R f args H = some r := by
  refine RUN_of own retOwn ext code ?_ hc h
  unfold ext extByte
  rw [if_neg hf]

@[simp] theorem own_indexByteString : own F_internal_bytealg_IndexByteString = false := rfl
attribute [simp] XC
end Bz.S
