/- The program's functions, as the clean machine answers them; what is said of them all. -/
import Derived.Test.YtmhphopfghlmnaaOwn
set_option linter.unusedSimpArgs false
set_option linter.unusedVariables false
namespace Bz.S
open Go Bz

noncomputable abbrev R : Callee := RUN own retOwn ext code
noncomputable abbrev X : Ctx := XL own retOwn ext code

theorem XC : (XL own retOwn ext code).C = R := rfl

theorem R_of {f : Nat} {fn : AFunc} {args : List AV} {H : Heap} {r : AV × Heap} (hc : code f = some fn) (hf : extL.contains f = false) (h : finish X f fn.results H (exL X fn.body (start fn.ntmps args H)) = some r) :
    R f args H = some r := by
  exact RUN_of own retOwn ext code (ext_none hf) hc h

theorem R_ext {f : Nat} {args : List AV} {H : Heap} {r : AV × Heap} (h : ext f args H = some r) : R f args H = some r := RUN_ext own retOwn ext code h

/-- what no law's input passes, by far -/
def BIG : Nat := 68719476736
theorem big_lim {n : Nat} (h : n ≤ BIG) : n ≤ LIM := by unfold BIG at h; unfold LIM; omega

/-- the place of the first that is so -/
def idxK {α : Type} (p : α → Bool) (l : List α) : Int := match findI (fun _ => p) l 0 with
  | none => -1
  | some q => q.1
theorem idxK_any {α : Type} (p : α → Bool) (l : List α) : decide (0 ≤ idxK p l) = l.any p := by
  rw [← findI_any p l 0]; unfold idxK
  cases findI (fun _ => p) l 0 <;> simp

attribute [simp] XC
end Bz.S
