/- The program's functions, as the clean machine answers them; what is said of them all. -/
import Derived.Test.YtfmebmnifpjmpaaOwn
set_option linter.unusedSimpArgs false
set_option linter.unusedVariables false
namespace Bz.S
open Go Bz

noncomputable abbrev R : Callee := RUN own retOwn ext code
noncomputable abbrev X : Ctx := XL own retOwn ext code

theorem XC : (XL own retOwn ext code).C = R := rfl

theorem R_of {f : Nat} {fn : AFunc} {args : List AV} {H : Heap} {r : AV × Heap} (hc : code f = some fn) (hf : extL.contains f = false) (h : finish X f fn.results H (exL X fn.body (start fn.ntmps args H)) = some r) :
    R f args H = some r := by
  exact RUN_of own retOwn ext code (ext_none hf) hc h

theorem R_ext {f : Nat} {args : List AV} {H : Heap} {r : AV × Heap} (h : ext f args H = some r) : R f args H = some r := RUN_ext own retOwn ext code h

/-- the first steps down a text, the rest left out -/
def headA : Nat → ACode → ACode
  | 0, _ => .skip
  | n + 1, .seq a b => .seq a (headA n b)
  | n + 1, .mask m b => .mask m (headA n b)
  | _ + 1, c => c
/-- the rest -/
def tailA : Nat → ACode → ACode
  | 0, c => c
  | n + 1, .seq _ b => tailA n b
  | n + 1, .mask _ b => tailA n b
  | _ + 1, _ => .skip
@[simp] theorem headA_0 (c : ACode) : headA 0 c = .skip := rfl
@[simp] theorem headA_seq (n : Nat) (a b : ACode) : headA (n + 1) (.seq a b) = .seq a (headA n b) := rfl
@[simp] theorem headA_mask (n : Nat) (m : Mask) (b : ACode) : headA (n + 1) (.mask m b) = .mask m (headA n b) := rfl
@[simp] theorem tailA_0 (c : ACode) : tailA 0 c = c := rfl
@[simp] theorem tailA_seq (n : Nat) (a b : ACode) : tailA (n + 1) (.seq a b) = tailA n b := rfl
@[simp] theorem tailA_mask (n : Nat) (m : Mask) (b : ACode) : tailA (n + 1) (.mask m b) = tailA n b := rfl

/-- a text in two -/
theorem cutA (X : Ctx) : ∀ (n : Nat) (c : ACode) (s s' : St), exL X (headA n c) s = some (.norm, s') → exL X c s = exL X (tailA n c) s'
  | 0, c, s, s', h => by
    have : s = s' := by simpa using h
    rw [this]; rfl
  | n + 1, c, s, s', h => by
    cases c with
    | seq a b =>
      simp only [headA_seq, exL_seq, tailA_seq, seqC] at h ⊢
      cases hr : exL X a s with
      | none => rw [hr] at h; cases h
      | some p =>
        obtain ⟨e, s1⟩ := p
        rw [hr] at h
        cases e with
        | norm => exact cutA X n b s1 s' h
        | exit i => cases h
        | ret => cases h
        | goto i => cases h
    | mask m b =>
      simp only [headA_mask, exL_mask, tailA_mask] at h ⊢
      exact cutA X n b _ s' h
    | _ => exact h

/-- what no law's input passes, by far -/
def BIG : Nat := 68719476736
theorem big_lim {n : Nat} (h : n ≤ BIG) : n ≤ LIM := by unfold BIG at h; unfold LIM; omega

/-- the place of the first that is so -/
def idxK {α : Type} (p : α → Bool) (l : List α) : Int := match findI (fun _ => p) l 0 with
  | none => -1
  | some q => q.1
theorem idxK_any {α : Type} (p : α → Bool) (l : List α) : decide (0 ≤ idxK p l) = l.any p := by
  rw [← findI_any p l 0]; unfold idxK
  cases findI (fun _ => p) l 0 <;> simp

attribute [simp] XC
end Bz.S
