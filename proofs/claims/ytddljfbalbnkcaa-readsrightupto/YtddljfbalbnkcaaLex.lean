/- Letters, names and plain texts. -/
import Derived.Test.YtddljfbalbnkcaaEx
import Derived.Laws.Runes
set_option linter.unusedSimpArgs false
set_option linter.unusedVariables false
namespace Bz.S
open Go Bz
set_option maxRecDepth 10000
set_option maxHeartbeats 4000000

def digitK (n : Int) : Bool := decide (48 ≤ n) && decide (n ≤ 57)
def letterK (n : Int) : Bool := decide (97 ≤ orK .u8 n 32) && decide (orK .u8 n 32 ≤ 122) || decide (n = 95)
def headK (n : Int) : Bool := decide (97 ≤ n) && decide (n ≤ 122) || decide (65 ≤ n) && decide (n ≤ 90) || decide (n = 95)
def tailK (n : Int) : Bool := headK n || decide (48 ≤ n) && decide (n ≤ 57)

theorem letter_head (b : UInt8) : letterK b.toNat = headK b.toNat := by
  have : ∀ n : Fin 256, letterK (n.val : Nat) = headK (n.val : Nat) := by decide +kernel
  exact this ⟨b.toNat, b.toNat_lt⟩
theorem letter_tail (b : UInt8) : (letterK b.toNat || digitK b.toNat) = tailK b.toNat := by
  rw [letter_head]; rfl

/-- is it a name? -/
def nameB (s : Txt) : Bool := match s with
  | [] => false
  | b :: r => decide (s.length ≤ 16) && headK b.toNat && r.all fun c => tailK c.toNat
/-- may it be a text? -/
def plainB (s : Txt) : Bool := decide (s.length ≤ 32) && s.all fun c => c != 34 && c != 10

theorem name_of (s : Txt) : (!(findI (fun (i : Nat) (b : UInt8) => !letterK b.toNat && (i == 0 || !digitK b.toNat)) s 0).isSome && (!decide (s = []) && decide ((s.length : Int) ≤ 16))) = nameB s := by
  cases s with
  | nil => rfl
  | cons b r =>
    have key : ∀ (r : Txt) (i : Nat), 0 < i → (findI (fun (i : Nat) (b : UInt8) => !letterK b.toNat && (i == 0 || !digitK b.toNat)) r i).isSome = !r.all fun c => tailK c.toNat := by
      intro r
      induction r with
      | nil => intro i _; rfl
      | cons c r ih =>
        intro i hi
        have := letter_tail c
        have hi0 : (i == 0) = false := by simp; omega
        simp only [findI, List.all_cons, ← this, hi0, Bool.false_or]
        cases h1 : letterK c.toNat <;> cases h2 : digitK c.toNat <;> simp [ih (i + 1) (by omega)]
    simp only [nameB, ← letter_head]
    simp only [findI]
    by_cases h1 : letterK b.toNat = true
    · simp [h1, key r 1 (by omega)]
      cases r.all (fun c => tailK c.toNat) <;> simp
      omega
    · simp [h1]

theorem firstIdx_neg (s : Txt) (c : UInt8) : decide (firstIdx ⟨s.toArray⟩ c < 0) = s.all (· != c) := by
  have h := firstIdx_nonneg ⟨s.toArray⟩ c
  have h2 : decide (firstIdx ⟨s.toArray⟩ c < 0) = !decide (0 ≤ firstIdx ⟨s.toArray⟩ c) := by
    simp only [← decide_not]; congr 1; simp; 
  rw [h2, h]
  simp [List.not_any_eq_all_not, bne]

theorem all_and {α : Type} (p q : α → Bool) (l : List α) : (l.all p && l.all q) = l.all fun x => p x && q x := by
  induction l with
  | nil => rfl
  | cons a r ih => simp only [List.all_cons, ← ih]; cases p a <;> cases q a <;> simp

end Bz.S
