/- Letters, names and plain texts. -/
import Derived.Test.YtfmebmnifpjmpaaEx
import Derived.Laws.Runes
set_option linter.unusedSimpArgs false
set_option linter.unusedVariables false
namespace Bz.S
open Go Bz
set_option maxRecDepth 10000
set_option maxHeartbeats 4000000

def digitK (n : Int) : Bool := decide (48 ≤ n) && decide (n ≤ 57)
def letterK (n : Int) : Bool := decide (97 ≤ orK .u8 n 32) && decide (orK .u8 n 32 ≤ 122) || decide (n = 95)
def headK (n : Int) : Bool := decide (97 ≤ n) && decide (n ≤ 122) || decide (65 ≤ n) && decide (n ≤ 90) || decide (n = 95)
def tailK (n : Int) : Bool := headK n || decide (48 ≤ n) && decide (n ≤ 57)

theorem run_digit (n : Int) : R F_lex_digit [.d (.int .u8 n)] [] = some (.d (.bool (digitK n)), []) := by
  refine R_of at_lex_digit (by decide) ?_
  simp -implicitDefEqProofs [code_lex_digit, digitK]
theorem run_letter (n : Int) : R F_lex_letter [.d (.int .u8 n)] [] = some (.d (.bool (letterK n)), []) := by
  refine R_of at_lex_letter (by decide) ?_
  simp -implicitDefEqProofs [code_lex_letter, letterK]
  grind
theorem run_head (n : Int) : R F_ref06_head [.d (.int .u8 n)] [] = some (.d (.bool (headK n)), []) := by
  refine R_of at_ref06_head (by decide) ?_
  simp -implicitDefEqProofs [code_ref06_head, headK]
  grind
theorem run_tail (n : Int) : R F_ref06_tail [.d (.int .u8 n)] [] = some (.d (.bool (tailK n)), []) := by
  refine R_of at_ref06_tail (by decide) ?_
  simp -implicitDefEqProofs [code_ref06_tail, tailK, run_head]
theorem letter_head (b : UInt8) : letterK b.toNat = headK b.toNat := by
  have : ∀ n : Fin 256, letterK (n.val : Nat) = headK (n.val : Nat) := by decide +kernel
  exact this ⟨b.toNat, b.toNat_lt⟩
theorem letter_tail (b : UInt8) : (letterK b.toNat || digitK b.toNat) = tailK b.toNat := by
  rw [letter_head]; rfl

/-- is it a name? -/
def nameB (s : Txt) : Bool := match s with
  | [] => false
  | b :: r => decide (s.length ≤ 16) && headK b.toNat && r.all fun c => tailK c.toNat
/-- may it be a text? -/
def plainB (s : Txt) : Bool := decide (s.length ≤ 32) && s.all fun c => c != 34 && c != 10

theorem name_of (s : Txt) : (!(findI (fun (i : Nat) (b : UInt8) => !letterK b.toNat && (i == 0 || !digitK b.toNat)) s 0).isSome && (!decide (s = []) && decide ((s.length : Int) ≤ 16))) = nameB s := by
  cases s with
  | nil => rfl
  | cons b r =>
    have key : ∀ (r : Txt) (i : Nat), 0 < i → (findI (fun (i : Nat) (b : UInt8) => !letterK b.toNat && (i == 0 || !digitK b.toNat)) r i).isSome = !r.all fun c => tailK c.toNat := by
      intro r
      induction r with
      | nil => intro i _; rfl
      | cons c r ih =>
        intro i hi
        have := letter_tail c
        have hi0 : (i == 0) = false := by simp; omega
        simp only [findI, List.all_cons, ← this, hi0, Bool.false_or]
        cases h1 : letterK c.toNat <;> cases h2 : digitK c.toNat <;> simp [ih (i + 1) (by omega)]
    simp only [nameB, ← letter_head]
    simp only [findI]
    by_cases h1 : letterK b.toNat = true
    · simp [h1, key r 1 (by omega)]
      cases r.all (fun c => tailK c.toNat) <;> simp
      omega
    · simp [h1]

theorem run_lexName (s : Txt) (hs : s.length ≤ LIM) : R F_lex_Name [.d (.str s)] [] = some (.d (.bool (nameB s)), []) := by
  refine R_of at_lex_Name (by decide) ?_
  have hL := loop_find (X := X) (mask := mask_lex_Name_0) (body := body_lex_Name_0) s (fun i => ⟨mkE 33 [(0, .d (.str s)), (5, .d (.int .i64 s.length)), (6, .d (.int .i64 i))], []⟩)
    (fun i b => !letterK b.toNat && (i == 0 || !digitK b.toNat)) (.exit 0, ⟨mkE 33 [(0, .d (.str s))], []⟩) (fun i b => (.ret, ⟨mkE 33 [(2, .d (.bool false))], []⟩)) (by simp) (by simp)
    (fun i b hi hb hp => by
      have hw := wrap_ok (a := (i : Int) + 1) (by unfold LIM at hs; omega) (by unfold LIM at hs; omega)
      by_cases h1 : letterK b.toNat = true
      · simp -implicitDefEqProofs [body_lex_Name_0, mask_lex_Name_0, run_letter, run_digit, hi, hb, h1, hw]
      · have h2 : ¬ i = 0 ∧ digitK b.toNat = true := by simpa [h1] using hp
        simp -implicitDefEqProofs [body_lex_Name_0, mask_lex_Name_0, run_letter, run_digit, hi, hb, h1, hw, h2.1, h2.2])
    (fun i b hi hb hp => by
      have h2 : letterK b.toNat = false ∧ (i = 0 ∨ digitK b.toNat = false) := by simpa using hp
      rcases h2.2 with rfl | h3
      · simp -implicitDefEqProofs [body_lex_Name_0, run_letter, run_digit, hi, hb, h2.1]
      · by_cases h4 : i = 0 <;> simp -implicitDefEqProofs [body_lex_Name_0, run_letter, run_digit, hi, hb, h2.1, h3]) (by simp -implicitDefEqProofs [body_lex_Name_0])
  simp -implicitDefEqProofs [code_lex_Name, hs]
  rw [hL _ (by simp [mask_lex_Name_0]), ← name_of]
  cases findI (fun (i : Nat) (b : UInt8) => !letterK b.toNat && (i == 0 || !digitK b.toNat)) s 0 with
  | none => simp -implicitDefEqProofs [hs]
  | some q => simp -implicitDefEqProofs

theorem run_IndexByte (s : Txt) (c : Int) : R F_strings_IndexByte [.d (.str s), .d (.int .u8 c)] [] = some (.d (.int .i64 (firstIdx ⟨s.toArray⟩ (UInt8.ofNat c.toNat))), []) := by
  have h0 : R F_internal_bytealg_IndexByteString [.d (.str s), .d (.int .u8 c)] [] = some (.d (.int .i64 (firstIdx ⟨s.toArray⟩ (UInt8.ofNat c.toNat))), []) :=
    R_ext (ext_internal_bytealg_IndexByteString (by simp [extByte]))
  have h1 : R F_internal_stringslite_IndexByte [.d (.str s), .d (.int .u8 c)] [] = some (.d (.int .i64 (firstIdx ⟨s.toArray⟩ (UInt8.ofNat c.toNat))), []) := by
    refine R_of at_internal_stringslite_IndexByte (by decide) ?_
    simp -implicitDefEqProofs [code_internal_stringslite_IndexByte, h0]
  refine R_of at_strings_IndexByte (by decide) ?_
  simp -implicitDefEqProofs [code_strings_IndexByte, h1]

theorem firstIdx_neg (s : Txt) (c : UInt8) : decide (firstIdx ⟨s.toArray⟩ c < 0) = s.all (· != c) := by
  have h := firstIdx_nonneg ⟨s.toArray⟩ c
  have h2 : decide (firstIdx ⟨s.toArray⟩ c < 0) = !decide (0 ≤ firstIdx ⟨s.toArray⟩ c) := by
    simp only [← decide_not]; congr 1; simp; 
  rw [h2, h]
  simp [List.not_any_eq_all_not, bne]

theorem all_and {α : Type} (p q : α → Bool) (l : List α) : (l.all p && l.all q) = l.all fun x => p x && q x := by
  induction l with
  | nil => rfl
  | cons a r ih => simp only [List.all_cons, ← ih]; cases p a <;> cases q a <;> simp

theorem run_lexPlain (s : Txt) (hs : s.length ≤ LIM) : R F_lex_Plain [.d (.str s)] [] = some (.d (.bool (plainB s)), []) := by
  refine R_of at_lex_Plain (by decide) ?_
  have h1 := firstIdx_neg s 34
  have h2 := firstIdx_neg s 10
  have h3 : plainB s = (decide (s.length ≤ 32) && (s.all (· != 34) && s.all (· != 10))) := by rw [all_and]; rfl
  rw [h3, ← h1, ← h2]
  simp -implicitDefEqProofs [code_lex_Plain, hs, run_IndexByte]
  grind

theorem run_refPlain (s : Txt) (hs : s.length ≤ LIM) : R F_ref06_Plain [.d (.str s)] [] = some (.d (.bool (plainB s)), []) := by
  refine R_of at_ref06_Plain (by decide) ?_
  have hL := loop_find (X := X) (mask := mask_ref06_Plain_0) (body := body_ref06_Plain_0) s (fun i => ⟨mkE 23 [(0, .d (.str s)), (3, .d (.int .i64 i))], []⟩)
    (fun i b => b == 34 || b == 10) (.exit 0, ⟨mkE 23 [], []⟩) (fun i b => (.ret, ⟨mkE 23 [(2, .d (.bool false))], []⟩)) (by simp) (by simp)
    (fun i b hi hb hp => by
      have hw := wrap_ok (a := (i : Int) + 1) (by unfold LIM at hs; omega) (by unfold LIM at hs; omega)
      have h1 : ¬ (b.toNat : Int) = 34 := by intro e; have : b = 34 := UInt8.toNat_inj.1 (by simpa using Int.ofNat.inj e); simp [this] at hp
      have h2 : ¬ (b.toNat : Int) = 10 := by intro e; have : b = 10 := UInt8.toNat_inj.1 (by simpa using Int.ofNat.inj e); simp [this] at hp
      simp -implicitDefEqProofs [body_ref06_Plain_0, mask_ref06_Plain_0, hi, hs, hb, h1, h2, hw])
    (fun i b hi hb hp => by
      simp at hp
      rcases hp with rfl | rfl <;> simp -implicitDefEqProofs [body_ref06_Plain_0, mask_ref06_Plain_0, hi, hs, hb]) (by simp -implicitDefEqProofs [body_ref06_Plain_0, hs])
  have h3 : plainB s = (decide (s.length ≤ 32) && !(findI (fun (_ : Nat) (b : UInt8) => b == 34 || b == 10) s 0).isSome) := by
    rw [findI_any]; simp [plainB, List.not_any_eq_all_not, bne]
  rw [h3]
  simp -implicitDefEqProofs [code_ref06_Plain, hs]
  by_cases hl : s.length ≤ 32
  · have hl' : ¬ (32 : Int) < s.length := by omega
    simp [hl, hl']
    rw [hL _ (by simp [mask_ref06_Plain_0])]
    cases findI (fun (_ : Nat) (b : UInt8) => b == 34 || b == 10) s 0 <;> simp -implicitDefEqProofs
  · have hl' : (32 : Int) < s.length := by omega
    simp [hl, hl']

theorem run_refName (s : Txt) (hs : s.length ≤ LIM) : R F_ref06_Name [.d (.str s)] [] = some (.d (.bool (nameB s)), []) := by
  refine R_of at_ref06_Name (by decide) ?_
  cases s with
  | nil => simp -implicitDefEqProofs [code_ref06_Name, nameB]
  | cons b r =>
    have hs2 : r.length + 1 ≤ LIM := by simpa using hs
    have hL := loop_find (X := X) (mask := mask_ref06_Name_0) (body := body_ref06_Name_0) r (fun i => ⟨mkE 28 [(0, .d (.str (b :: r))), (3, .d (.int .i64 (i + 1 : Nat)))], []⟩)
      (fun _ c => !tailK c.toNat) (.exit 0, ⟨mkE 28 [], []⟩) (fun i c => (.ret, ⟨mkE 28 [(2, .d (.bool false))], []⟩)) (by simp) (by simp)
      (fun i c hi hc hp => by
        have hw := wrap_ok (a := (i : Int) + 1 + 1) (by unfold LIM at hs2; omega) (by unfold LIM at hs2; omega)
        have h0 : (0 : Int) ≤ (i : Int) + 1 := by omega
        have h1 : (i : Int) + 1 < (r.length : Int) + 1 := by omega
        have h2 : ((i : Int) + 1).toNat = i + 1 := by omega
        simp at hp
        simp -implicitDefEqProofs [body_ref06_Name_0, mask_ref06_Name_0, hi, hs2, h0, h2, hc, hw, hp, run_tail])
      (fun i c hi hc hp => by
        have h0 : (0 : Int) ≤ (i : Int) + 1 := by omega
        have h2 : ((i : Int) + 1).toNat = i + 1 := by omega
        simp at hp
        simp -implicitDefEqProofs [body_ref06_Name_0, hi, hs2, h0, h2, hc, hp, run_tail]) (by simp -implicitDefEqProofs [body_ref06_Name_0, hs2])
    have h3 : (findI (fun (_ : Nat) (c : UInt8) => !tailK c.toNat) r 0).isSome = !r.all fun c => tailK c.toNat := by
      rw [findI_any]; simp [List.any_eq_not_all_not]
    by_cases hl : r.length + 1 ≤ 16
    · have hl' : ¬ (16 : Int) < (r.length : Int) + 1 := by omega
      cases hb : headK b.toNat with
      | false => simp -implicitDefEqProofs [code_ref06_Name, nameB, hs2, run_head, hb, hl']
      | true =>
        simp -implicitDefEqProofs [code_ref06_Name, nameB, hs2, run_head, hb, hl']
        rw [hL _ (by simp [mask_ref06_Name_0])]
        cases hf : findI (fun (_ : Nat) (c : UInt8) => !tailK c.toNat) r 0 with
        | none => rw [hf] at h3; simp at h3; have hl2 : r.length ≤ 15 := by omega
                  simp -implicitDefEqProofs [hl2]; exact h3
        | some q => rw [hf] at h3; simp at h3; simp -implicitDefEqProofs [h3]
    · have hl' : (16 : Int) < (r.length : Int) + 1 := by omega
      have hl2 : ¬ r.length ≤ 15 := by omega
      simp -implicitDefEqProofs [code_ref06_Name, nameB, hs2, hl', hl2]
end Bz.S
