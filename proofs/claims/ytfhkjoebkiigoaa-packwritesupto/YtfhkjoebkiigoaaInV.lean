/- Values that are read: the program's package octet, walked. -/
import Derived.Test.YtfhkjoebkiigoaaIn
import Derived.Test.YtfhkjoebkiigoaaVal
set_option linter.unusedSimpArgs false
set_option linter.unusedVariables false
namespace Bz.S
open Go Bz
set_option maxRecDepth 10000
set_option maxHeartbeats 4000000

/-- so many texts -/
def inTexts : Nat → Option Txt → List Txt × Option Txt
  | 0, r => ([], r)
  | n + 1, r => ((inText r).1 :: (inTexts n (inText r).2).1, (inTexts n (inText r).2).2)
theorem inTexts_len : ∀ (n : Nat) (r : Option Txt), (inTexts n r).1.length = n
  | 0, _ => rfl
  | n + 1, r => by simp [inTexts, inTexts_len n]
theorem inTexts_each : ∀ (n : Nat) (r : Option Txt), ∀ t ∈ (inTexts n r).1, t.length ≤ 255
  | 0, _, t, h => by simp [inTexts] at h
  | n + 1, r, t, h => by
    simp only [inTexts, List.mem_cons] at h
    rcases h with rfl | h
    · exact inText_len r
    · exact inTexts_each n _ t h

def inBody (k : Int) (r : Option Txt) : Va × Option Txt :=
  if k = 1 then (⟨1, (inInt r).1, [], []⟩, (inInt r).2) else if k = 2 then (⟨2, (inByte r).1, [], []⟩, (inByte r).2)
  else if k = 3 then (⟨3, 0, (inText r).1, []⟩, (inText r).2) else if k = 4 then (⟨4, 0, [], (inTexts (inByte r).1.toNat (inByte r).2).1⟩, (inTexts (inByte r).1.toNat (inByte r).2).2)
  else (⟨k, 0, [], []⟩, r)

theorem inBody_OK (k : Int) (r : Option Txt) : VaOK (inBody k r).1 := by
  have h1 := inText_len r
  have h2 := inTexts_len (inByte r).1.toNat (inByte r).2
  have h3 := inTexts_each (inByte r).1.toNat (inByte r).2
  have hb := inByte_lo r
  unfold inBody
  split
  · exact ⟨by simp [LIM], by simp [BIG], by simp⟩
  · split
    · exact ⟨by simp [LIM], by simp [BIG], by simp⟩
    · split
      · exact ⟨by unfold LIM; simp; omega, by simp [BIG], by simp⟩
      · split
        · exact ⟨by simp [LIM], by unfold BIG; simp only; omega, fun t ht => by have := h3 t ht; unfold LIM; omega⟩
        · exact ⟨by simp [LIM], by simp [BIG], by simp⟩

def va0 : Va := ⟨0, 0, [], []⟩
def inValue (r : Option Txt) : Va × Option Txt :=
  if (inBody (inByte r).1 (inByte r).2).2.isSome ∧ vaCheck (inBody (inByte r).1 (inByte r).2).1 = 0 then inBody (inByte r).1 (inByte r).2 else (va0, none)

end Bz.S
