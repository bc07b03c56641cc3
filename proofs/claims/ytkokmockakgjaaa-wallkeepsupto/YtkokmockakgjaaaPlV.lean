/- Lists of texts, and values, held against each other (plain), walked. -/
import Derived.Test.YtkokmockakgjaaaVal
set_option linter.unusedSimpArgs false
set_option linter.unusedVariables false
namespace Bz.S
open Go Bz
set_option maxRecDepth 10000
set_option maxHeartbeats 4000000

theorem find_diff {α : Type} [DecidableEq α] {a b : List α} (h : a.length = b.length) : findI (fun i x => decide (¬ b[i]? = some x)) a 0 = none ↔ a = b := by
  rw [findI_none]
  constructor
  · intro hF
    apply List.ext_getElem h
    intro i h1 h2
    have := hF i a[i] (by simp [h1])
    rw [Nat.zero_add] at this
    simp [h2] at this
    exact this.symm
  · rintro rfl k x hx
    rw [Nat.zero_add]
    simp [hx]

theorem run_plTexts (a b : List Txt) (ha : a.length ≤ BIG) (hb : b.length ≤ BIG) : R F_plain_Texts [txS a, txS b] [] = some (.d (.bool (decide (a = b))), []) := by
  refine R_of at_plain_Texts (by decide) ?_
  unfold BIG at ha hb
  by_cases hl : a.length = b.length
  · have hli : (a.length : Int) = b.length := by omega
    have hL := loop_find (X := X) (mask := mask_plain_Texts_0) (body := body_plain_Texts_0) a
      (fun i => ⟨mkE 26 [(0, txS a), (1, txS b), (5, .d (.int .i64 i))], []⟩)
      (fun i x => decide (¬ b[i]? = some x)) (.exit 0, ⟨mkE 26 [], []⟩) (fun i _ => (.ret, ⟨mkE 26 [(4, .d (.bool false))], []⟩)) (by simp) (by simp)
      (fun i e hi he hq => by
        have hj : i < b.length := by omega
        have hw := wrap_ok (a := (i : Int) + 1) (by omega) (by omega)
        simp only [List.getElem?_eq_getElem hj] at hq
        have hq' : b[i] = e := by simpa using hq
        simp -implicitDefEqProofs [body_plain_Texts_0, mask_plain_Texts_0, hi, he, hj, hq', hw])
      (fun i e hi he hq => by
        have hj : i < b.length := by omega
        simp only [List.getElem?_eq_getElem hj] at hq
        have hq' : ¬ e = b[i] := fun h => by rw [h] at hq; simp at hq
        simp -implicitDefEqProofs [body_plain_Texts_0, mask_plain_Texts_0, hi, he, hj, hq']) (by simp -implicitDefEqProofs [body_plain_Texts_0])
    simp -implicitDefEqProofs [code_plain_Texts, hli]
    rw [hL _ (by simp -implicitDefEqProofs [mask_plain_Texts_0])]
    have hd := find_diff hl
    cases hF : findI (fun i x => decide (¬ b[i]? = some x)) a 0 with
    | none =>
      have := hd.1 hF
      simp -implicitDefEqProofs [this]
    | some q =>
      have : ¬ a = b := fun h => by rw [hd.2 h] at hF; cases hF
      simp -implicitDefEqProofs [this]
  · have hli : ¬ (a.length : Int) = b.length := by omega
    have : ¬ a = b := fun h => hl (by rw [h])
    simp -implicitDefEqProofs [code_plain_Texts, hli, this]

end Bz.S
