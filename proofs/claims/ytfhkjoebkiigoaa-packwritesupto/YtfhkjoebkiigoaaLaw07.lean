/- Layer 7's laws, walked. -/
import Derived.Test.YtfhkjoebkiigoaaRef07
import Derived.KernelRfl
set_option linter.unusedSimpArgs false
set_option linter.unusedVariables false
namespace Bz.S
open Go Bz
set_option maxRecDepth 10000
set_option maxHeartbeats 4000000

theorem check_ok {e : Ex} : astCheck e = 0 ↔ depth e ≤ 12 ∧ size e ≤ 64 ∧ mayOK e = true := by
  unfold astCheck; grind

theorem depths_mem {l : List Ex} {k : Ex} (h : k ∈ l) : depth k ≤ depths l := by
  induction l with
  | nil => cases h
  | cons a r ih =>
    simp only [depths]
    rcases List.mem_cons.1 h with rfl | h
    · omega
    · have := ih h; omega
theorem sizes_mem {l : List Ex} {k : Ex} (h : k ∈ l) : size k ≤ sizes l := by
  induction l with
  | nil => cases h
  | cons a r ih =>
    simp only [sizes]
    rcases List.mem_cons.1 h with rfl | h
    · omega
    · have := ih h; omega

theorem kid_ok {e k : Ex} (hc : astCheck e = 0) (hk : k ∈ e.kids) : astCheck k = 0 ∧ (¬ e.kind = 4 → depth k < depth e) ∧ (pastB k = true → pastB e = true) := by
  rw [check_ok] at hc ⊢
  obtain ⟨h1, h2, h3⟩ := hc
  by_cases h4 : e.kind = 4
  · rw [may_eq, if_pos h4, Bool.and_eq_true] at h3
    have h5 := h3.2
    unfold setOK at h5
    simp only [Bool.and_eq_true, List.all_eq_true] at h5
    have ht := h5.1.1 k hk
    obtain ⟨t1, t2, _⟩ := (text_iff k).1 ht
    have hin : innerK k = [] := by unfold innerK; rw [t2]; split <;> rfl
    refine ⟨⟨?_, ?_, ?_⟩, fun h => absurd h4 h, fun h => ?_⟩
    · rw [depth_eq, hin]; simp [depths]
    · rw [size_eq, hin]; simp [sizes]
    · rw [← textOK_may t1]; exact ht
    · rw [past_eq, hin] at h
      simp [pastBs, looksB, t1] at h
  · have hin : innerK e = e.kids := by unfold innerK; rw [if_neg h4]
    rw [may_eq, if_neg h4, Bool.and_eq_true, mayOKs_all, List.all_eq_true] at h3
    have hd := depths_mem hk
    have hs := sizes_mem hk
    have e1 := depth_eq e
    have e2 := size_eq e
    rw [hin] at e1 e2
    refine ⟨⟨by omega, by omega, h3.2 k hk⟩, fun _ => by omega, fun h => ?_⟩
    rw [past_eq, hin, pastBs_any]
    have : e.kids.any pastB = true := List.any_eq_true.2 ⟨k, hk, h⟩
    simp [this]

end Bz.S
