/- Layer 7's laws, walked. -/
import Derived.Test.YtfmebmnifpjmpaaRef07
import Derived.KernelRfl
set_option linter.unusedSimpArgs false
set_option linter.unusedVariables false
namespace Bz.S
open Go Bz
set_option maxRecDepth 10000
set_option maxHeartbeats 4000000

theorem run_alive07 : R F_law07_alive [] [] = some (.d (.bool true), []) :=
  RUN_run own retOwn ext code (k := 40) (by kernel_rfl)

theorem run_AstChecks (e : Ex) (hb0 : bulkL (exC e) ≤ 1048576) : R F_law07_AstChecks [exA e] [] = some (.d (.bool true), []) := by
  refine R_of at_law07_AstChecks (by decide) ?_
  have hb : exN e ≤ BIG := by unfold exN BIG; omega
  have h1 := run_Check e hb
  have h2 := run_refCheck e hb
  simp -implicitDefEqProofs [code_law07_AstChecks, run_alive07, h1, h2]

theorem run_AstMeasures (e : Ex) (k : Int) (_w : (Lit.int .i64 k).wf = true) (hb0 : bulkL (exC e) + (bulkL [.int .i64 k]) ≤ 1048576) : R F_law07_AstMeasures [exA e, .d (.int .i64 k)] [] = some (.d (.bool true), []) := by
  refine R_of at_law07_AstMeasures (by decide) ?_
  have hb : exN e ≤ BIG := by unfold exN BIG; omega
  have h1 := run_Depth e hb
  have h2 := run_refDepth e hb
  have h3 := run_Size e hb
  have h4 := run_All e hb
  have h5 := run_Past e hb
  have h6 := run_refPast e hb
  have h7 := all_len e
  simp -implicitDefEqProofs [code_law07_AstMeasures, run_alive07, run_Kids, run_refKids, h1, h2, h3, h4, h5, h6, h7]

theorem check_ok {e : Ex} : astCheck e = 0 ↔ depth e ≤ 12 ∧ size e ≤ 64 ∧ mayOK e = true := by
  unfold astCheck; grind

theorem depths_mem {l : List Ex} {k : Ex} (h : k ∈ l) : depth k ≤ depths l := by
  induction l with
  | nil => cases h
  | cons a r ih =>
    simp only [depths]
    rcases List.mem_cons.1 h with rfl | h
    · omega
    · have := ih h; omega
theorem sizes_mem {l : List Ex} {k : Ex} (h : k ∈ l) : size k ≤ sizes l := by
  induction l with
  | nil => cases h
  | cons a r ih =>
    simp only [sizes]
    rcases List.mem_cons.1 h with rfl | h
    · omega
    · have := ih h; omega

theorem kid_ok {e k : Ex} (hc : astCheck e = 0) (hk : k ∈ e.kids) : astCheck k = 0 ∧ (¬ e.kind = 4 → depth k < depth e) ∧ (pastB k = true → pastB e = true) := by
  rw [check_ok] at hc ⊢
  obtain ⟨h1, h2, h3⟩ := hc
  by_cases h4 : e.kind = 4
  · rw [may_eq, if_pos h4, Bool.and_eq_true] at h3
    have h5 := h3.2
    unfold setOK at h5
    simp only [Bool.and_eq_true, List.all_eq_true] at h5
    have ht := h5.1.1 k hk
    obtain ⟨t1, t2, _⟩ := (text_iff k).1 ht
    have hin : innerK k = [] := by unfold innerK; rw [t2]; split <;> rfl
    refine ⟨⟨?_, ?_, ?_⟩, fun h => absurd h4 h, fun h => ?_⟩
    · rw [depth_eq, hin]; simp [depths]
    · rw [size_eq, hin]; simp [sizes]
    · rw [← textOK_may t1]; exact ht
    · rw [past_eq, hin] at h
      simp [pastBs, looksB, t1] at h
  · have hin : innerK e = e.kids := by unfold innerK; rw [if_neg h4]
    rw [may_eq, if_neg h4, Bool.and_eq_true, mayOKs_all, List.all_eq_true] at h3
    have hd := depths_mem hk
    have hs := sizes_mem hk
    have e1 := depth_eq e
    have e2 := size_eq e
    rw [hin] at e1 e2
    refine ⟨⟨by omega, by omega, h3.2 k hk⟩, fun _ => by omega, fun h => ?_⟩
    rw [past_eq, hin, pastBs_any]
    have : e.kids.any pastB = true := List.any_eq_true.2 ⟨k, hk, h⟩
    simp [this]

theorem run_AstParts (e : Ex) (hb0 : bulkL (exC e) ≤ 1048576) : R F_law07_AstParts [exA e] [] = some (.d (.bool true), []) := by
  refine R_of at_law07_AstParts (by decide) ?_
  have hb : exN e ≤ BIG := by unfold exN BIG; omega
  have h1 := run_Check e hb
  by_cases hc : astCheck e = 0
  · have hlen : e.kids.length ≤ BIG := by have := exNs_len e.kids; have := exN_eq e; omega
    have hd := run_Depth e hb
    have hp := run_Past e hb
    have hk : ∀ k ∈ e.kids, exN k ≤ BIG := fun k hk => by have := kid_lt hk; omega
    unfold BIG at hlen
    have hL := loop_fold (σ := Unit) (X := X) (mask := mask_law07_AstParts_0) (body := body_law07_AstParts_0) e.kids (fun i _ => ⟨mkE 58 [(1, .pv 10000 0), (3, .d (.int .i64 i))], [(10000, .var (exV e))]⟩) (fun _ _ => True)
      (fun _ _ _ => ()) (fun _ => (.exit 0, ⟨mkE 58 [(1, .pv 10000 0)], [(10000, .var (exV e))]⟩)) (by simp) (fun i a k hi hx _ => by
        have hm : k ∈ e.kids := hx ▸ List.getElem_mem hi
        obtain ⟨a1, a2, a3⟩ := kid_ok hc hm
        have c1 := run_Check k (hk k hm)
        have c2 := run_Depth k (hk k hm)
        have c3 := run_Past k (hk k hm)
        have hw := wrap_ok (a := (i : Int) + 1) (by omega) (by omega)
        by_cases h4 : e.kind = 4
        · cases hpk : pastB k with
          | false => simp -implicitDefEqProofs [body_law07_AstParts_0, mask_law07_AstParts_0, hi, hx, c1, c3, hp, a1, eq_true h4, hpk, hw]
          | true =>
            have := a3 hpk
            simp -implicitDefEqProofs [body_law07_AstParts_0, mask_law07_AstParts_0, hi, hx, c1, c3, hp, a1, eq_true h4, hpk, this, hw]
        · have a2' : ¬ depth e ≤ depth k := by have := a2 h4; omega
          cases hpk : pastB k with
          | false => simp -implicitDefEqProofs [body_law07_AstParts_0, mask_law07_AstParts_0, hi, hx, c1, c2, c3, hd, hp, a1, h4, a2', hpk, hw]
          | true =>
            have := a3 hpk
            simp -implicitDefEqProofs [body_law07_AstParts_0, mask_law07_AstParts_0, hi, hx, c1, c2, c3, hd, hp, a1, h4, a2', hpk, this, hw]) (fun a _ => by simp -implicitDefEqProofs [body_law07_AstParts_0]) () trivial
    have h3 := (check_ok.1 hc).2.2
    rw [may_eq] at h3
    simp -implicitDefEqProofs [code_law07_AstParts, run_alive07, h1, hc]
    rw [hL _ (by simp [mask_law07_AstParts_0])]
    by_cases h4 : e.kind = 4
    · simp -implicitDefEqProofs [run_Kids, eq_true h4]
    · rw [if_neg h4] at h3
      simp at h3
      simp -implicitDefEqProofs [run_Kids, h4, h3.1.1]
  · simp -implicitDefEqProofs [code_law07_AstParts, run_alive07, h1, hc]
end Bz.S
