/- Who lets whom: the chain from the root on, walked. -/
import Derived.Test.YtmnnjkdfanghdaaDel5
set_option linter.unusedSimpArgs false
set_option linter.unusedVariables false
namespace Bz.S
open Go Bz
set_option maxRecDepth 10000
set_option maxHeartbeats 4000000

theorem run_Rev (l : List Txt) (hl : l.length ≤ BIG) : R F_slices_Reverse_string_string [.os 0 l.length 0 l.length] [(0, .arr 1 (l.map stC))] = some (.tup [], [(0, .arr 1 (l.reverse.map stC))]) := by
  refine R_of at_slices_Reverse_string_string (by decide) ?_
  unfold BIG at hl
  obtain ⟨r, rfl, hL⟩ := loop_upto (X := X) (mask := mask_slices_Reverse_string_string_0) (body := body_slices_Reverse_string_string_0) (σ := List Txt) (l.length / 2)
    (fun k a => ⟨mkE 28 [(0, .os 0 l.length 0 l.length), (2, .d (.int .i64 k)), (3, .d (.int .i64 ((l.length : Int) - 1 - k)))], [(0, .arr 1 (a.map stC))]⟩)
    (fun k a => a.length = l.length ∧ ∀ i, i < l.length → a[i]? = if i < k ∨ l.length - k ≤ i then l[l.length - 1 - i]? else l[i]?)
    (fun r => r = (.exit 0, ⟨mkE 28 [], [(0, .arr 1 (l.reverse.map stC))]⟩))
    (fun k a hk hI => by
      obtain ⟨hI1, hI2⟩ := hI
      have hj : k < l.length - 1 - k := by omega
      have e1 : (l.length : Int) - 1 - k = ((l.length - 1 - k : Nat) : Int) := by omega
      have e2 : (l.length : Int) - 1 - ((k + 1 : Nat) : Int) = ((l.length - 1 - k : Nat) : Int) - 1 := by omega
      have w1 := wrap_ok (a := (k : Int) + 1) (by omega) (by omega)
      have w2 := wrap_ok (a := ((l.length - 1 - k : Nat) : Int) - 1) (by omega) (by omega)
      generalize hjj : l.length - 1 - k = j at *
      have hjl : j < l.length := by omega
      have hkl : k < l.length := by omega
      have hja : j < a.length := by omega
      have hka : k < a.length := by omega
      have hlt : (k : Int) < j := by omega
      refine .inl ⟨(a.set k a[j]).set j a[k], ⟨by simpa using hI1, fun i hi => ?_⟩, ?_⟩
      · by_cases h1 : i = j
        · subst h1
          rw [List.getElem?_set_self (by simpa using hja)]
          have hv := hI2 k hkl
          rw [List.getElem?_eq_getElem hka] at hv
          rw [hv, if_neg (by omega), if_pos (by omega)]
          rw [show l.length - 1 - i = k by omega]
        · rw [List.getElem?_set_ne (fun e => h1 e.symm)]
          by_cases h2 : i = k
          · subst h2
            rw [List.getElem?_set_self hka]
            have hv := hI2 j hjl
            rw [List.getElem?_eq_getElem hja] at hv
            rw [hv, if_neg (by omega), if_pos (by omega), hjj]
          · rw [List.getElem?_set_ne (fun e => h2 e.symm), hI2 i hi]
            by_cases h3 : i < k ∨ l.length - k ≤ i
            · rw [if_pos h3, if_pos (by omega)]
            · rw [if_neg h3, if_neg (by omega)]
      · simp only [e1, e2]
        have hkj : k ≠ j := by omega
        simp -implicitDefEqProofs [body_slices_Reverse_string_string_0, mask_slices_Reverse_string_string_0, hlt, hkl, hjl, hka, hja, hI1, w1, w2, List.getElem_set, hkj, List.map_set])
    (fun a hI => by
      obtain ⟨hI1, hI2⟩ := hI
      refine ⟨_, ?_, ?_, rfl⟩
      · have hn : ¬ ((l.length / 2 : Nat) : Int) < (l.length : Int) - 1 - ((l.length / 2 : Nat) : Int) := by omega
        have he : a = l.reverse := by
          apply List.ext_getElem? 
          intro i
          by_cases hi : i < l.length
          · rw [hI2 i hi, List.getElem?_reverse hi]
            by_cases h : i < l.length / 2 ∨ l.length - l.length / 2 ≤ i
            · rw [if_pos h]
            · rw [if_neg h, show l.length - 1 - i = i by omega]
          · rw [List.getElem?_eq_none (by omega), List.getElem?_eq_none (by simp; omega)]
        subst he
        generalize (l.length / 2 : Nat) = q at *
        simp -implicitDefEqProofs [body_slices_Reverse_string_string_0, hn]
      · simp) l ⟨rfl, fun i hi => by rw [if_neg (by omega)]⟩
  have w0 := wrap_ok (a := (l.length : Int) - 1) (by omega) (by omega)
  simp -implicitDefEqProofs [code_slices_Reverse_string_string, w0]
  rw [hL _ (by simp -implicitDefEqProofs [mask_slices_Reverse_string_string_0])]
  simp -implicitDefEqProofs

/-- whom one has it from: the first grant as far as one may -/
def isNx (F : Txt → Int) (at_ : Int) (x : Txt) (g : Gr) : Bool := decide (g.t = x ∧ byF F at_ g = F x)
abbrev cH (x : Txt) (K : List Nk) (at_ : Int) : Heap := [(0, .var [.d (.str x)]), (1, .var [.map 2]), (2, .mp false [.str] (K.map nkA)), (3, .var [.d (.int .i64 at_)])]

theorem run_of' (K : List Nk) (w : Txt) : R F_delegate_reach_of [.map 0, stA w] (mH K) = some (.d (.int .i64 (ofK K w)), mH K) := R1_R (r1_of K w)
theorem run_Chain1 (K : List Nk) (g : Gr) (x : Txt) (at_ : Int) (hK : ∀ x, -1 ≤ ofK K x ∧ ofK K x ≤ 12) : R F_delegate_Chain_1 [grA g, .pv 0 0, .pv 1 0, .pv 3 0] (cH x K at_) = some (.d (.bool (isNx (ofK K) at_ x g)), cH x K at_) := by
  refine R_of at_delegate_Chain_1 (by decide) ?_
  have h1 := R1_R (r1_by K g at_ hK)
  have h2 := run_of' K x
  unfold isNx
  generalize byF (ofK K) at_ g = v at *
  generalize ofK K x = u at *
  obtain ⟨f, t, d, a, w⟩ := g
  by_cases ht : t = x
  · subst ht
    simp -implicitDefEqProofs [code_delegate_Chain_1, h1, h2]
  · simp -implicitDefEqProofs [code_delegate_Chain_1, ht]
theorem run_IdxG (K : List Nk) (l : List Gr) (x : Txt) (at_ : Int) (hK : ∀ x, -1 ≤ ofK K x ∧ ofK K x ≤ 12) (hl : l.length ≤ BIG) :
    R F_slices_IndexFunc_delegate_Grant_delegate_Grant [grS l, .fn F_delegate_Chain_1 [.pv 0 0, .pv 1 0, .pv 3 0]] (cH x K at_) = some (.d (.int .i64 (idxK (isNx (ofK K) at_ x) l)), cH x K at_) := by
  refine R_of at_slices_IndexFunc_delegate_Grant_delegate_Grant (by decide) ?_
  unfold BIG at hl
  have hc := fun g => run_Chain1 K g x at_ hK
  have hL := loop_find (X := X) (mask := mask_slices_IndexFunc_delegate_Grant_delegate_Grant_0) (body := body_slices_IndexFunc_delegate_Grant_delegate_Grant_0) l
    (fun i => ⟨mkE 19 [(0, grS l), (1, .fn F_delegate_Chain_1 [.pv 0 0, .pv 1 0, .pv 3 0]), (7, .d (.int .i64 l.length)), (8, .d (.int .i64 i))], cH x K at_⟩)
    (fun _ g => isNx (ofK K) at_ x g) (.exit 0, ⟨mkE 19 [], cH x K at_⟩) (fun i _ => (.ret, ⟨mkE 19 [(4, .d (.int .i64 i))], cH x K at_⟩)) (by simp) (by simp)
    (fun i g hi hg hq => by
      have hw := wrap_ok (a := (i : Int) + 1) (by omega) (by omega)
      have hcg := hc g
      rw [hq] at hcg
      obtain ⟨f, t, d, a, w⟩ := g
      simp -implicitDefEqProofs [body_slices_IndexFunc_delegate_Grant_delegate_Grant_0, mask_slices_IndexFunc_delegate_Grant_delegate_Grant_0, hi, hg, hw, hcg])
    (fun i g hi hg hq => by
      have hcg := hc g
      rw [hq] at hcg
      obtain ⟨f, t, d, a, w⟩ := g
      simp -implicitDefEqProofs [body_slices_IndexFunc_delegate_Grant_delegate_Grant_0, hi, hg, hcg])
    (by simp -implicitDefEqProofs [body_slices_IndexFunc_delegate_Grant_delegate_Grant_0])
  simp -implicitDefEqProofs [code_slices_IndexFunc_delegate_Grant_delegate_Grant]
  rw [hL _ (by simp -implicitDefEqProofs [mask_slices_IndexFunc_delegate_Grant_delegate_Grant_0])]
  unfold idxK
  cases findI (fun _ g => isNx (ofK K) at_ x g) l 0 <;> simp -implicitDefEqProofs
end Bz.S
