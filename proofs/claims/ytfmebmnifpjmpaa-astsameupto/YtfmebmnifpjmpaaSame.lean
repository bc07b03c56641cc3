/- Expressions alike, cloned, spoilt. -/
import Derived.Test.YtfmebmnifpjmpaaAst
import Derived.Test.YtfmebmnifpjmpaaBz2
set_option linter.unusedSimpArgs false
set_option linter.unusedVariables false
namespace Bz.S
open Go Bz
set_option maxRecDepth 10000
set_option maxHeartbeats 4000000

mutual
def eqE : Ex → Ex → Bool
  | .mk k s n l h ks, .mk k' s' n' l' h' ks' => decide (k = k') && decide (s = s') && decide (n = n') && decide (l = l') && decide (h = h') && eqEs ks ks'
def eqEs : List Ex → List Ex → Bool
  | [], [] => true
  | a :: r, b :: t => eqE a b && eqEs r t
  | _, _ => false
end

theorem eqE_eq (a b : Ex) : eqE a b = (decide (a.kind = b.kind) && decide (a.name = b.name) && decide (a.n = b.n) && decide (a.lo = b.lo) && decide (a.hi = b.hi) && eqEs a.kids b.kids) := by
  cases a; cases b; rfl
mutual
theorem eqE_self : ∀ a : Ex, eqE a a = true
  | .mk k s n l h ks => by simp [eqE, eqEs_self ks]
theorem eqEs_self : ∀ a : List Ex, eqEs a a = true
  | [] => rfl
  | a :: r => by simp [eqEs, eqE_self a, eqEs_self r]
end

theorem eqEs_len : ∀ {a b : List Ex}, eqEs a b = true → a.length = b.length
  | [], [], _ => rfl
  | a :: r, b :: t, h => by
    simp only [eqEs, Bool.and_eq_true] at h
    simp [eqEs_len h.2]
  | [], _ :: _, h => by simp [eqEs] at h
  | _ :: _, [], h => by simp [eqEs] at h
/-- alike at a place -/
def eqAt (b : List Ex) (i : Nat) (x : Ex) : Bool := match b[i]? with
  | some y => eqE x y
  | none => false
theorem eqEs_find (b : List Ex) : ∀ (r : List Ex) (i : Nat), r.length = (b.drop i).length → (findI (fun i x => !eqAt b i x) r i).isNone = eqEs r (b.drop i)
  | [], i, h => by
    have : b.drop i = [] := List.length_eq_zero_iff.1 h.symm
    rw [this]; rfl
  | x :: r, i, h => by
    cases hd : b.drop i with
    | nil => rw [hd] at h; simp at h
    | cons y t =>
      have hy : b[i]? = some y := by rw [← List.head?_drop, hd]; rfl
      have ht : b.drop (i + 1) = t := by rw [← List.tail_drop, hd]; rfl
      have ih := eqEs_find b r (i + 1) (by rw [ht]; rw [hd] at h; simpa using h)
      simp only [findI, eqAt, hy, eqEs]
      cases he : eqE x y with
      | true => simp only [Bool.not_true, Bool.false_eq_true, if_false, Bool.true_and]; rw [← ht]; exact ih
      | false => simp

theorem run_EqualEx (a b : List Ex) (ha : a.length ≤ BIG) (hb : b.length ≤ BIG) (IH : ∀ x ∈ a, ∀ y ∈ b, R F_ast_Same [exA x, exA y] [] = some (.d (.bool (eqE x y)), [])) :
    R F_slices_EqualFunc_api_Expr_api_Expr_api_Expr_api_Expr [exS a, exS b, .fn F_ast_Same []] [] = some (.d (.bool (eqEs a b)), []) := by
  refine R_of at_slices_EqualFunc_api_Expr_api_Expr_api_Expr_api_Expr (by decide) ?_
  unfold BIG at ha hb
  by_cases hl : a.length = b.length
  · have hli : (a.length : Int) = b.length := by omega
    have hL := loop_find (X := X) (mask := mask_slices_EqualFunc_api_Expr_api_Expr_api_Expr_api_Expr_0) (body := body_slices_EqualFunc_api_Expr_api_Expr_api_Expr_api_Expr_0) a
      (fun i => ⟨mkE 32 [(1, exS b), (2, .fn F_ast_Same []), (15, exS a), (16, .d (.int .i64 a.length)), (17, .d (.int .i64 i))], []⟩)
      (fun i x => !eqAt b i x) (.exit 0, ⟨mkE 32 [], []⟩) (fun i _ => (.ret, ⟨mkE 32 [(6, .d (.bool false))], []⟩)) (by simp) (by simp)
      (fun i e hi he hq => by
        have hj : i < b.length := by omega
        have hw := wrap_ok (a := (i : Int) + 1) (by omega) (by omega)
        have hs := IH e (he ▸ List.getElem_mem hi) b[i] (List.getElem_mem hj)
        simp only [eqAt, List.getElem?_eq_getElem hj, Bool.not_eq_false'] at hq
        rw [hq] at hs
        simp -implicitDefEqProofs [body_slices_EqualFunc_api_Expr_api_Expr_api_Expr_api_Expr_0, mask_slices_EqualFunc_api_Expr_api_Expr_api_Expr_api_Expr_0, hi, he, hj, hw, hs])
      (fun i e hi he hq => by
        have hj : i < b.length := by omega
        have hs := IH e (he ▸ List.getElem_mem hi) b[i] (List.getElem_mem hj)
        simp only [eqAt, List.getElem?_eq_getElem hj, Bool.not_eq_true'] at hq
        rw [hq] at hs
        simp -implicitDefEqProofs [body_slices_EqualFunc_api_Expr_api_Expr_api_Expr_api_Expr_0, mask_slices_EqualFunc_api_Expr_api_Expr_api_Expr_api_Expr_0, hi, he, hj, hs])
      (by simp -implicitDefEqProofs [body_slices_EqualFunc_api_Expr_api_Expr_api_Expr_api_Expr_0])
    have hf := eqEs_find b a 0 (by simpa using hl)
    rw [List.drop_zero] at hf
    simp -implicitDefEqProofs [code_slices_EqualFunc_api_Expr_api_Expr_api_Expr_api_Expr, hli]
    rw [hL _ (by simp -implicitDefEqProofs [mask_slices_EqualFunc_api_Expr_api_Expr_api_Expr_api_Expr_0, hli])]
    cases hF : findI (fun i x => !eqAt b i x) a 0 with
    | none => rw [hF] at hf; simp -implicitDefEqProofs [← hf]
    | some q => rw [hF] at hf; simp -implicitDefEqProofs [← hf]
  · have hli : ¬ (a.length : Int) = b.length := by omega
    have : eqEs a b = false := by
      cases h : eqEs a b with
      | false => rfl
      | true => exact absurd (eqEs_len h) hl
    simp -implicitDefEqProofs [code_slices_EqualFunc_api_Expr_api_Expr_api_Expr_api_Expr, hli, this]

theorem run_Same : ∀ (a : Ex), exN a ≤ BIG → ∀ b : Ex, exN b ≤ BIG → R F_ast_Same [exA a, exA b] [] = some (.d (.bool (eqE a b)), []) := by
  refine exIndB fun a ha IH b hb => ?_
  refine R_of at_ast_Same (by decide) ?_
  have hal : a.kids.length ≤ BIG := by have := exNs_len a.kids; have := exN_eq a; omega
  have hbl : b.kids.length ≤ BIG := by have := exNs_len b.kids; have := exN_eq b; omega
  have hk : ∀ y ∈ b.kids, exN y ≤ BIG := fun y hy => by have := exNs_mem hy; have := exN_eq b; omega
  have hE := run_EqualEx a.kids b.kids hal hbl fun x hx y hy => IH x hx y (hk y hy)
  rw [eqE_eq]
  simp -implicitDefEqProofs [code_ast_Same, hE]
  grind
end Bz.S
