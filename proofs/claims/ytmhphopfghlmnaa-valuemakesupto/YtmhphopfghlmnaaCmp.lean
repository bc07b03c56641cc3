/- How values stand to each other: cmp, slices.Compare, value.Cmp, value.Same, walked. -/
import Derived.Test.YtmhphopfghlmnaaVal
import Derived.Test.YtmhphopfghlmnaaTypM
set_option linter.unusedSimpArgs false
set_option linter.unusedVariables false
namespace Bz.S
open Go Bz
set_option maxRecDepth 10000
set_option maxHeartbeats 4000000

def cmpI (a b : Int) : Int := if a < b then -1 else if b < a then 1 else 0
def cmpS (a b : Txt) : Int := if Op.bytesLess a b = true then -1 else if Op.bytesLess b a = true then 1 else 0
theorem bl_irr (a : Txt) : Op.bytesLess a a = false := by
  have := bl_leq a a
  cases h : Op.bytesLess a a with
  | false => rfl
  | true => rw [h] at this; simp at this
theorem bl_eq {a b : Txt} (h1 : Op.bytesLess a b = false) (h2 : Op.bytesLess b a = false) : a = b := by
  have := bl_leq a b
  rw [h1, h2] at this
  simpa using this
theorem cmpS_zero {a b : Txt} : cmpS a b = 0 ↔ a = b := by
  unfold cmpS
  constructor
  · intro h
    cases h1 : Op.bytesLess a b with
    | true => rw [h1] at h; simp at h
    | false =>
      cases h2 : Op.bytesLess b a with
      | true => rw [h1, h2] at h; simp at h
      | false => exact bl_eq h1 h2
  · rintro rfl
    simp [bl_irr]
theorem cmpI_zero {a b : Int} : cmpI a b = 0 ↔ a = b := by
  unfold cmpI
  split
  · simp; omega
  · split
    · simp; omega
    · simp; omega

theorem run_isNaNi (a : Int) : R F_cmp_isNaN_int [.d (.int .i64 a)] [] = some (.d (.bool false), []) := by
  refine R_of at_cmp_isNaN_int (by decide) ?_
  simp -implicitDefEqProofs [code_cmp_isNaN_int]
theorem run_isNaNj (a : Int) : R F_cmp_isNaN_int64 [.d (.int .i64 a)] [] = some (.d (.bool false), []) := by
  refine R_of at_cmp_isNaN_int64 (by decide) ?_
  simp -implicitDefEqProofs [code_cmp_isNaN_int64]
theorem run_isNaNs (a : Txt) : R F_cmp_isNaN_string [.d (.str a)] [] = some (.d (.bool false), []) := by
  refine R_of at_cmp_isNaN_string (by decide) ?_
  simp -implicitDefEqProofs [code_cmp_isNaN_string]
theorem run_cmpInt (a b : Int) : R F_cmp_Compare_int [.d (.int .i64 a), .d (.int .i64 b)] [] = some (.d (.int .i64 (cmpI a b)), []) := by
  refine R_of at_cmp_Compare_int (by decide) ?_
  unfold cmpI
  by_cases h1 : a < b
  · simp -implicitDefEqProofs [code_cmp_Compare_int, run_isNaNi, h1]
  · by_cases h2 : b < a
    · simp -implicitDefEqProofs [code_cmp_Compare_int, run_isNaNi, h1, h2]
    · simp -implicitDefEqProofs [code_cmp_Compare_int, run_isNaNi, h1, h2]
theorem run_cmpInt64 (a b : Int) : R F_cmp_Compare_int64 [.d (.int .i64 a), .d (.int .i64 b)] [] = some (.d (.int .i64 (cmpI a b)), []) := by
  refine R_of at_cmp_Compare_int64 (by decide) ?_
  unfold cmpI
  by_cases h1 : a < b
  · simp -implicitDefEqProofs [code_cmp_Compare_int64, run_isNaNj, h1]
  · by_cases h2 : b < a
    · simp -implicitDefEqProofs [code_cmp_Compare_int64, run_isNaNj, h1, h2]
    · simp -implicitDefEqProofs [code_cmp_Compare_int64, run_isNaNj, h1, h2]
theorem run_cmpStr (a b : Txt) : R F_cmp_Compare_string [.d (.str a), .d (.str b)] [] = some (.d (.int .i64 (cmpS a b)), []) := by
  refine R_of at_cmp_Compare_string (by decide) ?_
  have hl := bl_leq a b
  unfold cmpS
  cases h1 : Op.bytesLess a b with
  | true => simp -implicitDefEqProofs [code_cmp_Compare_string, run_isNaNs, h1]
  | false =>
    rw [h1, Bool.false_or] at hl
    cases h2 : Op.bytesLess b a with
    | true =>
      rw [h2] at hl
      have hne : ¬ a = b := by intro h; subst h; simp at hl
      simp -implicitDefEqProofs [code_cmp_Compare_string, run_isNaNs, h1, hne]
    | false =>
      rw [h2] at hl
      have he : a = b := by simpa using hl
      subst he
      simp -implicitDefEqProofs [code_cmp_Compare_string, run_isNaNs, h1]

/-- the first that is not nothing -/
def orE (l : List Int) : Int := (l.find? fun x => decide (¬ x = 0)).getD 0
theorem run_Or (l : List Int) (hl : l.length ≤ BIG) : R F_cmp_Or_int [i6S l] [] = some (.d (.int .i64 (orE l)), []) := by
  refine R_of at_cmp_Or_int (by decide) ?_
  unfold BIG at hl
  have hL := loop_list (X := X) (mask := mask_cmp_Or_int_0) (body := body_cmp_Or_int_0) l
    (fun i (_ : Unit) => ⟨mkE 18 [(3, .d (.int .i64 0)), (6, i6S l), (7, .d (.int .i64 l.length)), (8, .d (.int .i64 i))], []⟩) (fun _ _ => True)
    (fun _ _ x => if x = 0 then Sum.inl () else Sum.inr x) (fun _ => (.exit 0, ⟨mkE 18 [(3, .d (.int .i64 0))], []⟩)) (fun x => (.ret, ⟨mkE 18 [(2, .d (.int .i64 x))], []⟩)) (by simp) (by simp)
    (fun i a x hi hx _ => by
      have hw := wrap_ok (a := (i : Int) + 1) (by omega) (by omega)
      by_cases hz : x = 0
      · subst hz
        simp only [if_true, Round_inl]
        refine ⟨trivial, ?_⟩
        simp -implicitDefEqProofs [body_cmp_Or_int_0, mask_cmp_Or_int_0, hi, hx, hw]
      · simp only [if_neg hz, Round_inr]
        simp -implicitDefEqProofs [body_cmp_Or_int_0, mask_cmp_Or_int_0, hi, hx, hz]) (fun a _ => by simp -implicitDefEqProofs [body_cmp_Or_int_0]) () trivial
  have hf : ∀ (l : List Int) (i : Nat), foldS (fun _ (_ : Unit) (x : Int) => if x = 0 then Sum.inl () else Sum.inr x) l i () = match l.find? fun x => decide (¬ x = 0) with | none => .inl () | some x => .inr x := by
    intro l
    induction l with
    | nil => intro i; rfl
    | cons x r ih =>
      intro i
      rw [foldS_cons]
      by_cases hz : x = 0
      · simp only [hz, if_true, List.find?_cons]
        simp only [not_true_eq_false, decide_false]
        exact ih (i + 1)
      · simp [hz]
  rw [hf] at hL
  unfold orE
  generalize (l.find? fun x => decide (¬ x = 0)) = o at *
  simp -implicitDefEqProofs [code_cmp_Or_int]
  rw [hL _ (by simp -implicitDefEqProofs [mask_cmp_Or_int_0])]
  cases o <;> simp -implicitDefEqProofs

/-! ### lists -/
def cmpL : List Txt → List Txt → Int
  | [], [] => 0
  | [], _ :: _ => -1
  | _ :: _, [] => 1
  | a :: r, b :: s => if cmpS a b = 0 then cmpL r s else cmpS a b
theorem cmpL_zero : ∀ {a b : List Txt}, cmpL a b = 0 ↔ a = b
  | [], [] => by simp [cmpL]
  | [], _ :: _ => by simp [cmpL]
  | _ :: _, [] => by simp [cmpL]
  | a :: r, b :: s => by
    simp only [cmpL]
    split
    · rename_i h
      rw [cmpL_zero, cmpS_zero.1 h]
      simp
    · rename_i h
      simp only [h, false_iff]
      intro e
      simp only [List.cons.injEq] at e
      exact h (cmpS_zero.2 e.1)
def cmpF (m : List Txt) : Nat → Unit → Txt → Unit ⊕ Int := fun i _ a => match m[i]? with | none => .inr 1 | some b => if cmpS a b = 0 then .inl () else .inr (cmpS a b)
theorem cmpF_fold (m : List Txt) : ∀ (l : List Txt) (i : Nat), i ≤ m.length → cmpL l (m.drop i) = match foldS (cmpF m) l i () with | .inl _ => (if l.length < (m.drop i).length then -1 else 0) | .inr c => c
  | [], i, hi => by
    cases hd : m.drop i with
    | nil => simp [cmpL]
    | cons b s => simp [cmpL]
  | a :: r, i, hi => by
    rw [foldS_cons]
    unfold cmpF
    by_cases h : i < m.length
    · rw [List.getElem?_eq_getElem h, List.drop_eq_getElem_cons h]
      simp only [cmpL]
      by_cases hz : cmpS a m[i] = 0
      · simp only [hz, if_true]
        have := cmpF_fold m r (i + 1) (by omega)
        rw [this]
        simp only [List.length_cons, Nat.add_lt_add_iff_right]
        rfl
      · simp only [hz, if_false]
    · have hd : m.drop i = [] := List.drop_eq_nil_of_le (by omega)
      rw [List.getElem?_eq_none (by omega), hd]
      simp [cmpL]
theorem run_CompareL (l m : List Txt) (hl : l.length ≤ BIG) (hm : m.length ≤ BIG) : R F_slices_Compare_string_string [txS l, txS m] [] = some (.d (.int .i64 (cmpL l m)), []) := by
  refine R_of at_slices_Compare_string_string (by decide) ?_
  unfold BIG at hl hm
  have hL := loop_list (X := X) (mask := mask_slices_Compare_string_string_0) (body := body_slices_Compare_string_string_0) l
    (fun i (_ : Unit) => ⟨mkE 36 [(0, txS l), (1, txS m), (9, txS l), (10, .d (.int .i64 l.length)), (11, .d (.int .i64 i))], []⟩) (fun _ _ => True) (cmpF m)
    (fun _ => (.exit 0, ⟨mkE 36 [(0, txS l), (1, txS m)], []⟩)) (fun c => (.ret, ⟨mkE 36 [(4, .d (.int .i64 c))], []⟩)) (by simp) (by simp)
    (fun i a x hi hx _ => by
      have hw := wrap_ok (a := (i : Int) + 1) (by omega) (by omega)
      unfold cmpF
      by_cases h : i < m.length
      · have h1 : ¬ m.length ≤ i := by omega
        have hc := run_cmpStr x m[i]
        rw [List.getElem?_eq_getElem h]
        simp only
        by_cases hz : cmpS x m[i] = 0
        · rw [hz] at hc
          simp only [hz, if_true, Round_inl]
          refine ⟨trivial, ?_⟩
          simp -implicitDefEqProofs [body_slices_Compare_string_string_0, mask_slices_Compare_string_string_0, hi, hx, h, h1, hc, hw]
        · simp only [if_neg hz, Round_inr]
          simp -implicitDefEqProofs [body_slices_Compare_string_string_0, mask_slices_Compare_string_string_0, hi, hx, h, h1, hc, hz]
      · have h1 : m.length ≤ i := by omega
        rw [List.getElem?_eq_none h1]
        simp only [Round_inr]
        simp -implicitDefEqProofs [body_slices_Compare_string_string_0, mask_slices_Compare_string_string_0, hi, hx, h1]) (fun a _ => by simp -implicitDefEqProofs [body_slices_Compare_string_string_0]) () trivial
  have hf := cmpF_fold m l 0 (Nat.zero_le _)
  rw [List.drop_zero] at hf
  rw [hf]
  simp -implicitDefEqProofs [code_slices_Compare_string_string]
  rw [hL _ (by simp -implicitDefEqProofs [mask_slices_Compare_string_string_0])]
  cases foldS (cmpF m) l 0 () with
  | inl u => simp -implicitDefEqProofs
  | inr c => simp -implicitDefEqProofs

def cmpV (a b : Va) : Int := orE [cmpI a.kind b.kind, cmpI a.n b.n, cmpS a.s b.s, cmpL a.l b.l]
theorem orE_cons (a : Int) (l : List Int) : orE (a :: l) = if a = 0 then orE l else a := by
  unfold orE
  rw [List.find?_cons]
  by_cases h : a = 0 <;> simp [h]
theorem orE_nil : orE [] = 0 := rfl
theorem cmpV_zero {a b : Va} : cmpV a b = 0 ↔ a = b := by
  obtain ⟨k, n, s, l⟩ := a
  obtain ⟨k', n', s', l'⟩ := b
  simp only [cmpV, orE_cons, orE_nil, Va.mk.injEq]
  rw [← cmpI_zero (a := k), ← cmpI_zero (a := n), ← cmpS_zero (a := s), ← cmpL_zero (a := l)]
  grind
theorem run_Cmp (a b : Va) (ha : a.l.length ≤ BIG) (hb : b.l.length ≤ BIG) : R F_value_Cmp [vaA a, vaA b] [] = some (.d (.int .i64 (cmpV a b)), []) := by
  refine R_of at_value_Cmp (by decide) ?_
  have h1 := run_cmpInt a.kind b.kind
  have h2 := run_cmpInt64 a.n b.n
  have h3 := run_cmpStr a.s b.s
  have h4 := run_CompareL a.l b.l ha hb
  have h5 := run_Or [cmpI a.kind b.kind, cmpI a.n b.n, cmpS a.s b.s, cmpL a.l b.l] (by simp [BIG])
  simp -implicitDefEqProofs [i6S] at h5
  unfold cmpV
  simp -implicitDefEqProofs [code_value_Cmp, h1, h2, h3, h4, h5]
theorem run_Same (a b : Va) (ha : a.l.length ≤ BIG) (hb : b.l.length ≤ BIG) : R F_value_Same [vaA a, vaA b] [] = some (.d (.bool (decide (a = b))), []) := by
  refine R_of at_value_Same (by decide) ?_
  have h := run_Cmp a b ha hb
  have hz : decide (cmpV a b = 0) = decide (a = b) := decide_eq_decide.2 cmpV_zero
  simp -implicitDefEqProofs [code_value_Same, h, hz]
end Bz.S
