/- The laws of chapter 02, walked. -/
import Derived.Test.YtmhphopfghlmnaaSet
import Derived.Test.YtmhphopfghlmnaaCmp
import Derived.Test.YtmhphopfghlmnaaPlV
import Derived.Test.YtmhphopfghlmnaaTypV
import Derived.KernelRfl
set_option linter.unusedSimpArgs false
set_option linter.unusedVariables false
namespace Bz.S
open Go Bz
set_option maxRecDepth 10000
set_option maxHeartbeats 4000000

/-! ### plainly: an order -/
structure Ords {α : Type} (f : α → α → Int) : Prop where
  anti : ∀ a b, f b a = - f a b
  tra : ∀ a b c, f a b ≤ 0 → f b c ≤ 0 → f a c ≤ 0

theorem Ords.pull {α β : Type} {f : α → α → Int} (h : Ords f) (p : β → α) : Ords fun a b => f (p a) (p b) := ⟨fun a b => h.anti _ _, fun a b c => h.tra _ _ _⟩
theorem Ords.lex {α : Type} {f g : α → α → Int} (h : Ords f) (k : Ords g) : Ords fun a b => if f a b = 0 then g a b else f a b := by
  refine ⟨fun a b => ?_, fun a b c h1 h2 => ?_⟩
  · have := h.anti a b; have := k.anti a b; grind
  · have a1 := h.anti a b; have a2 := h.anti b c; have a3 := h.anti a c
    have t1 := h.tra a b c; have t2 := h.tra b c a; have t3 := h.tra c a b
    have t4 := k.tra a b c
    grind
theorem cmpI_ords : Ords cmpI := ⟨fun a b => by unfold cmpI; grind, fun a b c => by unfold cmpI; grind⟩
theorem cmpS_ords : Ords cmpS := by
  refine ⟨fun a b => ?_, fun a b c h1 h2 => ?_⟩
  · unfold cmpS
    cases h : Op.bytesLess a b <;> cases h' : Op.bytesLess b a <;> simp
    have := blt_tot.asym h
    rw [h'] at this; cases this
  · have ntr := blt_tot.ntra (x := c) (y := b) (z := a)
    unfold cmpS at *
    cases hab : Op.bytesLess a b <;> cases hba : Op.bytesLess b a <;> cases hbc : Op.bytesLess b c <;> cases hcb : Op.bytesLess c b <;> simp [hab, hba, hbc, hcb] at h1 h2 <;>
      cases hac : Op.bytesLess a c <;> cases hca : Op.bytesLess c a <;> simp
    all_goals (first
      | (have := blt_tot.tot _ _ hab hba; subst this; simp_all; done)
      | (have := blt_tot.tot _ _ hbc hcb; subst this; simp_all; done)
      | (have := blt_tot.tra _ _ _ hab hbc; rw [hac] at this; cases this))
theorem cmpL_ords : Ords cmpL := by
  have anti : ∀ a b, cmpL b a = - cmpL a b := by
    intro a
    induction a with
    | nil => intro b; cases b <;> simp [cmpL]
    | cons x r ih =>
      intro b
      cases b with
      | nil => simp [cmpL]
      | cons y s =>
        have h1 := cmpS_ords.anti x y
        have h2 := ih s
        simp only [cmpL]
        grind
  refine ⟨anti, ?_⟩
  intro a
  induction a with
  | nil => intro b c h1 h2; cases c <;> simp [cmpL]
  | cons x r ih =>
    intro b c h1 h2
    cases b with
    | nil => simp [cmpL] at h1
    | cons y s =>
      cases c with
      | nil => simp [cmpL] at h2
      | cons z t =>
        have a1 := cmpS_ords.anti x y; have a2 := cmpS_ords.anti y z; have a3 := cmpS_ords.anti x z
        have t1 := cmpS_ords.tra x y z; have t2 := cmpS_ords.tra y z x; have t3 := cmpS_ords.tra z x y
        have t4 := ih s t
        simp only [cmpL] at *
        grind
theorem cmpV_ords : Ords cmpV := by
  have h := (cmpI_ords.pull Va.kind).lex ((cmpI_ords.pull Va.n).lex ((cmpS_ords.pull Va.s).lex (cmpL_ords.pull Va.l)))
  have e : cmpV = fun a b => if cmpI a.kind b.kind = 0 then (if cmpI a.n b.n = 0 then (if cmpS a.s b.s = 0 then cmpL a.l b.l else cmpS a.s b.s) else cmpI a.n b.n) else cmpI a.kind b.kind := by
    funext a b
    unfold cmpV
    simp only [orE_cons, orE_nil]
    grind
  rw [e]; exact h

/-! ### the walks -/
theorem run_Int (n : Int) : R F_value_Int [.d (.int .i64 n)] [] = some (vaA ⟨1, n, [], []⟩, []) := by
  refine R_of at_value_Int (by decide) ?_
  simp -implicitDefEqProofs [code_value_Int]
theorem run_Bool (b : Bool) : R F_value_Bool [.d (.bool b)] [] = some (vaA ⟨2, if b then 1 else 0, [], []⟩, []) := by
  refine R_of at_value_Bool (by decide) ?_
  cases b <;> simp -implicitDefEqProofs [code_value_Bool]
theorem run_Text (s : Txt) : R F_value_Text [stA s] [] = some (vaA ⟨3, 0, s, []⟩, []) := by
  refine R_of at_value_Text (by decide) ?_
  simp -implicitDefEqProofs [code_value_Text]
def zeroK (k : Int) : Int := if k < 1 ∨ 4 < k then 0 else k
theorem run_Zero (k : Int) : R F_value_Zero [.d (.int .i64 k)] [] = some (vaA ⟨zeroK k, 0, [], []⟩, []) := by
  refine R_of at_value_Zero (by decide) ?_
  unfold zeroK
  by_cases h1 : k < 1 <;> by_cases h2 : 4 < k <;> simp -implicitDefEqProofs [code_value_Zero, h1, h2]
theorem run_02Int (n : Int) : R F_ref02_Int [.d (.int .i64 n)] [] = some (vaA ⟨1, n, [], []⟩, []) := by
  refine R_of at_ref02_Int (by decide) ?_
  simp -implicitDefEqProofs [code_ref02_Int]
theorem run_02Bool (b : Bool) : R F_ref02_Bool [.d (.bool b)] [] = some (vaA ⟨2, if b then 1 else 0, [], []⟩, []) := by
  refine R_of at_ref02_Bool (by decide) ?_
  cases b <;> simp -implicitDefEqProofs [code_ref02_Bool]
def sizeV (v : Va) : Int := if v.kind = 3 then v.s.length else if v.kind = 4 then v.l.length else 0
theorem run_Size (v : Va) (hs : v.s.length ≤ LIM) : R F_value_Size [vaA v] [] = some (.d (.int .i64 (sizeV v)), []) := by
  refine R_of at_value_Size (by decide) ?_
  unfold sizeV
  by_cases h1 : v.kind = 3
  · have e : (3 : Int) ≠ 4 := by decide
    simp -implicitDefEqProofs [code_value_Size, h1, hs]
  · by_cases h2 : v.kind = 4
    · simp -implicitDefEqProofs [code_value_Size, h2]
    · simp -implicitDefEqProofs [code_value_Size, h1, h2]
theorem run_02Size (v : Va) (hs : v.s.length ≤ LIM) : R F_ref02_Size [vaA v] [] = some (.d (.int .i64 (sizeV v)), []) := by
  refine R_of at_ref02_Size (by decide) ?_
  unfold sizeV
  by_cases h1 : v.kind = 3
  · simp -implicitDefEqProofs [code_ref02_Size, h1, hs]
  · by_cases h2 : v.kind = 4
    · simp -implicitDefEqProofs [code_ref02_Size, h2]
    · simp -implicitDefEqProofs [code_ref02_Size, h1, h2]

theorem run_02Has (v : Va) (s : Txt) (hl : v.l.length ≤ BIG) : R F_ref02_Has [vaA v, stA s] [] = some (.d (.bool (decide (s ∈ v.l))), []) := by
  refine R_of at_ref02_Has (by decide) ?_
  unfold BIG at hl
  obtain ⟨k, n, t, l⟩ := v
  simp only at hl
  have hL := loop_find (X := X) (mask := mask_ref02_Has_0) (body := body_ref02_Has_0) l
    (fun i => ⟨mkE 20 [(1, stA s), (2, .pv 10000 0), (5, .d (.int .i64 i))], [(10000, .var [.d (.int .i64 k), .d (.int .i64 n), .d (.str t), txS l])]⟩)
    (fun _ e => s == e) (.exit 0, ⟨mkE 20 [], []⟩) (fun _ _ => (.ret, ⟨mkE 20 [(4, .d (.bool true))], []⟩)) (by simp) (by simp)
    (fun i e hi he hq => by
      have hw := wrap_ok (a := (i : Int) + 1) (by omega) (by omega)
      have hq' : ¬ e = s := fun h => by simp [h] at hq
      simp -implicitDefEqProofs [body_ref02_Has_0, mask_ref02_Has_0, hi, he, hq', hw])
    (fun i e hi he hq => by
      have hq' : e = s := by have : s = e := by simpa using hq
                             exact this.symm
      simp -implicitDefEqProofs [body_ref02_Has_0, hi, he, hq']) (by simp -implicitDefEqProofs [body_ref02_Has_0])
  simp only
  rw [← any_mem, ← findI_any _ l 0]
  simp -implicitDefEqProofs [code_ref02_Has]
  rw [hL _ (by simp -implicitDefEqProofs [mask_ref02_Has_0])]
  cases findI (fun _ e => s == e) l 0 <;> simp -implicitDefEqProofs

theorem run_side (a b : Bool) : R F_ref02_side [.d (.bool a), .d (.bool b)] [] = some (.d (.int .i64 (if a then -1 else if b then 1 else 0)), []) := by
  refine R_of at_ref02_side (by decide) ?_
  cases a <;> cases b <;> simp -implicitDefEqProofs [code_ref02_side]

def refF (m : List Txt) : Nat → Unit → Txt → Unit ⊕ Option Int := fun i _ a => match m[i]? with | none => .inr none | some b => if a = b then .inl () else .inr (some (if Op.bytesLess a b then -1 else 1))
theorem refF_fold (m : List Txt) : ∀ (l : List Txt) (i : Nat), i ≤ m.length → cmpL l (m.drop i) = match foldS (refF m) l i () with
    | .inl _ => (if l.length < (m.drop i).length then -1 else if (m.drop i).length < l.length then 1 else 0)
    | .inr none => (if l.length < (m.drop i).length then -1 else if (m.drop i).length < l.length then 1 else 0)
    | .inr (some c) => c
  | [], i, hi => by
    cases hd : m.drop i with
    | nil => simp [cmpL]
    | cons b s => simp [cmpL]
  | a :: r, i, hi => by
    rw [foldS_cons]
    unfold refF
    by_cases h : i < m.length
    · rw [List.getElem?_eq_getElem h, List.drop_eq_getElem_cons h]
      simp only [cmpL]
      by_cases hz : a = m[i]
      · have hz0 : cmpS a m[i] = 0 := cmpS_zero.2 hz
        simp only [hz0, if_true, if_pos hz]
        have := refF_fold m r (i + 1) (by omega)
        rw [this]
        simp only [List.length_cons, Nat.add_lt_add_iff_right]
        rfl
      · have hz0 : ¬ cmpS a m[i] = 0 := fun e => hz (cmpS_zero.1 e)
        simp only [hz0, if_false, if_neg hz]
        unfold cmpS at hz0 ⊢
        grind
    · have hd : m.drop i = [] := List.drop_eq_nil_of_le (by omega)
      rw [List.getElem?_eq_none (by omega), hd]
      simp [cmpL]

theorem run_02Cmp (a b : Va) (ha : a.l.length ≤ BIG) (hb : b.l.length ≤ BIG) : R F_ref02_Cmp [vaA a, vaA b] [] = some (.d (.int .i64 (cmpV a b)), []) := by
  refine R_of at_ref02_Cmp (by decide) ?_
  unfold BIG at ha hb
  obtain ⟨k, n, s, l⟩ := a
  obtain ⟨k', n', s', m⟩ := b
  simp only at ha hb
  have hT := run_side true true
  have hF := run_side false true
  simp only [if_true, Bool.false_eq_true, if_false] at hT hF
  have side : ∀ p : Bool, R F_ref02_side [.d (.bool p), .d (.bool true)] [] = some (.d (.int .i64 (if p then -1 else 1)), []) := fun p => by
    rw [run_side]; simp
  unfold cmpV
  simp only [orE_cons, orE_nil]
  by_cases h1 : ¬ k = k'
  · have hc : ¬ cmpI k k' = 0 := fun e => h1 (cmpI_zero.1 e)
    rw [if_neg hc]
    unfold cmpI at hc ⊢
    by_cases h : k < k'
    · simp -implicitDefEqProofs [code_ref02_Cmp, h1, h, side]
    · have h' : k' < k := by omega
      simp -implicitDefEqProofs [code_ref02_Cmp, h1, h, h', side]
  replace h1 : k = k' := Classical.not_not.1 h1
  rw [if_pos (cmpI_zero.2 h1)]
  by_cases h2 : ¬ n = n'
  · have hc : ¬ cmpI n n' = 0 := fun e => h2 (cmpI_zero.1 e)
    rw [if_neg hc]
    unfold cmpI at hc ⊢
    by_cases h : n < n'
    · simp -implicitDefEqProofs [code_ref02_Cmp, h1, h2, h, side]
    · have h' : n' < n := by omega
      simp -implicitDefEqProofs [code_ref02_Cmp, h1, h2, h, h', side]
  replace h2 : n = n' := Classical.not_not.1 h2
  rw [if_pos (cmpI_zero.2 h2)]
  by_cases h3 : ¬ s = s'
  · have hc : ¬ cmpS s s' = 0 := fun e => h3 (cmpS_zero.1 e)
    rw [if_neg hc]
    unfold cmpS at hc ⊢
    cases h : Op.bytesLess s s' with
    | true => simp -implicitDefEqProofs [code_ref02_Cmp, h1, h2, h3, h, side]
    | false =>
      have h' : Op.bytesLess s' s = true := by
        cases q : Op.bytesLess s' s with
        | true => rfl
        | false => simp [h, q] at hc
      simp -implicitDefEqProofs [code_ref02_Cmp, h1, h2, h3, h, h', side]
  replace h3 : s = s' := Classical.not_not.1 h3
  rw [if_pos (cmpS_zero.2 h3)]
  subst h1; subst h2; subst h3
  have hL := loop_list (X := X) (mask := mask_ref02_Cmp_0) (body := body_ref02_Cmp_0) l
    (fun i (_ : Unit) => ⟨mkE 91 [(2, .pv 10000 0), (3, .pv 10010 0), (5, .d (.int .i64 i))], [(10000, .var [.d (.int .i64 k), .d (.int .i64 n), .d (.str s), txS l]), (10010, .var [.d (.int .i64 k), .d (.int .i64 n), .d (.str s), txS m])]⟩) (fun _ _ => True) (refF m)
    (fun _ => (.exit 0, ⟨mkE 91 [(2, .pv 10000 0), (3, .pv 10010 0)], [(10000, .var [.d (.int .i64 k), .d (.int .i64 n), .d (.str s), txS l]), (10010, .var [.d (.int .i64 k), .d (.int .i64 n), .d (.str s), txS m])]⟩))
    (fun c => match c with
      | none => (.exit 0, ⟨mkE 91 [(2, .pv 10000 0), (3, .pv 10010 0)], [(10000, .var [.d (.int .i64 k), .d (.int .i64 n), .d (.str s), txS l]), (10010, .var [.d (.int .i64 k), .d (.int .i64 n), .d (.str s), txS m])]⟩)
      | some c => (.ret, ⟨mkE 91 [(4, .d (.int .i64 c))], []⟩)) (by simp) (by intro b; cases b <;> simp)
    (fun i a x hi hx _ => by
      have hw := wrap_ok (a := (i : Int) + 1) (by omega) (by omega)
      unfold refF
      by_cases h : i < m.length
      · rw [List.getElem?_eq_getElem h]
        simp only
        by_cases hz : x = m[i]
        · simp only [if_pos hz, Round_inl]
          refine ⟨trivial, ?_⟩
          simp -implicitDefEqProofs [body_ref02_Cmp_0, mask_ref02_Cmp_0, hi, hx, h, hz, hw]
        · simp only [if_neg hz, Round_inr]
          simp -implicitDefEqProofs [body_ref02_Cmp_0, mask_ref02_Cmp_0, hi, hx, h, hz, side]
      · have h1 : m.length ≤ i := by omega
        rw [List.getElem?_eq_none h1]
        simp only [Round_inr]
        simp -implicitDefEqProofs [body_ref02_Cmp_0, mask_ref02_Cmp_0, hi, hx, h]) (fun a _ => by
          simp -implicitDefEqProofs [body_ref02_Cmp_0]) () trivial
  have hf := refF_fold m l 0 (Nat.zero_le _)
  rw [List.drop_zero] at hf
  have e0 : (if cmpL l m = 0 then (0 : Int) else cmpL l m) = cmpL l m := by
    by_cases h : cmpL l m = 0
    · rw [if_pos h, h]
    · rw [if_neg h]
  rw [e0, hf]
  simp -implicitDefEqProofs [code_ref02_Cmp]
  rw [hL _ (by simp -implicitDefEqProofs [mask_ref02_Cmp_0])]
  have hs := run_side (decide (l.length < m.length)) (decide (m.length < l.length))
  simp only [decide_eq_true_eq] at hs
  cases foldS (refF m) l 0 () with
  | inl u => simp -implicitDefEqProofs [hs]
  | inr c => cases c <;> simp -implicitDefEqProofs [hs]

theorem alive02 : R F_law02_alive [] [] = some (.d (.bool true), []) := RUN_run own retOwn ext code (k := 60) (by kernel_rfl)

theorem cmpL_rng : ∀ a b : List Txt, -1 ≤ cmpL a b ∧ cmpL a b ≤ 1
  | [], [] => by simp [cmpL]
  | [], _ :: _ => by simp [cmpL]
  | _ :: _, [] => by simp [cmpL]
  | x :: r, y :: s => by
    have h := cmpL_rng r s
    simp only [cmpL]
    split
    · exact h
    · unfold cmpS; grind
theorem cmpV_rng (a b : Va) : -1 ≤ cmpV a b ∧ cmpV a b ≤ 1 := by
  unfold cmpV
  have h := cmpL_rng a.l b.l
  simp only [orE_cons, orE_nil]
  unfold cmpI cmpS
  grind
theorem va_small {v : Va} (h : bulkL (vaC v) ≤ 1048576) : v.l.length ≤ BIG ∧ v.s.length ≤ LIM := by
  have := vaOK_bulk h
  exact ⟨this.l, this.s⟩

theorem run_ValueOrders (a b c : Va) (hb0 : bulkL (vaC a) + (bulkL (vaC b) + bulkL (vaC c)) ≤ 1048576) : R F_law02_ValueOrders [vaA a, vaA b, vaA c] [] = some (.d (.bool true), []) := by
  have ha := (va_small (v := a) (by omega)).1
  have hb := (va_small (v := b) (by omega)).1
  have hc := (va_small (v := c) (by omega)).1
  refine R_of at_law02_ValueOrders (by decide) ?_
  have h1 := run_Cmp a b ha hb
  have h2 := run_Cmp b c hb hc
  have h3 := run_Cmp a c ha hc
  have h4 := run_Cmp b a hb ha
  have h5 := run_Same a b ha hb
  have h6 := run_Cmp a a ha ha
  rw [cmpV_zero.2 rfl] at h6
  have e5 : decide (a = b) = decide (cmpV a b = 0) := decide_eq_decide.2 cmpV_zero.symm
  rw [e5] at h5
  rw [cmpV_ords.anti a b] at h4
  have t1 := cmpV_ords.tra a b c
  have t2 := cmpV_ords.tra c a b
  have t3 := cmpV_ords.tra b c a
  rw [cmpV_ords.anti a c] at t2 t3
  rw [cmpV_ords.anti b c] at t2
  rw [cmpV_ords.anti a b] at t3
  have r1 := cmpV_rng a b
  have hw := wrap_ok (a := - cmpV a b) (by omega) (by omega)
  generalize cmpV a b = x at *
  generalize cmpV b c = y at *
  generalize cmpV a c = z at *
  simp -implicitDefEqProofs [code_law02_ValueOrders, alive02, h1, h2, h3, h4, h5, h6, hw]
  grind

theorem run_ValueCompares (a b : Va) (s : Txt) (hb0 : bulkL (vaC a) + (bulkL (vaC b) + bulkL [.str s]) ≤ 1048576) : R F_law02_ValueCompares [vaA a, vaA b, .d (.str s)] [] = some (.d (.bool true), []) := by
  have ha := va_small (v := a) (by omega)
  have hb := va_small (v := b) (by omega)
  refine R_of at_law02_ValueCompares (by decide) ?_
  have h1 := run_Cmp a b ha.1 hb.1
  have h2 := run_02Cmp a b ha.1 hb.1
  have h3 := run_Same a b ha.1 hb.1
  have h4 := run_plValue a b ha.1 hb.1
  have h5 := run_Has a s ha.1
  have h6 := run_02Has a s ha.1
  have h7 := run_Size a ha.2
  have h8 := run_02Size a ha.2
  simp -implicitDefEqProofs [code_law02_ValueCompares, alive02, h1, h2, h3, h4, h5, h6, h7, h8]

theorem run_ValueSets (l : List Txt) (s : Txt) (hb0 : bulkL [.vs false (l.map stC)] + bulkL [.str s] ≤ 1048576) : R F_law02_ValueSets [txS l, .d (.str s)] [] = some (.d (.bool true), []) := by
  have hl : l.length ≤ 1048576 := by
    have := (st_bulk l).1
    simp only [bulkL, bulkD] at hb0
    omega
  have hl1 : l.length ≤ BIG := by unfold BIG; omega
  have hl2 : (l.reverse ++ l).length ≤ BIG := by unfold BIG; simp; omega
  refine R_of at_law02_ValueSets (by decide) ?_
  have h1 := run_Set l hl1
  have h2 := run_Set (l.reverse ++ l) hl2
  have e2 : setT (l.reverse ++ l) = setT l := setT_ext fun x => by simp
  rw [e2] at h2
  have hs := setT_len l
  have hs' : (setT l).length ≤ BIG := by unfold BIG; omega
  have h3 := run_Same ⟨4, 0, [], setT l⟩ ⟨4, 0, [], setT l⟩ hs' hs'
  have h4 := run_Has ⟨4, 0, [], setT l⟩ s hs'
  have h5 := run_plIn l s hl1
  have h6 := run_Size ⟨4, 0, [], setT l⟩ (by simp)
  have e4 : decide (s ∈ setT l) = decide (s ∈ l) := decide_eq_decide.2 setT_mem
  simp only at h4
  rw [e4] at h4
  simp only [sizeV] at h6
  have hL := loop_fold (X := X) (mask := mask_law02_ValueSets_0) (body := body_law02_ValueSets_0) l.reverse
    (fun i (b : List Txt) => ⟨mkE 60 [(0, txS l), (1, stA s), (5, .pv 40020 0), (6, .os 10000060 b.length 0 b.length), (7, .d (.int .i64 ((l.length : Int) - 1 - i)))], [(40020, .var [.d (.int .i64 4), .d (.int .i64 0), .d (.str []), txS (setT l)]), (10000060, .arr 1 (b.map stC))]⟩)
    (fun i b => b.length = i) (fun _ b x => b ++ [x])
    (fun b => (.exit 0, ⟨mkE 60 [(0, txS l), (1, stA s), (5, .pv 40020 0), (6, .os 10000060 b.length 0 b.length)], [(40020, .var [.d (.int .i64 4), .d (.int .i64 0), .d (.str []), txS (setT l)]), (10000060, .arr 1 (b.map stC))]⟩)) (by simp)
    (fun i b x hi hx hI => by
      have hi' : i < l.length := by simpa using hi
      have hx' : l[l.length - 1 - i]? = some x := by
        rw [← hx, List.getElem_reverse]; exact List.getElem?_eq_getElem (by omega)
      refine ⟨by simp [hI], ?_⟩
      obtain ⟨m, hm⟩ : ∃ m, l.length - 1 - i = m := ⟨_, rfl⟩
      have hm' : (l.length : Int) - 1 - (i : Int) = (m : Int) := by omega
      have hm2 : (l.length : Int) - 1 - ((i : Int) + 1) = (m : Int) - 1 := by omega
      rw [hm] at hx'
      have hml : m < l.length := by omega
      obtain ⟨_, hx'⟩ := List.getElem?_eq_some_iff.1 hx'
      have hw := wrap_ok (a := (m : Int) - 1) (by omega) (by omega)
      have g1 : b.length + 1 ≤ LIM := by unfold LIM; omega
      simp -implicitDefEqProofs [body_law02_ValueSets_0, mask_law02_ValueSets_0, hm', hm2, hx', hml, hw, g1]) (fun b hI => by
      have e : (l.length : Int) - 1 - (l.length : Int) = -1 := by omega
      simp -implicitDefEqProofs [body_law02_ValueSets_0, e]) [] rfl
  have hf : foldI (fun _ (b : List Txt) x => b ++ [x]) l.reverse 0 [] = l.reverse := by
    have : ∀ (l : List Txt) (i : Nat) (a : List Txt), foldI (fun _ (b : List Txt) x => b ++ [x]) l i a = a ++ l := by
      intro l
      induction l with
      | nil => intro i a; simp
      | cons x r ih => intro i a; rw [foldI_cons, ih]; simp
    rw [this]; simp
  rw [hf] at hL
  have hw := wrap_ok (a := (l.length : Int) - 1) (by omega) (by omega)
  have g2 : l.length + l.length ≤ LIM := by unfold LIM; omega
  have g3 : ((setT l).length : Int) ≤ (l.length : Int) := by omega
  simp -implicitDefEqProofs [code_law02_ValueSets, alive02, h1, hw]
  rw [hL _ (by simp -implicitDefEqProofs [mask_law02_ValueSets_0])]
  simp only [vaA, txS, List.map_append, List.map_reverse] at h2 h3 h4 h6
  have hT : List.take (l.length + l.length) ((l.map stC).reverse ++ l.map stC) = (l.map stC).reverse ++ l.map stC := List.take_of_length_le (by simp)
  generalize setT l = S at *
  cases hv : plainC (.d (.vs false (S.map stC)))
  · simp -implicitDefEqProofs [hT, h2, h3, h4, h5, h6, g2, g3, hv]
  · simp -implicitDefEqProofs [hT, h2, h3, h4, h5, h6, g2, g3, hv]

theorem zero_ok (k : Int) (h : ¬ zeroK k = 0) : vaCheck ⟨zeroK k, 0, [], []⟩ = 0 := by
  unfold zeroK at *
  split at h
  · simp at h
  · rename_i hk
    rw [if_neg hk]
    have : k = 1 ∨ k = 2 ∨ k = 3 ∨ k = 4 := by omega
    rcases this with rfl | rfl | rfl | rfl <;> simp [vaCheck, oddVa, longS, rise]

theorem run_ValueMakes (n : Int) (b : Bool) (s : Txt) (l : List Txt) (k : Int) (_wn : (Lit.int .i64 n).wf = true) (_wk : (Lit.int .i64 k).wf = true)
    (hb0 : bulkL [.int .i64 n] + (bulkL [.bool b] + (bulkL [.str s] + (bulkL [.vs false (l.map stC)] + bulkL [.int .i64 k]))) ≤ 1048576) :
    R F_law02_ValueMakes [.d (.int .i64 n), .d (.bool b), .d (.str s), txS l, .d (.int .i64 k)] [] = some (.d (.bool true), []) := by
  have hl : l.length ≤ BIG := by
    have := (st_bulk l).1
    simp only [bulkL, bulkD] at hb0
    unfold BIG
    omega
  refine R_of at_law02_ValueMakes (by decide) ?_
  have h1 := run_Int n
  have h2 := run_Bool b
  have h3 := run_Text s
  have h4 := run_Set l hl
  have h5 := run_Zero k
  have h6 := run_02Int n
  have h7 := run_02Bool b
  have h8 := run_Rising l hl
  have hs := setT_len l
  have p1 := run_plValue ⟨1, n, [], []⟩ ⟨1, n, [], []⟩ (by simp) (by simp)
  have p2 := run_plValue ⟨2, if b then 1 else 0, [], []⟩ ⟨2, if b then 1 else 0, [], []⟩ (by simp) (by simp)
  have p3 := run_plValue ⟨3, 0, s, []⟩ ⟨3, 0, s, []⟩ (by simp) (by simp)
  have p4 := run_plValue ⟨4, 0, [], setT l⟩ ⟨4, 0, [], setT l⟩ (by simp only; omega) (by simp only; omega)
  have p5 := run_plValue ⟨zeroK k, 0, [], []⟩ ⟨zeroK k, 0, [], []⟩ (by simp) (by simp)
  have p6 := run_vaCheck ⟨zeroK k, 0, [], []⟩ ⟨by simp, by simp, by simp⟩
  simp only [decide_true, vaA, txS, List.map_nil] at p1 p2 p3 p4 p5 p6
  by_cases hz : k < 1 ∨ 4 < k
  · have e : zeroK k = 0 := by unfold zeroK; rw [if_pos hz]
    rw [e] at h5 p5
    by_cases g1 : k < 1
    · simp -implicitDefEqProofs [code_law02_ValueMakes, alive02, h1, h2, h3, h4, h5, h6, h7, h8, p1, p2, p3, p4, p5, g1]
    · have g2 : 4 < k := by omega
      simp -implicitDefEqProofs [code_law02_ValueMakes, alive02, h1, h2, h3, h4, h5, h6, h7, h8, p1, p2, p3, p4, p5, g1, g2]
  · have e : zeroK k = k := by unfold zeroK; rw [if_neg hz]
    rw [zero_ok k (by rw [e]; omega)] at p6
    rw [e] at h5 p5 p6
    have g1 : ¬ k < 1 := by omega
    have g2 : ¬ 4 < k := by omega
    have g3 : ¬ k = 0 := by omega
    simp -implicitDefEqProofs [code_law02_ValueMakes, alive02, h1, h2, h3, h4, h5, h6, h7, h8, p1, p2, p3, p4, p5, p6, g1, g2, g3]
end Bz.S
