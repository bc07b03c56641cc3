/- Values of attributes: the program's package value, and the page's (ref02), walked. -/
import Derived.Test.YtpopnggdnkfemaaEx
set_option linter.unusedSimpArgs false
set_option linter.unusedVariables false
namespace Bz.S
open Go Bz
set_option maxRecDepth 10000
set_option maxHeartbeats 4000000

/-! ### texts in a list -/
def stC (s : Txt) : List D := [.str s]
@[simp] theorem stC_eq (s : Txt) : stC s = [.str s] := rfl
@[simp] theorem sized_st (l : List Txt) : sized 1 (l.map stC) = true := sized_map 1 stC (fun _ => rfl) l
abbrev txS (l : List Txt) : AV := .d (.vs false (l.map stC))
abbrev stA (s : Txt) : AV := .d (.str s)

/-- api.Value -/
structure Va where
  kind : Int
  n : Int
  s : Txt
  l : List Txt
  deriving DecidableEq

def vaC (v : Va) : List D := [.int .i64 v.kind, .int .i64 v.n, .str v.s, .vs false (v.l.map stC)]
@[simp] theorem vaC_eq (v : Va) : vaC v = [.int .i64 v.kind, .int .i64 v.n, .str v.s, .vs false (v.l.map stC)] := rfl
abbrev vaA (v : Va) : AV := .agg [.d (.int .i64 v.kind), .d (.int .i64 v.n), .d (.str v.s), txS v.l]

theorem bl_leq : ∀ a b : Txt, (Op.bytesLess a b || a == b) = !Op.bytesLess b a
  | [], [] => rfl
  | [], y :: b => rfl
  | x :: a, [] => rfl
  | x :: a, y :: b => by
    have ih := bl_leq a b
    have hc : (x :: a == y :: b) = ((x == y) && (a == b)) := rfl
    simp only [Op.bytesLess, hc]
    by_cases h1 : x = y
    · subst h1
      have : ¬ x < x := by simp
      simp only [this, decide_false, beq_self_eq_true, Bool.true_and, Bool.false_or]
      exact ih
    · have h2 : ¬ y = x := fun h => h1 h.symm
      have e1 : (x == y) = false := by simp [h1]
      have e2 : (y == x) = false := by simp [h2]
      simp only [e1, e2, Bool.false_and, Bool.or_false]
      have : x < y ↔ ¬ y < x := by
        rw [UInt8.lt_iff_toNat_lt, UInt8.lt_iff_toNat_lt]
        have : x.toNat ≠ y.toNat := fun h => h1 (UInt8.toNat_inj.1 h)
        omega
      by_cases h3 : y < x
      · simp [this, h3]
      · simp [this, h3]

/-- do they rise, each once? -/
def rise : List Txt → Bool
  | a :: b :: r => Op.bytesLess a b && rise (b :: r)
  | _ => true
theorem rise_iff : ∀ {l : List Txt}, rise l = true ↔ ∀ (i : Nat) (a b : Txt), l[i]? = some a → l[i + 1]? = some b → Op.bytesLess a b = true
  | [] => by simp [rise]
  | [x] => by simp [rise]
  | x :: y :: r => by
    simp only [rise, Bool.and_eq_true]
    rw [rise_iff (l := y :: r)]
    constructor
    · intro ⟨h1, h2⟩ i a b ha hb
      cases i with
      | zero => simp at ha hb; subst ha; subst hb; exact h1
      | succ i => exact h2 i a b (by simpa using ha) (by simpa using hb)
    · intro h
      exact ⟨h 0 x y rfl rfl, fun i a b ha hb => h (i + 1) a b (by simpa using ha) (by simpa using hb)⟩

theorem rise_find {a : Txt} {r : List Txt} : findI (fun i b => match (a :: r)[i]? with | some y => !Op.bytesLess y b | none => false) r 0 = none ↔ rise (a :: r) = true := by
  rw [findI_none, rise_iff]
  constructor
  · intro hF i x y hx hy
    have := hF i y (by simpa using hy)
    rw [Nat.zero_add, hx] at this
    simpa using this
  · intro hr k x hx
    rw [Nat.zero_add]
    cases hy : (a :: r)[k]? with
    | none => rfl
    | some y => simp [hr k y x hy (by simpa using hx)]

def longS (s : Txt) : Bool := decide (32 < s.length)
theorem run_long (s : Txt) (hl : s.length ≤ LIM) : R F_value_long [.d (.str s)] [] = some (.d (.bool (longS s)), []) := by
  refine R_of at_value_long (by decide) ?_
  simp -implicitDefEqProofs [code_value_long, longS, hl]
  try omega

theorem run_rises (l : List Txt) (hl : l.length ≤ BIG) : R F_value_rises [txS l] [] = some (.d (.bool (rise l)), []) := by
  refine R_of at_value_rises (by decide) ?_
  unfold BIG at hl
  cases l with
  | nil =>
    simp -implicitDefEqProofs [code_value_rises]
    rw [loop_end (e := .exit 0) (s' := ⟨mkE 20 [], []⟩) (by simp -implicitDefEqProofs [mask_value_rises_0, body_value_rises_0]) (by simp)]
    simp -implicitDefEqProofs [rise]
  | cons a r =>
    have hL := loop_find (X := X) (mask := mask_value_rises_0) (body := body_value_rises_0) r
      (fun i => ⟨mkE 20 [(0, txS (a :: r)), (3, .d (.int .i64 ((i + 1 : Nat) : Int)))], []⟩)
      (fun i b => match (a :: r)[i]? with | some y => !Op.bytesLess y b | none => false) (.exit 0, ⟨mkE 20 [], []⟩) (fun i _ => (.ret, ⟨mkE 20 [(2, .d (.bool false))], []⟩)) (by simp) (by simp)
      (fun i e hi he hq => by
        have hB : (a :: r).length = r.length + 1 := rfl
        have hk : i < (a :: r).length := by omega
        have hk1 : i + 1 < (a :: r).length := by omega
        have e1 : (a :: r)[i + 1] = e := he
        obtain ⟨y, hy⟩ : ∃ y, (a :: r)[i] = y := ⟨_, rfl⟩
        rw [List.getElem?_eq_getElem hk, hy] at hq
        generalize a :: r = B at *
        have hle : (Op.bytesLess e y || e == y) = false := by rw [bl_leq]; exact hq
        rw [Bool.or_eq_false_iff] at hle
        have hw := wrap_ok (a := (i : Int) + 1 + 1) (by omega) (by omega)
        have hw0 := wrap_ok (a := (i : Int)) (by omega) (by omega)
        have p0 : (0 : Int) ≤ (i : Int) + 1 := by omega
        have p1 : (i : Int) + 1 < B.length := by omega
        simp -implicitDefEqProofs [body_value_rises_0, mask_value_rises_0, hk, hk1, e1, hy, hle.1, hle.2, hw, hw0, p0, p1])
      (fun i e hi he hq => by
        have hB : (a :: r).length = r.length + 1 := rfl
        have hk : i < (a :: r).length := by omega
        have hk1 : i + 1 < (a :: r).length := by omega
        have e1 : (a :: r)[i + 1] = e := he
        obtain ⟨y, hy⟩ : ∃ y, (a :: r)[i] = y := ⟨_, rfl⟩
        rw [List.getElem?_eq_getElem hk, hy] at hq
        generalize a :: r = B at *
        have hle : (Op.bytesLess e y || e == y) = true := by rw [bl_leq]; exact hq
        have hw0 := wrap_ok (a := (i : Int)) (by omega) (by omega)
        have p0 : (0 : Int) ≤ (i : Int) + 1 := by omega
        have p1 : (i : Int) + 1 < B.length := by omega
        simp -implicitDefEqProofs at hle
        simp -implicitDefEqProofs [body_value_rises_0, mask_value_rises_0, hk, hk1, e1, hy, hle, hw0, p0, p1]) (by
        simp -implicitDefEqProofs [body_value_rises_0])
    simp -implicitDefEqProofs [code_value_rises]
    rw [hL _ (by simp -implicitDefEqProofs [mask_value_rises_0])]
    cases hF : findI (fun i b => match (a :: r)[i]? with | some y => !Op.bytesLess y b | none => false) r 0 with
    | none =>
      have := rise_find.1 hF
      simp -implicitDefEqProofs [this]
    | some q =>
      have : rise (a :: r) = false := by
        cases hr : rise (a :: r) with
        | false => rfl
        | true => rw [rise_find.2 hr] at hF; cases hF
      simp -implicitDefEqProofs [this]

theorem run_IndexSt (l : List Txt) (hl : l.length ≤ BIG) (f : Nat) (hf : own f = false) (p : Txt → Bool) (hp : ∀ e ∈ l, R f [stA e] [] = some (.d (.bool (p e)), [])) :
    R F_slices_IndexFunc_string_string [txS l, .fn f []] [] = some (.d (.int .i64 (idxK p l)), []) := by
  refine R_of at_slices_IndexFunc_string_string (by decide) ?_
  unfold BIG at hl
  have hL := loop_find (X := X) (mask := mask_slices_IndexFunc_string_string_0) (body := body_slices_IndexFunc_string_string_0) l
    (fun i => ⟨mkE 19 [(0, txS l), (1, .fn f []), (7, .d (.int .i64 l.length)), (8, .d (.int .i64 i))], []⟩)
    (fun _ => p) (.exit 0, ⟨mkE 19 [], []⟩) (fun i _ => (.ret, ⟨mkE 19 [(4, .d (.int .i64 i))], []⟩)) (by simp) (by simp)
    (fun i e hi he hq => by
      have hw := wrap_ok (a := (i : Int) + 1) (by omega) (by omega)
      have hc := hp e (he ▸ List.getElem_mem hi)
      simp -implicitDefEqProofs [body_slices_IndexFunc_string_string_0, mask_slices_IndexFunc_string_string_0, hi, he, hc, hf, hq, hw])
    (fun i e hi he hq => by
      have hc := hp e (he ▸ List.getElem_mem hi)
      simp -implicitDefEqProofs [body_slices_IndexFunc_string_string_0, hi, he, hc, hf, hq]) (by simp -implicitDefEqProofs [body_slices_IndexFunc_string_string_0])
  simp -implicitDefEqProofs [code_slices_IndexFunc_string_string]
  rw [hL _ (by simp [mask_slices_IndexFunc_string_string_0])]
  unfold idxK
  cases findI (fun _ => p) l 0 <;> simp -implicitDefEqProofs

theorem run_ContainsSt (l : List Txt) (hl : l.length ≤ BIG) (f : Nat) (hf : own f = false) (p : Txt → Bool) (hp : ∀ e ∈ l, R f [stA e] [] = some (.d (.bool (p e)), [])) :
    R F_slices_ContainsFunc_string_string [txS l, .fn f []] [] = some (.d (.bool (l.any p)), []) := by
  refine R_of at_slices_ContainsFunc_string_string (by decide) ?_
  have h := run_IndexSt l hl f hf p hp
  simp -implicitDefEqProofs [code_slices_ContainsFunc_string_string, h, idxK_any]



/-! ### may it be? -/
def oddVa (v : Va) : Bool := (!(decide (v.kind = 1) || decide (v.kind = 2) && (decide (v.n = 0) || decide (v.n = 1))) && !decide (v.n = 0)) || (!decide (v.kind = 3) && !decide (v.s = [])) || (!decide (v.kind = 4) && decide (0 < v.l.length)) || !rise v.l
def vaCheck (v : Va) : Int :=
  if v.kind < 1 ∨ 4 < v.kind then 12
  else if (longS v.s || v.l.any longS) = true then 5
  else if 8 < v.l.length then 3
  else if oddVa v = true then 4 else 0

/-- no greater than what a law's input may be -/
structure VaOK (v : Va) : Prop where
  s : v.s.length ≤ LIM
  l : v.l.length ≤ BIG
  ls : ∀ s ∈ v.l, s.length ≤ LIM

theorem run_odd2 (v : Va) (hv : VaOK v) : R F_value_odd [vaA v] [] = some (.d (.bool (oddVa v)), []) := by
  refine R_of at_value_odd (by decide) ?_
  have h := run_rises v.l hv.l
  simp -implicitDefEqProofs [code_value_odd, oddVa, h]
  grind
theorem run_vaCheck (v : Va) (hv : VaOK v) : R F_value_Check [vaA v] [] = some (.d (.int .i64 (vaCheck v)), []) := by
  refine R_of at_value_Check (by decide) ?_
  have h1 := run_long v.s hv.s
  have h2 := run_ContainsSt v.l hv.l F_value_long rfl longS fun e he => run_long e (hv.ls e he)
  have h3 := run_odd2 v hv
  simp -implicitDefEqProofs [code_value_Check, vaCheck, h1, h2, h3]
  have : ((8 : Int) < v.l.length) ↔ 8 < v.l.length := by omega
  simp only [this]

/-! ### the page -/
def badL (l : List Txt) : Int := if (l.any longS) = true then 1 else if rise l = true then 0 else 2
theorem run_bad02 (l : List Txt) (hl : l.length ≤ BIG) (hs : ∀ s ∈ l, s.length ≤ LIM) : R F_ref02_bad [txS l] [] = some (.d (.int .i64 (badL l)), []) := by
  refine R_of at_ref02_bad (by decide) ?_
  unfold BIG at hl
  have hL := loop_find (X := X) (mask := mask_ref02_bad_0) (body := body_ref02_bad_0) l
    (fun i => ⟨mkE 34 [(0, txS l), (3, .d (.int .i64 i))], []⟩)
    (fun _ => longS) (.exit 0, ⟨mkE 34 [(0, txS l)], []⟩) (fun i _ => (.ret, ⟨mkE 34 [(2, .d (.int .i64 1))], []⟩)) (by simp) (by simp)
    (fun i e hi he hq => by
      have hw := wrap_ok (a := (i : Int) + 1) (by omega) (by omega)
      have hq' : ¬ (32 : Int) < e.length := by simp [longS] at hq; omega
      have hel := hs e (he ▸ List.getElem_mem hi)
      simp -implicitDefEqProofs [body_ref02_bad_0, mask_ref02_bad_0, hi, he, hq', hw, hel])
    (fun i e hi he hq => by
      have hq' : (32 : Int) < e.length := by simp [longS] at hq; omega
      have hel := hs e (he ▸ List.getElem_mem hi)
      simp -implicitDefEqProofs [body_ref02_bad_0, mask_ref02_bad_0, hi, he, hq', hel]) (by simp -implicitDefEqProofs [body_ref02_bad_0])
  have hA := findI_any longS l 0
  unfold badL
  rw [← hA]
  simp -implicitDefEqProofs [code_ref02_bad]
  rw [hL _ (by simp [mask_ref02_bad_0])]
  cases findI (fun _ => longS) l 0 with
  | some q => simp -implicitDefEqProofs
  | none =>
    cases l with
    | nil =>
      simp -implicitDefEqProofs
      have hw := wrap_ok (a := (1 : Int)) (by omega) (by omega)
      rw [loop_end (e := .exit 2) (s' := ⟨mkE 34 [], []⟩) (by simp -implicitDefEqProofs [mask_ref02_bad_1, body_ref02_bad_1, hw]) (by simp)]
      simp -implicitDefEqProofs [rise]
    | cons a r =>
      have hL := loop_find (X := X) (mask := mask_ref02_bad_1) (body := body_ref02_bad_1) r
        (fun i => ⟨mkE 34 [(0, txS (a :: r)), (4, .d (.int .i64 i))], []⟩)
        (fun i b => match (a :: r)[i]? with | some y => !Op.bytesLess y b | none => false) (.exit 2, ⟨mkE 34 [], []⟩) (fun i _ => (.ret, ⟨mkE 34 [(2, .d (.int .i64 2))], []⟩)) (by simp) (by simp)
        (fun i e hi he hq => by
          have hB : (a :: r).length = r.length + 1 := rfl
          have hk : i < (a :: r).length := by omega
          have hk1 : i + 1 < (a :: r).length := by omega
          have e1 : (a :: r)[i + 1] = e := he
          obtain ⟨y, hy⟩ : ∃ y, (a :: r)[i] = y := ⟨_, rfl⟩
          rw [List.getElem?_eq_getElem hk, hy] at hq
          clear hs hA hL
          generalize a :: r = B at *
          have hle : Op.bytesLess y e = true := by simpa using hq
          have hw := wrap_ok (a := (i : Int) + 1) (by omega) (by omega)
          have p0 : (0 : Int) ≤ (i : Int) + 1 := by omega
          have p1 : (i : Int) + 1 < B.length := by omega
          simp -implicitDefEqProofs [body_ref02_bad_1, mask_ref02_bad_1, hk, hk1, e1, hy, hle, hw, p0, p1])
        (fun i e hi he hq => by
          have hB : (a :: r).length = r.length + 1 := rfl
          have hk : i < (a :: r).length := by omega
          have hk1 : i + 1 < (a :: r).length := by omega
          have e1 : (a :: r)[i + 1] = e := he
          obtain ⟨y, hy⟩ : ∃ y, (a :: r)[i] = y := ⟨_, rfl⟩
          rw [List.getElem?_eq_getElem hk, hy] at hq
          clear hs hA hL
          generalize a :: r = B at *
          have hle : Op.bytesLess y e = false := by simpa using hq
          have hw := wrap_ok (a := (i : Int) + 1) (by omega) (by omega)
          have p0 : (0 : Int) ≤ (i : Int) + 1 := by omega
          have p1 : (i : Int) + 1 < B.length := by omega
          simp -implicitDefEqProofs [body_ref02_bad_1, mask_ref02_bad_1, hk, hk1, e1, hy, hle, hw, p0, p1]) (by
          have hw := wrap_ok (a := (r.length : Int) + 1) (by simp at hl; omega) (by simp at hl; omega)
          simp -implicitDefEqProofs [body_ref02_bad_1, hw])
      simp -implicitDefEqProofs
      rw [hL _ (by simp -implicitDefEqProofs [mask_ref02_bad_1])]
      cases hF : findI (fun i b => match (a :: r)[i]? with | some y => !Op.bytesLess y b | none => false) r 0 with
      | none => 
        have := rise_find.1 hF
        simp -implicitDefEqProofs [this]
      | some q =>
        have : rise (a :: r) = false := by
          cases hr : rise (a :: r) with
          | false => rfl
          | true => rw [rise_find.2 hr] at hF; cases hF
        simp -implicitDefEqProofs [this]
theorem run_02Check (v : Va) (hv : VaOK v) : R F_ref02_Check [vaA v] [] = some (.d (.int .i64 (vaCheck v)), []) := by
  refine R_of at_ref02_Check (by decide) ?_
  have h1 := run_bad02 v.l hv.l hv.ls
  have hs := hv.s
  by_cases k0 : v.kind < 1 ∨ 4 < v.kind
  · have k1 : ¬ v.kind = 1 := by omega
    have k2 : ¬ v.kind = 2 := by omega
    have k3 : ¬ v.kind = 3 := by omega
    have k4 : ¬ v.kind = 4 := by omega
    have e : vaCheck v = 12 := by simp [vaCheck, k0]
    simp -implicitDefEqProofs [code_ref02_Check, k1, k2, k3, k4, e]
  · have hk : v.kind = 1 ∨ v.kind = 2 ∨ v.kind = 3 ∨ v.kind = 4 := by omega
    by_cases a1 : longS v.s = true
    · have i1 : (32 : Int) < v.s.length := by simp [longS] at a1; omega
      have e : vaCheck v = 5 := by simp [vaCheck, k0, a1]
      rcases hk with hk | hk | hk | hk <;> simp -implicitDefEqProofs [code_ref02_Check, h1, hk, e, i1, hs]
    · have i1 : ¬ (32 : Int) < v.s.length := by simp [longS] at a1; omega
      have a1' : longS v.s = false := by simpa using a1
      cases a2 : v.l.any longS with
      | true =>
        have e : vaCheck v = 5 := by simp only [vaCheck, if_neg k0, a1', a2]; rfl
        have hb : badL v.l = 1 := by simp only [badL, a2, if_true]
        rw [hb] at h1
        rcases hk with hk | hk | hk | hk <;> simp -implicitDefEqProofs [code_ref02_Check, h1, hk, e, i1, hs]
      | false =>
        have e0 : vaCheck v = if 8 < v.l.length then 3 else if oddVa v = true then 4 else 0 := by simp only [vaCheck, if_neg k0, a1', a2]; rfl
        have hb : badL v.l = if rise v.l = true then 0 else 2 := by simp only [badL, a2]; rfl
        rw [hb] at h1
        by_cases a3 : 8 < v.l.length
        · have i3 : (8 : Int) < v.l.length := by omega
          rw [if_pos a3] at e0
          cases hr : rise v.l <;> simp only [hr, Bool.false_eq_true, if_false, if_true] at h1 <;> rcases hk with hk | hk | hk | hk <;> simp -implicitDefEqProofs [code_ref02_Check, h1, hk, e0, i1, i3, hs]
        · have i3 : ¬ (8 : Int) < v.l.length := by omega
          rw [if_neg a3] at e0
          cases hr : rise v.l with
          | false =>
            simp only [hr, Bool.false_eq_true, if_false] at h1
            have e1 : oddVa v = true := by simp only [oddVa, hr, Bool.not_false, Bool.or_true]
            rw [if_pos e1] at e0
            rcases hk with hk | hk | hk | hk <;> simp -implicitDefEqProofs [code_ref02_Check, h1, hk, e0, i1, i3, hs]
          | true =>
            simp only [hr, if_true] at h1
            rw [e0]
            have hl0 : (v.l.length : Int) = 0 ↔ v.l.length = 0 := by omega
            rcases hk with hk | hk | hk | hk <;> simp -implicitDefEqProofs [code_ref02_Check, h1, hk, i1, i3, hs, oddVa, hr] <;> grind
end Bz.S
