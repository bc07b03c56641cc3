/- Values of attributes: the program's package value, and the page's (ref02), walked. -/
import Derived.Test.YtkokmockakgjaaaEx
set_option linter.unusedSimpArgs false
set_option linter.unusedVariables false
namespace Bz.S
open Go Bz
set_option maxRecDepth 10000
set_option maxHeartbeats 4000000

/-! ### texts in a list -/
def stC (s : Txt) : List D := [.str s]
@[simp] theorem stC_eq (s : Txt) : stC s = [.str s] := rfl
@[simp] theorem sized_st (l : List Txt) : sized 1 (l.map stC) = true := sized_map 1 stC (fun _ => rfl) l
abbrev txS (l : List Txt) : AV := .d (.vs false (l.map stC))
abbrev stA (s : Txt) : AV := .d (.str s)

/-- api.Value -/
structure Va where
  kind : Int
  n : Int
  s : Txt
  l : List Txt
  deriving DecidableEq

def vaC (v : Va) : List D := [.int .i64 v.kind, .int .i64 v.n, .str v.s, .vs false (v.l.map stC)]
@[simp] theorem vaC_eq (v : Va) : vaC v = [.int .i64 v.kind, .int .i64 v.n, .str v.s, .vs false (v.l.map stC)] := rfl
abbrev vaA (v : Va) : AV := .agg [.d (.int .i64 v.kind), .d (.int .i64 v.n), .d (.str v.s), txS v.l]

theorem bl_leq : ∀ a b : Txt, (Op.bytesLess a b || a == b) = !Op.bytesLess b a
  | [], [] => rfl
  | [], y :: b => rfl
  | x :: a, [] => rfl
  | x :: a, y :: b => by
    have ih := bl_leq a b
    have hc : (x :: a == y :: b) = ((x == y) && (a == b)) := rfl
    simp only [Op.bytesLess, hc]
    by_cases h1 : x = y
    · subst h1
      have : ¬ x < x := by simp
      simp only [this, decide_false, beq_self_eq_true, Bool.true_and, Bool.false_or]
      exact ih
    · have h2 : ¬ y = x := fun h => h1 h.symm
      have e1 : (x == y) = false := by simp [h1]
      have e2 : (y == x) = false := by simp [h2]
      simp only [e1, e2, Bool.false_and, Bool.or_false]
      have : x < y ↔ ¬ y < x := by
        rw [UInt8.lt_iff_toNat_lt, UInt8.lt_iff_toNat_lt]
        have : x.toNat ≠ y.toNat := fun h => h1 (UInt8.toNat_inj.1 h)
        omega
      by_cases h3 : y < x
      · simp [this, h3]
      · simp [this, h3]

/-- do they rise, each once? -/
def rise : List Txt → Bool
  | a :: b :: r => Op.bytesLess a b && rise (b :: r)
  | _ => true
theorem rise_iff : ∀ {l : List Txt}, rise l = true ↔ ∀ (i : Nat) (a b : Txt), l[i]? = some a → l[i + 1]? = some b → Op.bytesLess a b = true
  | [] => by simp [rise]
  | [x] => by simp [rise]
  | x :: y :: r => by
    simp only [rise, Bool.and_eq_true]
    rw [rise_iff (l := y :: r)]
    constructor
    · intro ⟨h1, h2⟩ i a b ha hb
      cases i with
      | zero => simp at ha hb; subst ha; subst hb; exact h1
      | succ i => exact h2 i a b (by simpa using ha) (by simpa using hb)
    · intro h
      exact ⟨h 0 x y rfl rfl, fun i a b ha hb => h (i + 1) a b (by simpa using ha) (by simpa using hb)⟩

theorem rise_find {a : Txt} {r : List Txt} : findI (fun i b => match (a :: r)[i]? with | some y => !Op.bytesLess y b | none => false) r 0 = none ↔ rise (a :: r) = true := by
  rw [findI_none, rise_iff]
  constructor
  · intro hF i x y hx hy
    have := hF i y (by simpa using hy)
    rw [Nat.zero_add, hx] at this
    simpa using this
  · intro hr k x hx
    rw [Nat.zero_add]
    cases hy : (a :: r)[k]? with
    | none => rfl
    | some y => simp [hr k y x hy (by simpa using hx)]

def longS (s : Txt) : Bool := decide (32 < s.length)
theorem run_IndexSt (l : List Txt) (hl : l.length ≤ BIG) (f : Nat) (hf : own f = false) (p : Txt → Bool) (hp : ∀ e ∈ l, R f [stA e] [] = some (.d (.bool (p e)), [])) :
    R F_slices_IndexFunc_string_string [txS l, .fn f []] [] = some (.d (.int .i64 (idxK p l)), []) := by
  refine R_of at_slices_IndexFunc_string_string (by decide) ?_
  unfold BIG at hl
  have hL := loop_find (X := X) (mask := mask_slices_IndexFunc_string_string_0) (body := body_slices_IndexFunc_string_string_0) l
    (fun i => ⟨mkE 19 [(0, txS l), (1, .fn f []), (7, .d (.int .i64 l.length)), (8, .d (.int .i64 i))], []⟩)
    (fun _ => p) (.exit 0, ⟨mkE 19 [], []⟩) (fun i _ => (.ret, ⟨mkE 19 [(4, .d (.int .i64 i))], []⟩)) (by simp) (by simp)
    (fun i e hi he hq => by
      have hw := wrap_ok (a := (i : Int) + 1) (by omega) (by omega)
      have hc := hp e (he ▸ List.getElem_mem hi)
      simp -implicitDefEqProofs [body_slices_IndexFunc_string_string_0, mask_slices_IndexFunc_string_string_0, hi, he, hc, hf, hq, hw])
    (fun i e hi he hq => by
      have hc := hp e (he ▸ List.getElem_mem hi)
      simp -implicitDefEqProofs [body_slices_IndexFunc_string_string_0, hi, he, hc, hf, hq]) (by simp -implicitDefEqProofs [body_slices_IndexFunc_string_string_0])
  simp -implicitDefEqProofs [code_slices_IndexFunc_string_string]
  rw [hL _ (by simp [mask_slices_IndexFunc_string_string_0])]
  unfold idxK
  cases findI (fun _ => p) l 0 <;> simp -implicitDefEqProofs

theorem run_ContainsSt (l : List Txt) (hl : l.length ≤ BIG) (f : Nat) (hf : own f = false) (p : Txt → Bool) (hp : ∀ e ∈ l, R f [stA e] [] = some (.d (.bool (p e)), [])) :
    R F_slices_ContainsFunc_string_string [txS l, .fn f []] [] = some (.d (.bool (l.any p)), []) := by
  refine R_of at_slices_ContainsFunc_string_string (by decide) ?_
  have h := run_IndexSt l hl f hf p hp
  simp -implicitDefEqProofs [code_slices_ContainsFunc_string_string, h, idxK_any]



/-! ### may it be? -/
def oddVa (v : Va) : Bool := (!(decide (v.kind = 1) || decide (v.kind = 2) && (decide (v.n = 0) || decide (v.n = 1))) && !decide (v.n = 0)) || (!decide (v.kind = 3) && !decide (v.s = [])) || (!decide (v.kind = 4) && decide (0 < v.l.length)) || !rise v.l
def vaCheck (v : Va) : Int :=
  if v.kind < 1 ∨ 4 < v.kind then 12
  else if (longS v.s || v.l.any longS) = true then 5
  else if 8 < v.l.length then 3
  else if oddVa v = true then 4 else 0

/-- no greater than what a law's input may be -/
structure VaOK (v : Va) : Prop where
  s : v.s.length ≤ LIM
  l : v.l.length ≤ BIG
  ls : ∀ s ∈ v.l, s.length ≤ LIM

/-! ### the page -/
def badL (l : List Txt) : Int := if (l.any longS) = true then 1 else if rise l = true then 0 else 2
end Bz.S
