/- The program's package ast, walked. -/
import Derived.Test.YtddljfbalbnkcaaLex
set_option linter.unusedSimpArgs false
set_option linter.unusedVariables false
namespace Bz.S
open Go Bz
set_option maxRecDepth 10000
set_option maxHeartbeats 4000000

/-! ### how much there is to an expression -/
def exN (e : Ex) : Nat := bulkL (exC e)
def exNs (l : List Ex) : Nat := bulkLL (l.map exC)
theorem exN_eq (e : Ex) : exN e = e.name.length + exNs e.kids + 6 := by
  unfold exN exNs; rw [exC_eq]; simp [bulkL, bulkD]; omega
theorem exNs_nil : exNs [] = 0 := rfl
theorem exNs_cons (e : Ex) (r : List Ex) : exNs (e :: r) = exN e + exNs r := rfl
theorem exNs_mem {l : List Ex} {e : Ex} (h : e ∈ l) : exN e ≤ exNs l := by
  induction l with
  | nil => cases h
  | cons a r ih =>
    rw [exNs_cons]
    rcases List.mem_cons.1 h with rfl | h
    · omega
    · have := ih h; omega
theorem exNs_len (l : List Ex) : 6 * l.length ≤ exNs l := by
  induction l with
  | nil => simp
  | cons a r ih => rw [exNs_cons]; have := exN_eq a; simp; omega
theorem kid_lt {e k : Ex} (h : k ∈ e.kids) : exN k < exN e := by
  have := exNs_mem h; have := exN_eq e; omega

theorem name_lim {e : Ex} (h : exN e ≤ BIG) : e.name.length ≤ LIM := by have := exN_eq e; exact big_lim (by omega)

/-- to show something of an expression, while it holds of its kids -/
theorem exInd {p : Ex → Prop} (h : ∀ e, (∀ k ∈ e.kids, p k) → p e) : ∀ e, p e := by
  have : ∀ n e, exN e ≤ n → p e := by
    intro n
    induction n with
    | zero => intro e he; have := exN_eq e; omega
    | succ n ih => intro e he; exact h e fun k hk => ih k (by have := kid_lt hk; omega)
  exact fun e => this _ e (Nat.le_refl _)

theorem exIndB {p : Ex → Prop} (h : ∀ e, exN e ≤ BIG → (∀ k ∈ e.kids, p k) → p e) : ∀ e, exN e ≤ BIG → p e := by
  intro e
  refine exInd (p := fun e => exN e ≤ BIG → p e) (fun e ih hb => h e hb fun k hk => ih k hk ?_) e
  have := kid_lt hk; omega

/-! ### what the page says -/
def astKids (k : Int) : Int :=
  if k = 1 ∨ k = 2 ∨ k = 3 ∨ k = 5 ∨ k = 6 ∨ k = 7 ∨ k = 13 ∨ k = 21 then 0
  else if k = 11 ∨ k = 12 ∨ k = 18 ∨ k = 25 ∨ k = 22 ∨ k = 23 then 1
  else if k = 8 ∨ k = 9 ∨ k = 10 ∨ k = 14 ∨ k = 15 ∨ k = 16 ∨ k = 17 ∨ k = 19 ∨ k = 20 ∨ k = 24 then 2
  else if k = 4 then -1 else -2
def innerK (e : Ex) : List Ex := if e.kind = 4 then [] else e.kids
mutual
def depth : Ex → Nat
  | .mk k _ _ _ _ kids => (if k = 4 then 0 else depths kids) + 1
def depths : List Ex → Nat
  | [] => 0
  | e :: r => max (depth e) (depths r)
end

mutual
def size : Ex → Nat
  | .mk k _ _ _ _ kids => (if k = 4 then 0 else sizes kids) + 1
def sizes : List Ex → Nat
  | [] => 0
  | e :: r => size e + sizes r
end

def spanOK (e : Ex) : Bool := decide (0 ≤ e.lo) && (decide (e.lo ≤ e.hi) || decide (e.hi = -1))
/-- has one of them what its kind has? -/
def ownOK (e : Ex) : Bool :=
  if e.kind = 1 then decide (e.name = []) && decide (0 ≤ e.n) && decide (e.lo = 0) && decide (e.hi = 0)
  else if e.kind = 2 then decide (e.name = []) && decide (e.n = 0 ∨ e.n = 1) && decide (e.lo = 0) && decide (e.hi = 0)
  else if e.kind = 3 then plainB e.name && decide (e.n = 0) && decide (e.lo = 0) && decide (e.hi = 0)
  else if e.kind = 13 then nameB e.name && decide (e.n = 0) && decide (e.lo = 0) && decide (0 ≤ e.hi)
  else if e.kind = 5 ∨ e.kind = 6 ∨ e.kind = 21 then nameB e.name && decide (e.n = 0) && decide (e.lo = 0) && decide (e.hi = 0)
  else if e.kind = 22 ∨ e.kind = 23 ∨ e.kind = 24 then decide (e.name = []) && decide (e.n = 0) && spanOK e
  else decide (e.name = []) && decide (e.n = 0) && decide (e.lo = 0) && decide (e.hi = 0)
/-- may a text be one of a set's? -/
def textOK (k : Ex) : Bool := decide (k.kind = 3) && k.kids.isEmpty && ownOK k
def leS (a b : Txt) : Bool := Go.Op.bytesLess a b || a == b
def risesB : List Ex → Bool
  | [] => true
  | [_] => true
  | a :: b :: r => !leS b.name a.name && risesB (b :: r)
def setOK (l : List Ex) : Bool := l.all textOK && risesB l && decide (l.length ≤ 8)
mutual
def mayOK : Ex → Bool
  | .mk k s n lo hi kids => if k = 4 then ownOK (.mk k s n lo hi kids) && setOK kids else decide (astKids k = kids.length) && ownOK (.mk k s n lo hi kids) && mayOKs kids
def mayOKs : List Ex → Bool
  | [] => true
  | e :: r => mayOK e && mayOKs r
end

def astCheck (e : Ex) : Int := if 12 < depth e then 32 else if 64 < size e then 3 else if mayOK e then 0 else 12
def looksB (k : Int) : Bool := decide (k = 22 ∨ k = 23 ∨ k = 24 ∨ k = 25 ∨ k = 13)
mutual
def pastB : Ex → Bool
  | .mk k _ _ _ _ kids => looksB k || (if k = 4 then false else pastBs kids)
def pastBs : List Ex → Bool
  | [] => false
  | e :: r => pastB e || pastBs r
end

theorem depth_eq (e : Ex) : depth e = depths (innerK e) + 1 := by cases e; simp only [depth, innerK, Ex.kind, Ex.kids]; split <;> simp [depths, *]
theorem size_eq (e : Ex) : size e = sizes (innerK e) + 1 := by cases e; simp only [size, innerK, Ex.kind, Ex.kids]; split <;> simp [sizes, *]
theorem past_eq (e : Ex) : pastB e = (looksB e.kind || pastBs (innerK e)) := by cases e; simp only [pastB, innerK, Ex.kind, Ex.kids]; split <;> simp [pastBs, *]
theorem pastBs_any (l : List Ex) : pastBs l = l.any pastB := by
  induction l with
  | nil => rfl
  | cons a r ih => simp [pastBs, ih]
theorem may_eq (e : Ex) : mayOK e = if e.kind = 4 then ownOK e && setOK e.kids else decide (astKids e.kind = e.kids.length) && ownOK e && mayOKs e.kids := by cases e; rfl
theorem mayOKs_all (l : List Ex) : mayOKs l = l.all mayOK := by
  induction l with
  | nil => rfl
  | cons a r ih => simp [mayOKs, ih]
theorem inner_mem {e k : Ex} (h : k ∈ innerK e) : k ∈ e.kids := by
  unfold innerK at h; split at h
  · cases h
  · exact h
theorem inner_len (e : Ex) : (innerK e).length ≤ e.kids.length := by unfold innerK; split <;> simp
theorem depth_le (e : Ex) : depth e ≤ exN e := by
  refine exInd (p := fun e => depth e ≤ exN e) (fun e ih => ?_) e
  have key : ∀ l : List Ex, (∀ k ∈ l, depth k ≤ exN k) → depths l ≤ exNs l := by
    intro l
    induction l with
    | nil => intro _; exact Nat.le_refl _
    | cons a r ihr =>
      intro hl
      have h1 := hl a (by simp)
      have h2 := ihr fun k hk => hl k (by simp [hk])
      rw [exNs_cons]; simp only [depths]; omega
  have := exN_eq e
  rw [depth_eq]
  have h := key (innerK e) fun k hk => ih k (inner_mem hk)
  have : exNs (innerK e) ≤ exNs e.kids := by unfold innerK; split <;> simp [exNs_nil]
  omega
theorem sizes_le {l : List Ex} (h : ∀ k ∈ l, size k ≤ exN k) : sizes l ≤ exNs l := by
  induction l with
  | nil => exact Nat.le_refl _
  | cons a r ihr =>
    have h1 := h a (by simp)
    have h2 := ihr fun k hk => h k (by simp [hk])
    rw [exNs_cons]; simp only [sizes]; omega
theorem sizes_app (l r : List Ex) : sizes (l ++ r) = sizes l + sizes r := by
  induction l with
  | nil => simp [sizes]
  | cons x l ih => simp only [List.cons_append, sizes, ih]; omega
theorem sizes_take {l : List Ex} {i : Nat} (hi : i < l.length) : sizes (l.take (i + 1)) = sizes (l.take i) + size l[i] := by
  rw [List.take_succ_eq_append_getElem hi, sizes_app]; simp [sizes]
theorem sizes_take_le (l : List Ex) (i : Nat) : sizes (l.take i) ≤ sizes l := by
  have := sizes_app (l.take i) (l.drop i)
  rw [List.take_append_drop] at this; omega
theorem size_le (e : Ex) : size e ≤ exN e := by
  refine exInd (p := fun e => size e ≤ exN e) (fun e ih => ?_) e
  have := exN_eq e
  rw [size_eq]
  have h := sizes_le (l := innerK e) fun k hk => ih k (inner_mem hk)
  have : exNs (innerK e) ≤ exNs e.kids := by unfold innerK; split <;> simp [exNs_nil]
  omega

/-! ### walks -/
theorem risesB_iff : ∀ (l : List Ex), risesB l = true ↔ ∀ (i : Nat) (a b : Ex), l[i]? = some a → l[i + 1]? = some b → leS b.name a.name = false
  | [] => by simp [risesB]
  | [x] => by simp [risesB]
  | x :: y :: r => by
    simp only [risesB, Bool.and_eq_true, Bool.not_eq_true']
    rw [risesB_iff (y :: r)]
    constructor
    · intro ⟨h1, h2⟩ i a b ha hb
      cases i with
      | zero => simp at ha hb; subst ha; subst hb; exact h1
      | succ i => exact h2 i a b (by simpa using ha) (by simpa using hb)
    · intro h
      exact ⟨h 0 x y rfl rfl, fun i a b ha hb => h (i + 1) a b (by simpa using ha) (by simpa using hb)⟩

theorem textOK_may {k : Ex} (h : k.kind = 3) : textOK k = mayOK k := by
  rw [may_eq, mayOKs_all]
  unfold textOK
  cases hk : k.kids with
  | nil => simp [h, astKids]
  | cons a r => simp [h, astKids]; omega

/-- is one of a set's texts out of place? -/
def setBad (l : List Ex) (i : Nat) (k : Ex) : Bool := !decide (k.kind = 3) || !mayOK k || (decide (0 < i) && match l[i - 1]? with | some p => leS k.name p.name | none => false)

theorem setOK_find (l : List Ex) : setOK l = ((findI (setBad l) l 0).isNone && decide (l.length ≤ 8)) := by
  unfold setOK
  congr 1
  rw [Bool.eq_iff_iff, Bool.and_eq_true, Option.isNone_iff_eq_none, findI_none, List.all_eq_true, risesB_iff]
  constructor
  · intro ⟨h1, h2⟩ i k hk
    have hm := h1 k (List.mem_of_getElem? hk)
    have hk3 : k.kind = 3 := by unfold textOK at hm; simp at hm; exact hm.1.1
    rw [textOK_may hk3] at hm
    simp only [setBad, hk3, hm, Nat.zero_add, decide_true, Bool.not_true, Bool.false_or]
    cases i with
    | zero => rfl
    | succ i =>
      simp only [Nat.zero_lt_succ, decide_true, Bool.true_and, Nat.add_sub_cancel]
      cases hp : l[i]? with
      | none => rfl
      | some p => exact h2 i p k hp hk
  · intro h
    refine ⟨fun k hk => ?_, fun i a b ha hb => ?_⟩
    · obtain ⟨i, hi⟩ := List.getElem?_of_mem hk
      have := h i k hi
      simp only [setBad, Bool.or_eq_false_iff, Bool.not_eq_false'] at this
      have h3 : k.kind = 3 := by simpa using this.1.1
      rw [textOK_may h3]; exact this.1.2
    · have := h (i + 1) b hb
      simp only [setBad, Bool.or_eq_false_iff, Nat.zero_add, Nat.zero_lt_succ, decide_true, Bool.true_and, Nat.add_sub_cancel, ha] at this
      exact this.2

end Bz.S
