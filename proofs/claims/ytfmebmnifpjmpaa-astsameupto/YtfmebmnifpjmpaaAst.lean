/- The program's package ast, walked. -/
import Derived.Test.YtfmebmnifpjmpaaLex
set_option linter.unusedSimpArgs false
set_option linter.unusedVariables false
namespace Bz.S
open Go Bz
set_option maxRecDepth 10000
set_option maxHeartbeats 4000000

/-! ### how much there is to an expression -/
def exN (e : Ex) : Nat := bulkL (exC e)
def exNs (l : List Ex) : Nat := bulkLL (l.map exC)
theorem exN_eq (e : Ex) : exN e = e.name.length + exNs e.kids + 6 := by
  unfold exN exNs; rw [exC_eq]; simp [bulkL, bulkD]; omega
theorem exNs_nil : exNs [] = 0 := rfl
theorem exNs_cons (e : Ex) (r : List Ex) : exNs (e :: r) = exN e + exNs r := rfl
theorem exNs_mem {l : List Ex} {e : Ex} (h : e ∈ l) : exN e ≤ exNs l := by
  induction l with
  | nil => cases h
  | cons a r ih =>
    rw [exNs_cons]
    rcases List.mem_cons.1 h with rfl | h
    · omega
    · have := ih h; omega
theorem exNs_len (l : List Ex) : 6 * l.length ≤ exNs l := by
  induction l with
  | nil => simp
  | cons a r ih => rw [exNs_cons]; have := exN_eq a; simp; omega
theorem kid_lt {e k : Ex} (h : k ∈ e.kids) : exN k < exN e := by
  have := exNs_mem h; have := exN_eq e; omega

theorem name_lim {e : Ex} (h : exN e ≤ BIG) : e.name.length ≤ LIM := by have := exN_eq e; exact big_lim (by omega)

/-- to show something of an expression, while it holds of its kids -/
theorem exInd {p : Ex → Prop} (h : ∀ e, (∀ k ∈ e.kids, p k) → p e) : ∀ e, p e := by
  have : ∀ n e, exN e ≤ n → p e := by
    intro n
    induction n with
    | zero => intro e he; have := exN_eq e; omega
    | succ n ih => intro e he; exact h e fun k hk => ih k (by have := kid_lt hk; omega)
  exact fun e => this _ e (Nat.le_refl _)

theorem exIndB {p : Ex → Prop} (h : ∀ e, exN e ≤ BIG → (∀ k ∈ e.kids, p k) → p e) : ∀ e, exN e ≤ BIG → p e := by
  intro e
  refine exInd (p := fun e => exN e ≤ BIG → p e) (fun e ih hb => h e hb fun k hk => ih k hk ?_) e
  have := kid_lt hk; omega

/-! ### what the page says -/
def astKids (k : Int) : Int :=
  if k = 1 ∨ k = 2 ∨ k = 3 ∨ k = 5 ∨ k = 6 ∨ k = 7 ∨ k = 13 ∨ k = 21 then 0
  else if k = 11 ∨ k = 12 ∨ k = 18 ∨ k = 25 ∨ k = 22 ∨ k = 23 then 1
  else if k = 8 ∨ k = 9 ∨ k = 10 ∨ k = 14 ∨ k = 15 ∨ k = 16 ∨ k = 17 ∨ k = 19 ∨ k = 20 ∨ k = 24 then 2
  else if k = 4 then -1 else -2
def innerK (e : Ex) : List Ex := if e.kind = 4 then [] else e.kids
mutual
def depth : Ex → Nat
  | .mk k _ _ _ _ kids => (if k = 4 then 0 else depths kids) + 1
def depths : List Ex → Nat
  | [] => 0
  | e :: r => max (depth e) (depths r)
end

mutual
def size : Ex → Nat
  | .mk k _ _ _ _ kids => (if k = 4 then 0 else sizes kids) + 1
def sizes : List Ex → Nat
  | [] => 0
  | e :: r => size e + sizes r
end

def spanOK (e : Ex) : Bool := decide (0 ≤ e.lo) && (decide (e.lo ≤ e.hi) || decide (e.hi = -1))
/-- has one of them what its kind has? -/
def ownOK (e : Ex) : Bool :=
  if e.kind = 1 then decide (e.name = []) && decide (0 ≤ e.n) && decide (e.lo = 0) && decide (e.hi = 0)
  else if e.kind = 2 then decide (e.name = []) && decide (e.n = 0 ∨ e.n = 1) && decide (e.lo = 0) && decide (e.hi = 0)
  else if e.kind = 3 then plainB e.name && decide (e.n = 0) && decide (e.lo = 0) && decide (e.hi = 0)
  else if e.kind = 13 then nameB e.name && decide (e.n = 0) && decide (e.lo = 0) && decide (0 ≤ e.hi)
  else if e.kind = 5 ∨ e.kind = 6 ∨ e.kind = 21 then nameB e.name && decide (e.n = 0) && decide (e.lo = 0) && decide (e.hi = 0)
  else if e.kind = 22 ∨ e.kind = 23 ∨ e.kind = 24 then decide (e.name = []) && decide (e.n = 0) && spanOK e
  else decide (e.name = []) && decide (e.n = 0) && decide (e.lo = 0) && decide (e.hi = 0)
/-- may a text be one of a set's? -/
def textOK (k : Ex) : Bool := decide (k.kind = 3) && k.kids.isEmpty && ownOK k
def leS (a b : Txt) : Bool := Go.Op.bytesLess a b || a == b
def risesB : List Ex → Bool
  | [] => true
  | [_] => true
  | a :: b :: r => !leS b.name a.name && risesB (b :: r)
def setOK (l : List Ex) : Bool := l.all textOK && risesB l && decide (l.length ≤ 8)
mutual
def mayOK : Ex → Bool
  | .mk k s n lo hi kids => if k = 4 then ownOK (.mk k s n lo hi kids) && setOK kids else decide (astKids k = kids.length) && ownOK (.mk k s n lo hi kids) && mayOKs kids
def mayOKs : List Ex → Bool
  | [] => true
  | e :: r => mayOK e && mayOKs r
end

def astCheck (e : Ex) : Int := if 12 < depth e then 32 else if 64 < size e then 3 else if mayOK e then 0 else 12
def looksB (k : Int) : Bool := decide (k = 22 ∨ k = 23 ∨ k = 24 ∨ k = 25 ∨ k = 13)
mutual
def pastB : Ex → Bool
  | .mk k _ _ _ _ kids => looksB k || (if k = 4 then false else pastBs kids)
def pastBs : List Ex → Bool
  | [] => false
  | e :: r => pastB e || pastBs r
end

theorem depth_eq (e : Ex) : depth e = depths (innerK e) + 1 := by cases e; simp only [depth, innerK, Ex.kind, Ex.kids]; split <;> simp [depths, *]
theorem size_eq (e : Ex) : size e = sizes (innerK e) + 1 := by cases e; simp only [size, innerK, Ex.kind, Ex.kids]; split <;> simp [sizes, *]
theorem past_eq (e : Ex) : pastB e = (looksB e.kind || pastBs (innerK e)) := by cases e; simp only [pastB, innerK, Ex.kind, Ex.kids]; split <;> simp [pastBs, *]
theorem pastBs_any (l : List Ex) : pastBs l = l.any pastB := by
  induction l with
  | nil => rfl
  | cons a r ih => simp [pastBs, ih]
theorem may_eq (e : Ex) : mayOK e = if e.kind = 4 then ownOK e && setOK e.kids else decide (astKids e.kind = e.kids.length) && ownOK e && mayOKs e.kids := by cases e; rfl
theorem mayOKs_all (l : List Ex) : mayOKs l = l.all mayOK := by
  induction l with
  | nil => rfl
  | cons a r ih => simp [mayOKs, ih]
theorem inner_mem {e k : Ex} (h : k ∈ innerK e) : k ∈ e.kids := by
  unfold innerK at h; split at h
  · cases h
  · exact h
theorem inner_len (e : Ex) : (innerK e).length ≤ e.kids.length := by unfold innerK; split <;> simp
theorem depth_le (e : Ex) : depth e ≤ exN e := by
  refine exInd (p := fun e => depth e ≤ exN e) (fun e ih => ?_) e
  have key : ∀ l : List Ex, (∀ k ∈ l, depth k ≤ exN k) → depths l ≤ exNs l := by
    intro l
    induction l with
    | nil => intro _; exact Nat.le_refl _
    | cons a r ihr =>
      intro hl
      have h1 := hl a (by simp)
      have h2 := ihr fun k hk => hl k (by simp [hk])
      rw [exNs_cons]; simp only [depths]; omega
  have := exN_eq e
  rw [depth_eq]
  have h := key (innerK e) fun k hk => ih k (inner_mem hk)
  have : exNs (innerK e) ≤ exNs e.kids := by unfold innerK; split <;> simp [exNs_nil]
  omega
theorem sizes_le {l : List Ex} (h : ∀ k ∈ l, size k ≤ exN k) : sizes l ≤ exNs l := by
  induction l with
  | nil => exact Nat.le_refl _
  | cons a r ihr =>
    have h1 := h a (by simp)
    have h2 := ihr fun k hk => h k (by simp [hk])
    rw [exNs_cons]; simp only [sizes]; omega
theorem sizes_app (l r : List Ex) : sizes (l ++ r) = sizes l + sizes r := by
  induction l with
  | nil => simp [sizes]
  | cons x l ih => simp only [List.cons_append, sizes, ih]; omega
theorem sizes_take {l : List Ex} {i : Nat} (hi : i < l.length) : sizes (l.take (i + 1)) = sizes (l.take i) + size l[i] := by
  rw [List.take_succ_eq_append_getElem hi, sizes_app]; simp [sizes]
theorem sizes_take_le (l : List Ex) (i : Nat) : sizes (l.take i) ≤ sizes l := by
  have := sizes_app (l.take i) (l.drop i)
  rw [List.take_append_drop] at this; omega
theorem size_le (e : Ex) : size e ≤ exN e := by
  refine exInd (p := fun e => size e ≤ exN e) (fun e ih => ?_) e
  have := exN_eq e
  rw [size_eq]
  have h := sizes_le (l := innerK e) fun k hk => ih k (inner_mem hk)
  have : exNs (innerK e) ≤ exNs e.kids := by unfold innerK; split <;> simp [exNs_nil]
  omega

/-! ### walks -/
theorem run_Kids (k : Int) : R F_ast_Kids [.d (.int .i64 k)] [] = some (.d (.int .i64 (astKids k)), []) := by
  refine R_of at_ast_Kids (by decide) ?_
  simp -implicitDefEqProofs [code_ast_Kids, astKids]
theorem run_inner (e : Ex) : R F_ast_inner [exA e] [] = some (exS (innerK e), []) := by
  refine R_of at_ast_inner (by decide) ?_
  simp -implicitDefEqProofs [code_ast_inner, innerK, map_ite]
theorem run_span (e : Ex) : R F_ast_span [exA e] [] = some (.d (.bool (spanOK e)), []) := by
  refine R_of at_ast_span (by decide) ?_
  simp -implicitDefEqProofs [code_ast_span, spanOK]
theorem run_own (e : Ex) (hb : exN e ≤ BIG) : R F_ast_own [exA e] [] = some (.d (.bool (ownOK e)), []) := by
  refine R_of at_ast_own (by decide) ?_
  have h1 := run_lexPlain e.name (name_lim hb)
  have h2 := run_lexName e.name (name_lim hb)
  simp -implicitDefEqProofs [code_ast_own, ownOK, run_span, h1, h2]
  grind

theorem run_IndexEx (l : List Ex) (hl : l.length ≤ BIG) (f : Nat) (hf : own f = false) (p : Ex → Bool) (hp : ∀ e ∈ l, R f [exA e] [] = some (.d (.bool (p e)), [])) :
    R F_slices_IndexFunc_api_Expr_api_Expr [exS l, .fn f []] [] = some (.d (.int .i64 (idxK p l)), []) := by
  refine R_of at_slices_IndexFunc_api_Expr_api_Expr (by decide) ?_
  unfold BIG at hl
  have hL := loop_find (X := X) (mask := mask_slices_IndexFunc_api_Expr_api_Expr_0) (body := body_slices_IndexFunc_api_Expr_api_Expr_0) l
    (fun i => ⟨mkE 19 [(0, exS l), (1, .fn f []), (7, .d (.int .i64 l.length)), (8, .d (.int .i64 i))], []⟩)
    (fun _ => p) (.exit 0, ⟨mkE 19 [], []⟩) (fun i _ => (.ret, ⟨mkE 19 [(4, .d (.int .i64 i))], []⟩)) (by simp) (by simp)
    (fun i e hi he hq => by
      have hw := wrap_ok (a := (i : Int) + 1) (by omega) (by omega)
      have hc := hp e (he ▸ List.getElem_mem hi)
      simp -implicitDefEqProofs [body_slices_IndexFunc_api_Expr_api_Expr_0, mask_slices_IndexFunc_api_Expr_api_Expr_0, hi, he, hc, hf, hq, hw])
    (fun i e hi he hq => by
      have hc := hp e (he ▸ List.getElem_mem hi)
      simp -implicitDefEqProofs [body_slices_IndexFunc_api_Expr_api_Expr_0, hi, he, hc, hf, hq]) (by simp -implicitDefEqProofs [body_slices_IndexFunc_api_Expr_api_Expr_0])
  simp -implicitDefEqProofs [code_slices_IndexFunc_api_Expr_api_Expr]
  rw [hL _ (by simp [mask_slices_IndexFunc_api_Expr_api_Expr_0])]
  unfold idxK
  cases findI (fun _ => p) l 0 <;> simp -implicitDefEqProofs

theorem run_ContainsEx (l : List Ex) (hl : l.length ≤ BIG) (f : Nat) (hf : own f = false) (p : Ex → Bool) (hp : ∀ e ∈ l, R f [exA e] [] = some (.d (.bool (p e)), [])) :
    R F_slices_ContainsFunc_api_Expr_api_Expr [exS l, .fn f []] [] = some (.d (.bool (l.any p)), []) := by
  refine R_of at_slices_ContainsFunc_api_Expr_api_Expr (by decide) ?_
  have h := run_IndexEx l hl f hf p hp
  simp -implicitDefEqProofs [code_slices_ContainsFunc_api_Expr_api_Expr, h, idxK_any]

theorem run_Depth : ∀ (e : Ex), exN e ≤ BIG → R F_ast_Depth [exA e] [] = some (.d (.int .i64 (depth e)), []) := by
  refine exIndB fun e hb IH => ?_
  refine R_of at_ast_Depth (by decide) ?_
  have hlen : (innerK e).length ≤ BIG := by have := inner_len e; have := exNs_len e.kids; have := exN_eq e; omega
  have hd := depth_le e
  rw [depth_eq] at hd
  unfold BIG at hb hlen
  have hL := loop_fold (X := X) (mask := mask_ast_Depth_0) (body := body_ast_Depth_0) (innerK e) (fun i (a : Nat) => ⟨mkE 20 [(3, .d (.int .i64 a)), (7, exS (innerK e)), (8, .d (.int .i64 (innerK e).length)), (9, .d (.int .i64 i))], []⟩) (fun _ _ => True)
    (fun _ a e => max a (depth e)) (fun a => (.exit 0, ⟨mkE 20 [(3, .d (.int .i64 a))], []⟩)) (by simp) (fun i a k hi hk _ => by
      have hc := IH k (inner_mem (hk ▸ List.getElem_mem hi))
      have hw := wrap_ok (a := (i : Int) + 1) (by omega) (by omega)
      simp -implicitDefEqProofs [body_ast_Depth_0, mask_ast_Depth_0, hi, hk, hc, hw]
      refine mk_eq ?_
      simp
      split <;> omega) (fun a _ => by simp -implicitDefEqProofs [body_ast_Depth_0]) 0 trivial
  have hf : ∀ (l : List Ex) (i a : Nat), foldI (fun _ a e => max a (depth e)) l i a = max a (depths l) := by
    intro l
    induction l with
    | nil => intro i a; simp [depths]
    | cons x r ih => intro i a; rw [foldI_cons, ih]; simp [depths, Nat.max_assoc]
  have hw := wrap_ok (a := (depths (innerK e) : Int) + 1) (by omega) (by omega)
  simp -implicitDefEqProofs [code_ast_Depth, run_inner]
  rw [hL _ (by simp [mask_ast_Depth_0]), hf, depth_eq]
  simp -implicitDefEqProofs [hw]

theorem run_Size : ∀ (e : Ex), exN e ≤ BIG → R F_ast_Size [exA e] [] = some (.d (.int .i64 (size e)), []) := by
  refine exIndB fun e hb IH => ?_
  refine R_of at_ast_Size (by decide) ?_
  have hlen : (innerK e).length ≤ BIG := by have := inner_len e; have := exNs_len e.kids; have := exN_eq e; omega
  have hd := size_le e
  have hss : ∀ i, sizes ((innerK e).take i) ≤ sizes (innerK e) := by
    intro i
    have : ∀ (l : List Ex) (i : Nat), sizes (l.take i) ≤ sizes l := by
      intro l
      induction l with
      | nil => intro i; simp
      | cons a r ih => intro i; cases i with
        | zero => simp [sizes]
        | succ i => simp only [List.take_succ_cons, sizes]; have := ih i; omega
    exact this _ i
  rw [size_eq] at hd
  unfold BIG at hb hlen
  have hL := loop_fold (X := X) (mask := mask_ast_Size_0) (body := body_ast_Size_0) (innerK e) (fun i (a : Nat) => ⟨mkE 19 [(3, .d (.int .i64 a)), (7, exS (innerK e)), (8, .d (.int .i64 (innerK e).length)), (9, .d (.int .i64 i))], []⟩)
    (fun i a => a = sizes ((innerK e).take i) + 1) (fun _ a e => a + size e) (fun a => (.exit 0, ⟨mkE 19 [(3, .d (.int .i64 a))], []⟩)) (by simp) (fun i a k hi hk hI => by
      have hc := IH k (inner_mem (hk ▸ List.getElem_mem hi))
      have hw := wrap_ok (a := (i : Int) + 1) (by omega) (by omega)
      have hI' : a + size k = sizes ((innerK e).take (i + 1)) + 1 := by
        rw [List.take_succ_eq_append_getElem hi, hk]
        have : ∀ l r : List Ex, sizes (l ++ r) = sizes l + sizes r := by
          intro l r
          induction l with
          | nil => simp [sizes]
          | cons x l ih => simp only [List.cons_append, sizes, ih]; omega
        rw [this]; simp only [sizes]; omega
      refine ⟨hI', ?_⟩
      have hw2 := wrap_ok (a := (a : Int) + size k) (by omega) (by have := hss (i + 1); omega)
      simp -implicitDefEqProofs [body_ast_Size_0, mask_ast_Size_0, hi, hk, hc, hw, hw2]) (fun a _ => by simp -implicitDefEqProofs [body_ast_Size_0]) 1 (by simp [sizes])
  have hf : ∀ (l : List Ex) (i a : Nat), foldI (fun _ a e => a + size e) l i a = a + sizes l := by
    intro l
    induction l with
    | nil => intro i a; simp [sizes]
    | cons x r ih => intro i a; rw [foldI_cons, ih]; simp [sizes, Nat.add_assoc]
  simp -implicitDefEqProofs [code_ast_Size, run_inner]
  rw [hL _ (by simp [mask_ast_Size_0]), hf, size_eq]
  simp -implicitDefEqProofs
  omega

theorem run_Past : ∀ (e : Ex), exN e ≤ BIG → R F_ast_Past [exA e] [] = some (.d (.bool (pastB e)), []) := by
  refine exIndB fun e hb IH => ?_
  refine R_of at_ast_Past (by decide) ?_
  have hlen : (innerK e).length ≤ BIG := by have := inner_len e; have := exNs_len e.kids; have := exN_eq e; omega
  have hc := run_ContainsEx (innerK e) hlen F_ast_Past rfl pastB fun k hk => IH k (inner_mem hk)
  rw [past_eq, pastBs_any]
  simp -implicitDefEqProofs [code_ast_Past, run_inner, hc, looksB]

theorem risesB_iff : ∀ (l : List Ex), risesB l = true ↔ ∀ (i : Nat) (a b : Ex), l[i]? = some a → l[i + 1]? = some b → leS b.name a.name = false
  | [] => by simp [risesB]
  | [x] => by simp [risesB]
  | x :: y :: r => by
    simp only [risesB, Bool.and_eq_true, Bool.not_eq_true']
    rw [risesB_iff (y :: r)]
    constructor
    · intro ⟨h1, h2⟩ i a b ha hb
      cases i with
      | zero => simp at ha hb; subst ha; subst hb; exact h1
      | succ i => exact h2 i a b (by simpa using ha) (by simpa using hb)
    · intro h
      exact ⟨h 0 x y rfl rfl, fun i a b ha hb => h (i + 1) a b (by simpa using ha) (by simpa using hb)⟩

theorem textOK_may {k : Ex} (h : k.kind = 3) : textOK k = mayOK k := by
  rw [may_eq, mayOKs_all]
  unfold textOK
  cases hk : k.kids with
  | nil => simp [h, astKids]
  | cons a r => simp [h, astKids]; omega

/-- is one of a set's texts out of place? -/
def setBad (l : List Ex) (i : Nat) (k : Ex) : Bool := !decide (k.kind = 3) || !mayOK k || (decide (0 < i) && match l[i - 1]? with | some p => leS k.name p.name | none => false)

theorem setOK_find (l : List Ex) : setOK l = ((findI (setBad l) l 0).isNone && decide (l.length ≤ 8)) := by
  unfold setOK
  congr 1
  rw [Bool.eq_iff_iff, Bool.and_eq_true, Option.isNone_iff_eq_none, findI_none, List.all_eq_true, risesB_iff]
  constructor
  · intro ⟨h1, h2⟩ i k hk
    have hm := h1 k (List.mem_of_getElem? hk)
    have hk3 : k.kind = 3 := by unfold textOK at hm; simp at hm; exact hm.1.1
    rw [textOK_may hk3] at hm
    simp only [setBad, hk3, hm, Nat.zero_add, decide_true, Bool.not_true, Bool.false_or]
    cases i with
    | zero => rfl
    | succ i =>
      simp only [Nat.zero_lt_succ, decide_true, Bool.true_and, Nat.add_sub_cancel]
      cases hp : l[i]? with
      | none => rfl
      | some p => exact h2 i p k hp hk
  · intro h
    refine ⟨fun k hk => ?_, fun i a b ha hb => ?_⟩
    · obtain ⟨i, hi⟩ := List.getElem?_of_mem hk
      have := h i k hi
      simp only [setBad, Bool.or_eq_false_iff, Bool.not_eq_false'] at this
      have h3 : k.kind = 3 := by simpa using this.1.1
      rw [textOK_may h3]; exact this.1.2
    · have := h (i + 1) b hb
      simp only [setBad, Bool.or_eq_false_iff, Nat.zero_add, Nat.zero_lt_succ, decide_true, Bool.true_and, Nat.add_sub_cancel, ha] at this
      exact this.2

theorem run_texts (l : List Ex) (hl : l.length ≤ BIG) (IH : ∀ k ∈ l, R F_ast_may [exA k] [] = some (.d (.bool (mayOK k)), [])) : R F_ast_texts [exS l] [] = some (.d (.bool (setOK l)), []) := by
  refine R_of at_ast_texts (by decide) ?_
  unfold BIG at hl
  have hL := loop_find (X := X) (mask := mask_ast_texts_0) (body := body_ast_texts_0) l (fun i => ⟨mkE 39 [(0, exS l), (5, exS l), (6, .d (.int .i64 l.length)), (7, .d (.int .i64 i))], []⟩)
    (setBad l) (.exit 0, ⟨mkE 39 [(0, exS l)], []⟩) (fun i b => (.ret, ⟨mkE 39 [(2, .d (.bool false))], []⟩)) (by simp) (by simp)
    (fun i k hi hk hp => by
      have hw := wrap_ok (a := (i : Int) + 1) (by omega) (by omega)
      have hc := IH k (hk ▸ List.getElem_mem hi)
      simp only [setBad, Bool.or_eq_false_iff, Bool.not_eq_false', decide_eq_true_eq] at hp
      obtain ⟨⟨h1, h2⟩, h3⟩ := hp
      cases i with
      | zero =>
        have hw1 := wrap_ok (a := 1) (by omega) (by omega)
        simp -implicitDefEqProofs [body_ast_texts_0, mask_ast_texts_0, hi, hk, hc, eq_true h1, h2, hw1]
      | succ j =>
        have hj : j < l.length := by omega
        have hw2 := wrap_ok (a := ((j + 1 : Nat) : Int) - 1) (by omega) (by omega)
        simp at h3
        simp -implicitDefEqProofs [hj, leS] at h3
        simp -implicitDefEqProofs at hw
        have hpos : (0 : Int) < (j : Int) + 1 := by omega
        have hge : (0 : Int) ≤ (j : Int) + 1 := by omega
        have ht : ((j : Int) + 1).toNat = j + 1 := by omega
        have ha : (j : Int) + 1 - 1 = j := by omega
        have hi' : (j : Int) + 1 < l.length := by omega
        simp -implicitDefEqProofs [ha] at hw2
        simp -implicitDefEqProofs [body_ast_texts_0, mask_ast_texts_0, hi, hi', hj, hk, hc, eq_true h1, h2, h3, hw, hw2, hpos, hge, ht, ha])
    (fun i k hi hk hp => by
      have hc := IH k (hk ▸ List.getElem_mem hi)
      by_cases h1 : k.kind = 3
      · by_cases h2 : mayOK k = true
        · cases i with
          | zero => simp [setBad, h1, h2] at hp
          | succ j =>
            have hj : j < l.length := by omega
            have hw2 := wrap_ok (a := ((j + 1 : Nat) : Int) - 1) (by omega) (by omega)
            have hpos : (0 : Int) < (j : Int) + 1 := by omega
            have hge : (0 : Int) ≤ (j : Int) + 1 := by omega
            have ht : ((j : Int) + 1).toNat = j + 1 := by omega
            have ha : (j : Int) + 1 - 1 = j := by omega
            have hi' : (j : Int) + 1 < l.length := by omega
            simp -implicitDefEqProofs [ha] at hw2
            simp -implicitDefEqProofs [setBad, h1, h2, hj, leS] at hp
            simp -implicitDefEqProofs [body_ast_texts_0, hi, hi', hj, hk, hc, eq_true h1, h2, hw2, hpos, hge, ht, ha, hp]
        · simp -implicitDefEqProofs [body_ast_texts_0, hi, hk, hc, eq_true h1, h2]
      · simp -implicitDefEqProofs [body_ast_texts_0, hi, hk, hc, h1]) (by simp -implicitDefEqProofs [body_ast_texts_0])
  rw [setOK_find]
  simp -implicitDefEqProofs [code_ast_texts]
  rw [hL _ (by simp [mask_ast_texts_0])]
  cases findI (setBad l) l 0 with
  | none => simp -implicitDefEqProofs; omega
  | some q => simp -implicitDefEqProofs

theorem run_may : ∀ (e : Ex), exN e ≤ BIG → R F_ast_may [exA e] [] = some (.d (.bool (mayOK e)), []) := by
  refine exIndB fun e hb IH => ?_
  refine R_of at_ast_may (by decide) ?_
  have hlen : e.kids.length ≤ BIG := by have := exNs_len e.kids; have := exN_eq e; omega
  have h1 := run_own e hb
  have h2 := run_texts e.kids hlen IH
  have h3 : ∀ k ∈ e.kids, R F_ast_may_1 [exA k] [] = some (.d (.bool (!mayOK k)), []) := by
    intro k hk
    refine R_of at_ast_may_1 (by decide) ?_
    have := IH k hk
    simp -implicitDefEqProofs [code_ast_may_1, this]
  have h4 := run_ContainsEx e.kids hlen F_ast_may_1 rfl (fun k => !mayOK k) h3
  rw [may_eq, mayOKs_all]
  have h5 : (e.kids.any fun k => !mayOK k) = !e.kids.all mayOK := by simp [List.any_eq_not_all_not]
  rw [h5] at h4
  by_cases hk : e.kind = 4
  · simp -implicitDefEqProofs [code_ast_may, eq_true hk, h1, h2]
  · by_cases ha : astKids e.kind = e.kids.length
    · simp -implicitDefEqProofs [code_ast_may, hk, h1, run_Kids, eq_true ha, h4]
    · simp -implicitDefEqProofs [code_ast_may, hk, h1, run_Kids, ha]

theorem run_Check (e : Ex) (hb : exN e ≤ BIG) : R F_ast_Check [exA e] [] = some (.d (.int .i64 (astCheck e)), []) := by
  refine R_of at_ast_Check (by decide) ?_
  have h1 := run_Depth e hb
  have h2 := run_Size e hb
  have h3 := run_may e hb
  simp -implicitDefEqProofs [code_ast_Check, h1, h2, h3, astCheck]
  grind
end Bz.S
