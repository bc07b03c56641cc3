/- Tables held against each other, and expressions out of tables (the program's table.Back, the page's ref13.Back), walked. -/
import Derived.Test.YtfhkjoebkiigoaaTab
set_option linter.unusedSimpArgs false
set_option linter.unusedVariables false
namespace Bz.S
open Go Bz
set_option maxRecDepth 10000
set_option maxHeartbeats 4000000

theorem find_diff13 {α : Type} [DecidableEq α] {a b : List α} (h : a.length = b.length) : findI (fun i x => decide (¬ b[i]? = some x)) a 0 = none ↔ a = b := by
  rw [findI_none]
  constructor
  · intro hF
    apply List.ext_getElem h
    intro i h1 h2
    have := hF i a[i] (by simp [h1])
    rw [Nat.zero_add] at this
    simp [h2] at this
    exact this.symm
  · rintro rfl k x hx
    rw [Nat.zero_add]
    simp [hx]

theorem run_EqualI (a b : List Int) (ha : a.length ≤ BIG) (hb : b.length ≤ BIG) : R F_slices_Equal_int_int [i6S a, i6S b] [] = some (.d (.bool (decide (a = b))), []) := by
  refine R_of at_slices_Equal_int_int (by decide) ?_
  unfold BIG at ha hb
  by_cases hl : a.length = b.length
  · have hli : (a.length : Int) = b.length := by omega
    have hL := loop_find (X := X) (mask := mask_slices_Equal_int_int_0) (body := body_slices_Equal_int_int_0) a
      (fun i => ⟨mkE 26 [(0, i6S a), (1, i6S b), (12, .d (.int .i64 a.length)), (13, .d (.int .i64 i))], []⟩)
      (fun i x => decide (¬ b[i]? = some x)) (.exit 0, ⟨mkE 26 [], []⟩) (fun i _ => (.ret, ⟨mkE 26 [(4, .d (.bool false))], []⟩)) (by simp) (by simp)
      (fun i e hi he hq => by
        have hj : i < b.length := by omega
        have hw := wrap_ok (a := (i : Int) + 1) (by omega) (by omega)
        simp only [List.getElem?_eq_getElem hj] at hq
        have hq' : b[i] = e := by simpa using hq
        simp -implicitDefEqProofs [body_slices_Equal_int_int_0, mask_slices_Equal_int_int_0, hi, he, hj, hq', hw])
      (fun i e hi he hq => by
        have hj : i < b.length := by omega
        simp only [List.getElem?_eq_getElem hj] at hq
        have hq' : ¬ e = b[i] := fun h => by rw [h] at hq; simp at hq
        simp -implicitDefEqProofs [body_slices_Equal_int_int_0, mask_slices_Equal_int_int_0, hi, he, hj, hq']) (by simp -implicitDefEqProofs [body_slices_Equal_int_int_0])
    simp -implicitDefEqProofs [code_slices_Equal_int_int, hli]
    rw [hL _ (by simp -implicitDefEqProofs [mask_slices_Equal_int_int_0, hli])]
    have hd := find_diff13 hl
    cases hF : findI (fun i x => decide (¬ b[i]? = some x)) a 0 with
    | none =>
      have := hd.1 hF
      simp -implicitDefEqProofs [this]
    | some q =>
      have : ¬ a = b := fun h => by rw [hd.2 h] at hF; cases hF
      simp -implicitDefEqProofs [this]
  · have hli : ¬ (a.length : Int) = b.length := by omega
    have : ¬ a = b := fun h => hl (by rw [h])
    simp -implicitDefEqProofs [code_slices_Equal_int_int, hli, this]
theorem run_EqualS (a b : List Txt) (ha : a.length ≤ BIG) (hb : b.length ≤ BIG) : R F_slices_Equal_string_string [sxS a, sxS b] [] = some (.d (.bool (decide (a = b))), []) := by
  refine R_of at_slices_Equal_string_string (by decide) ?_
  unfold BIG at ha hb
  by_cases hl : a.length = b.length
  · have hli : (a.length : Int) = b.length := by omega
    have hL := loop_find (X := X) (mask := mask_slices_Equal_string_string_0) (body := body_slices_Equal_string_string_0) a
      (fun i => ⟨mkE 26 [(0, sxS a), (1, sxS b), (12, .d (.int .i64 a.length)), (13, .d (.int .i64 i))], []⟩)
      (fun i x => decide (¬ b[i]? = some x)) (.exit 0, ⟨mkE 26 [], []⟩) (fun i _ => (.ret, ⟨mkE 26 [(4, .d (.bool false))], []⟩)) (by simp) (by simp)
      (fun i e hi he hq => by
        have hj : i < b.length := by omega
        have hw := wrap_ok (a := (i : Int) + 1) (by omega) (by omega)
        simp only [List.getElem?_eq_getElem hj] at hq
        have hq' : b[i] = e := by simpa using hq
        simp -implicitDefEqProofs [body_slices_Equal_string_string_0, mask_slices_Equal_string_string_0, hi, he, hj, hq', hw])
      (fun i e hi he hq => by
        have hj : i < b.length := by omega
        simp only [List.getElem?_eq_getElem hj] at hq
        have hq' : ¬ e = b[i] := fun h => by rw [h] at hq; simp at hq
        simp -implicitDefEqProofs [body_slices_Equal_string_string_0, mask_slices_Equal_string_string_0, hi, he, hj, hq']) (by simp -implicitDefEqProofs [body_slices_Equal_string_string_0])
    simp -implicitDefEqProofs [code_slices_Equal_string_string, hli]
    rw [hL _ (by simp -implicitDefEqProofs [mask_slices_Equal_string_string_0, hli])]
    have hd := find_diff13 hl
    cases hF : findI (fun i x => decide (¬ b[i]? = some x)) a 0 with
    | none =>
      have := hd.1 hF
      simp -implicitDefEqProofs [this]
    | some q =>
      have : ¬ a = b := fun h => by rw [hd.2 h] at hF; cases hF
      simp -implicitDefEqProofs [this]
  · have hli : ¬ (a.length : Int) = b.length := by omega
    have : ¬ a = b := fun h => hl (by rw [h])
    simp -implicitDefEqProofs [code_slices_Equal_string_string, hli, this]

structure RwOK (r : Rw) : Prop where
  s : r.set.length ≤ BIG
  k : r.kids.length ≤ BIG

theorem run_tabSame (a b : Rw) (ha : RwOK a) (hb : RwOK b) : R F_table_same [rwA a, rwA b] [] = some (.d (.bool (decide (a = b))), []) := by
  refine R_of at_table_same (by decide) ?_
  have h1 := run_EqualS a.set b.set ha.s hb.s
  have h2 := run_EqualI a.kids b.kids ha.k hb.k
  obtain ⟨k, s, n, lo, hi, st, kd⟩ := a
  obtain ⟨k', s', n', lo', hi', st', kd'⟩ := b
  simp only at h1 h2
  by_cases c1 : k = k'
  · subst c1
    by_cases c2 : s = s'
    · subst c2
      by_cases c3 : n = n'
      · subst c3
        by_cases c4 : lo = lo'
        · subst c4
          by_cases c5 : hi = hi'
          · subst c5
            by_cases c6 : st = st'
            · subst c6
              simp -implicitDefEqProofs at h1
              simp -implicitDefEqProofs [code_table_same, h1, h2]
            · simp -implicitDefEqProofs [c6] at h1
              simp -implicitDefEqProofs [code_table_same, h1, c6]
          · simp -implicitDefEqProofs [code_table_same, c5]
        · simp -implicitDefEqProofs [code_table_same, c4]
      · simp -implicitDefEqProofs [code_table_same, c3]
    · simp -implicitDefEqProofs [code_table_same, c2]
  · simp -implicitDefEqProofs [code_table_same, c1]

theorem run_EqualRw (a b : List Rw) (ha : a.length ≤ BIG) (hb : b.length ≤ BIG) (hao : ∀ r ∈ a, RwOK r) (hbo : ∀ r ∈ b, RwOK r) :
    R F_slices_EqualFunc_table_Row_table_Row_table_Row_table_Row [rwS a, rwS b, .fn F_table_same []] [] = some (.d (.bool (decide (a = b))), []) := by
  refine R_of at_slices_EqualFunc_table_Row_table_Row_table_Row_table_Row (by decide) ?_
  unfold BIG at ha hb
  by_cases hl : a.length = b.length
  · have hli : (a.length : Int) = b.length := by omega
    have hL := loop_find (X := X) (mask := mask_slices_EqualFunc_table_Row_table_Row_table_Row_table_Row_0) (body := body_slices_EqualFunc_table_Row_table_Row_table_Row_table_Row_0) a
      (fun i => ⟨mkE 32 [(1, rwS b), (2, .fn F_table_same []), (15, rwS a), (16, .d (.int .i64 a.length)), (17, .d (.int .i64 i))], []⟩)
      (fun i x => decide (¬ b[i]? = some x)) (.exit 0, ⟨mkE 32 [], []⟩) (fun i _ => (.ret, ⟨mkE 32 [(6, .d (.bool false))], []⟩)) (by simp) (by simp)
      (fun i e hi he hq => by
        have hj : i < b.length := by omega
        have hw := wrap_ok (a := (i : Int) + 1) (by omega) (by omega)
        simp only [List.getElem?_eq_getElem hj] at hq
        have hq' : b[i] = e := by simpa using hq
        have hs := run_tabSame e e (hao e (he ▸ List.getElem_mem hi)) (hao e (he ▸ List.getElem_mem hi))
        simp -implicitDefEqProofs at hs
        simp -implicitDefEqProofs [body_slices_EqualFunc_table_Row_table_Row_table_Row_table_Row_0, mask_slices_EqualFunc_table_Row_table_Row_table_Row_table_Row_0, hi, he, hj, hq', hw, hs])
      (fun i e hi he hq => by
        have hj : i < b.length := by omega
        simp only [List.getElem?_eq_getElem hj] at hq
        have hq' : ¬ e = b[i] := fun h => by rw [h] at hq; simp at hq
        have hs := run_tabSame e b[i] (hao e (he ▸ List.getElem_mem hi)) (hbo _ (List.getElem_mem hj))
        simp -implicitDefEqProofs [hq'] at hs
        simp -implicitDefEqProofs [body_slices_EqualFunc_table_Row_table_Row_table_Row_table_Row_0, mask_slices_EqualFunc_table_Row_table_Row_table_Row_table_Row_0, hi, he, hj, hs]) (by simp -implicitDefEqProofs [body_slices_EqualFunc_table_Row_table_Row_table_Row_table_Row_0])
    simp -implicitDefEqProofs [code_slices_EqualFunc_table_Row_table_Row_table_Row_table_Row, hli]
    rw [hL _ (by simp -implicitDefEqProofs [mask_slices_EqualFunc_table_Row_table_Row_table_Row_table_Row_0, hli])]
    have hd := find_diff13 hl
    cases hF : findI (fun i x => decide (¬ b[i]? = some x)) a 0 with
    | none =>
      have := hd.1 hF
      simp -implicitDefEqProofs [this]
    | some q =>
      have : ¬ a = b := fun h => by rw [hd.2 h] at hF; cases hF
      simp -implicitDefEqProofs [this]
  · have hli : ¬ (a.length : Int) = b.length := by omega
    have : ¬ a = b := fun h => hl (by rw [h])
    simp -implicitDefEqProofs [code_slices_EqualFunc_table_Row_table_Row_table_Row_table_Row, hli, this]

theorem run_plExpr : ∀ (e : Ex), exN e ≤ BIG → R F_plain_Expr [exA e, exA e] [] = some (.d (.bool true), []) := by
  refine exIndB fun e hb IH => ?_
  refine R_of at_plain_Expr (by decide) ?_
  have hlen : e.kids.length ≤ BIG := by have := exNs_len e.kids; have := exN_eq e; omega
  unfold BIG at hlen
  have hL := loop_fold (σ := Unit) (X := X) (mask := mask_plain_Expr_0) (body := body_plain_Expr_0) e.kids
    (fun i _ => ⟨mkE 67 [(2, .pv 10000 0), (3, .pv 10010 0), (5, .d (.int .i64 i))], [(10000, .var (exV e)), (10010, .var (exV e))]⟩)
    (fun _ _ => True) (fun _ _ _ => ()) (fun _ => (.exit 0, ⟨mkE 67 [], []⟩)) (by simp)
    (fun i _ k hi hk _ => by
      have hw := wrap_ok (a := (i : Int) + 1) (by omega) (by omega)
      have hc := IH k (hk ▸ List.getElem_mem hi)
      refine ⟨trivial, ?_⟩
      simp -implicitDefEqProofs [body_plain_Expr_0, mask_plain_Expr_0, hi, hk, hw, hc]) (fun a _ => by simp -implicitDefEqProofs [body_plain_Expr_0]) () trivial
  simp -implicitDefEqProofs [code_plain_Expr]
  rw [hL _ (by simp -implicitDefEqProofs [mask_plain_Expr_0])]
  simp -implicitDefEqProofs

theorem run_Clone : ∀ (e : Ex), exN e ≤ BIG → R F_ast_Clone [exA e] [] = some (exA e, []) := by
  refine exIndB fun e hb IH => ?_
  refine R_of at_ast_Clone (by decide) ?_
  have hlen : e.kids.length ≤ BIG := by have := exNs_len e.kids; have := exN_eq e; omega
  unfold BIG at hlen
  have hL := loop_fold (X := X) (mask := mask_ast_Clone_0) (body := body_ast_Clone_0) e.kids
    (fun i (a : List Ex) => ⟨mkE 22 [(1, .pv 10000 0), (2, .pv 10010 0), (3, .os 10000030 a.length 0 a.length), (7, exS e.kids), (8, .d (.int .i64 e.kids.length)), (9, .d (.int .i64 i))],
      [(10000, .var (exV e)), (10010, .var [.d (.int .i64 0), .d (.str []), .d (.int .i64 0), .d (.int .i64 0), .d (.int .i64 0), .d (.vs true [])]), (10000030, .arr 6 (a.map exC))]⟩)
    (fun i a => a.length = i) (fun _ a k => a ++ [k])
    (fun a => (.exit 0, ⟨mkE 22 [(1, .pv 10000 0), (2, .pv 10010 0), (3, .os 10000030 a.length 0 a.length)],
      [(10000, .var (exV e)), (10010, .var [.d (.int .i64 0), .d (.str []), .d (.int .i64 0), .d (.int .i64 0), .d (.int .i64 0), .d (.vs true [])]), (10000030, .arr 6 (a.map exC))]⟩)) (by simp)
    (fun i a k hi hk hI => by
      have hw := wrap_ok (a := (i : Int) + 1) (by omega) (by omega)
      have hal : a.length + 1 ≤ LIM := by unfold LIM; omega
      have hc := IH k (hk ▸ List.getElem_mem hi)
      refine ⟨by simp [hI], ?_⟩
      simp -implicitDefEqProofs [body_ast_Clone_0, mask_ast_Clone_0, hi, hk, hw, hc, hal]) (fun a _ => by simp -implicitDefEqProofs [body_ast_Clone_0]) [] rfl
  have hf : ∀ (l : List Ex) (i : Nat) (a : List Ex), foldI (fun _ a r => a ++ [r]) l i a = a ++ l := by
    intro l
    induction l with
    | nil => intro i a; simp
    | cons x r ih => intro i a; rw [foldI_cons, ih]; simp
  rw [hf, List.nil_append] at hL
  simp -implicitDefEqProofs [code_ast_Clone]
  rw [hL _ (by simp -implicitDefEqProofs [mask_ast_Clone_0])]
  simp -implicitDefEqProofs
end Bz.S
