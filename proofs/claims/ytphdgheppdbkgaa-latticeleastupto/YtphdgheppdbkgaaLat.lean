/- Labels: lattice. -/
import Derived.Test.YtphdgheppdbkgaaCat
import Derived.Test.YtphdgheppdbkgaaLex
import Derived.Test.YtphdgheppdbkgaaPlV
set_option linter.unusedSimpArgs false
set_option linter.unusedVariables false
namespace Bz.S
open Go Bz
set_option maxRecDepth 10000
set_option maxHeartbeats 4000000

/-- lattice.Label -/
structure La where
  n : Int
  g : List Txt
  deriving DecidableEq
def laC (a : La) : List D := [.int .i64 a.n, .vs false (a.g.map stC)]
abbrev laA (a : La) : AV := .agg [.d (.int .i64 a.n), txS a.g]

theorem run_risingT (l : List Txt) (hl : l.length ≤ BIG) : R F_lattice_rising_string [.os 0 l.length 0 l.length] [(0, .arr 1 (l.map stC))] =
    some (.os 0 l.length 0 (setT l).length, [(0, .arr 1 ((compR (sortTx l)).map stC))]) := by
  refine R_of at_lattice_rising_string (by decide) ?_
  have h2 := run_SortTx l (big_lim hl)
  have e : (sortTx l).length = l.length := isort_len l
  have h3 := run_CompactTx (sortTx l) (by rw [e]; exact hl)
  rw [e] at h3
  simp -implicitDefEqProofs [code_lattice_rising_string, h2, h3, e, setT]

def joinL (a b : La) : La := ⟨if b.n > a.n then b.n else a.n, setT (a.g ++ b.g)⟩
def meetL (a b : La) : La := ⟨if b.n < a.n then b.n else a.n, setT (a.g.filter fun s => decide (s ∈ b.g))⟩

theorem run_Join (a b : La) (h : a.g.length + b.g.length ≤ BIG) : R F_lattice_Join [laA a, laA b] [] = some (laA (joinL a b), []) := by
  refine R_of at_lattice_Join (by decide) ?_
  obtain ⟨n, g⟩ := a
  obtain ⟨m, k⟩ := b
  simp only at h
  have h1 := run_Concat [g, k] (by unfold BIG; simp) (by simpa using h)
  have e : [g, k].flatten = g ++ k := by simp
  rw [e] at h1
  have h2 := run_risingT (g ++ k) (by simpa using h)
  have hs := setT_len (g ++ k)
  have e2 : (sortTx (g ++ k)).length = (g ++ k).length := isort_len _
  simp only [ccS, List.map_cons, List.map_nil, ccC_eq] at h1
  unfold joinL
  unfold setT at hs ⊢
  simp only
  generalize g ++ k = F at *
  have c1 : (compL (sortTx F)).length + (F.length - (compL (sortTx F)).length) = F.length := by omega
  simp -implicitDefEqProofs [code_lattice_Join, h1, h2, hs, c1, e2, setT]

theorem run_Meet (a b : La) (ha : a.g.length ≤ BIG) (hb : b.g.length ≤ BIG) : R F_lattice_Meet [laA a, laA b] [] = some (laA (meetL a b), []) := by
  refine R_of at_lattice_Meet (by decide) ?_
  obtain ⟨n, g⟩ := a
  obtain ⟨m, k⟩ := b
  simp only at ha hb
  have hb' := hb
  unfold BIG at ha hb
  have hL := loop_fold (X := X) (mask := mask_lattice_Meet_0) (body := body_lattice_Meet_0) g
    (fun i (out : List Txt) => ⟨mkE 32 [(2, .pv 10000 0), (3, .pv 10010 0), (4, .pv 10020 0), (5, .os 10000050 out.length 0 out.length), (9, txS g), (10, .d (.int .i64 g.length)), (11, .d (.int .i64 i))],
      [(10000, .var [.d (.int .i64 n), txS g]), (10010, .var [.d (.int .i64 m), txS k]), (10020, .var [.d (.int .i64 0), .d (.vs true [])]), (10000050, .arr 1 (out.map stC))]⟩)
    (fun i out => out.length ≤ i) (fun _ out x => if x ∈ k then out ++ [x] else out)
    (fun out => (.exit 0, ⟨mkE 32 [(2, .pv 10000 0), (3, .pv 10010 0), (4, .pv 10020 0), (5, .os 10000050 out.length 0 out.length)],
      [(10000, .var [.d (.int .i64 n), txS g]), (10010, .var [.d (.int .i64 m), txS k]), (10020, .var [.d (.int .i64 0), .d (.vs true [])]), (10000050, .arr 1 (out.map stC))]⟩)) (by simp)
    (fun i out x hi hx hI => by
      have hw := wrap_ok (a := (i : Int) + 1) (by omega) (by omega)
      have hc := run_ContainsTx k x hb'
      have g1 : out.length + 1 ≤ LIM := by unfold LIM; omega
      by_cases hm : x ∈ k
      · refine ⟨by rw [if_pos hm]; simp; omega, ?_⟩
        simp -implicitDefEqProofs [body_lattice_Meet_0, mask_lattice_Meet_0, hi, hx, hc, hm, hw, g1, stC_eq]
      · refine ⟨by rw [if_neg hm]; omega, ?_⟩
        simp -implicitDefEqProofs [body_lattice_Meet_0, mask_lattice_Meet_0, hi, hx, hc, hm, hw])
    (fun out hI => by simp -implicitDefEqProofs [body_lattice_Meet_0]) [] (Nat.le_refl _)
  have hf : ∀ (l : List Txt) (i : Nat) (out : List Txt), foldI (fun _ out x => if x ∈ k then out ++ [x] else out) l i out = out ++ l.filter fun s => decide (s ∈ k) := by
    intro l
    induction l with
    | nil => intro i out; simp
    | cons x r ih =>
      intro i out
      rw [foldI_cons, ih, List.filter_cons]
      by_cases hx : x ∈ k <;> simp [hx]
  rw [hf, List.nil_append] at hL
  have hF : (g.filter fun s => decide (s ∈ k)).length ≤ g.length := List.length_filter_le _ _
  have h2 := run_risingT (g.filter fun s => decide (s ∈ k)) (by unfold BIG; omega)
  have hs := setT_len (g.filter fun s => decide (s ∈ k))
  have e2 : (sortTx (g.filter fun s => decide (s ∈ k))).length = (g.filter fun s => decide (s ∈ k)).length := isort_len _
  unfold meetL
  unfold setT at hs ⊢
  simp only
  generalize (g.filter fun s => decide (s ∈ k)) = F at *
  have c1 : (compL (sortTx F)).length + (F.length - (compL (sortTx F)).length) = F.length := by omega
  simp -implicitDefEqProofs [code_lattice_Meet]
  rw [hL _ (by simp -implicitDefEqProofs [mask_lattice_Meet_0])]
  simp -implicitDefEqProofs [h2, hs, c1, e2, setT]

/-- is each of some in others? -/
def withinB (l m : List Txt) : Bool := l.all fun s => decide (s ∈ m)
theorem all_findI (p : Txt → Bool) (l : List Txt) : l.all p = (findI (fun _ e => !p e) l 0).isNone := by
  have := findI_any (fun e => !p e) l 0
  cases h : findI (fun _ e => !p e) l 0 with
  | none => rw [h] at this; simp at this ⊢; exact this
  | some q => rw [h] at this; simp at this ⊢; exact this

theorem run_within (l m : List Txt) (hl : l.length ≤ BIG) (hm : m.length ≤ BIG) : R F_lattice_within_string [txS l, txS m] [] = some (.d (.bool (withinB l m)), []) := by
  refine R_of at_lattice_within_string (by decide) ?_
  unfold BIG at hl
  have hL := loop_find (X := X) (mask := mask_lattice_within_string_0) (body := body_lattice_within_string_0) l
    (fun i => ⟨mkE 18 [(1, txS m), (7, txS l), (8, .d (.int .i64 l.length)), (9, .d (.int .i64 i))], []⟩)
    (fun _ e => !decide (e ∈ m)) (.exit 0, ⟨mkE 18 [], []⟩) (fun _ _ => (.ret, ⟨mkE 18 [(4, .d (.bool false))], []⟩)) (by simp) (by simp)
    (fun i e hi he hq => by
      have hw := wrap_ok (a := (i : Int) + 1) (by omega) (by omega)
      have hc := run_ContainsTx m e hm
      have hq' : e ∈ m := by simpa using hq
      simp -implicitDefEqProofs [body_lattice_within_string_0, mask_lattice_within_string_0, hi, he, hc, hq', hw])
    (fun i e hi he hq => by
      have hc := run_ContainsTx m e hm
      have hq' : ¬ e ∈ m := by simpa using hq
      simp -implicitDefEqProofs [body_lattice_within_string_0, hi, he, hc, hq']) (by simp -implicitDefEqProofs [body_lattice_within_string_0])
  unfold withinB
  rw [all_findI]
  simp -implicitDefEqProofs [code_lattice_within_string]
  rw [hL _ (by simp -implicitDefEqProofs [mask_lattice_within_string_0])]
  cases findI (fun _ e => !decide (e ∈ m)) l 0 <;> simp -implicitDefEqProofs

theorem run_law32_all (l m : List Txt) (hl : l.length ≤ BIG) (hm : m.length ≤ BIG) : R F_law32_all [txS l, txS m] [] = some (.d (.bool (withinB l m)), []) := by
  refine R_of at_law32_all (by decide) ?_
  unfold BIG at hl
  have hL := loop_find (X := X) (mask := mask_law32_all_0) (body := body_law32_all_0) l
    (fun i => ⟨mkE 19 [(0, txS l), (1, txS m), (5, .d (.int .i64 i))], []⟩)
    (fun _ e => !decide (e ∈ m)) (.exit 0, ⟨mkE 19 [], []⟩) (fun _ _ => (.ret, ⟨mkE 19 [(4, .d (.bool false))], []⟩)) (by simp) (by simp)
    (fun i e hi he hq => by
      have hw := wrap_ok (a := (i : Int) + 1) (by omega) (by omega)
      have hc := run_plIn m e hm
      have hq' : e ∈ m := by simpa using hq
      simp -implicitDefEqProofs [body_law32_all_0, mask_law32_all_0, hi, he, hc, hq', hw])
    (fun i e hi he hq => by
      have hc := run_plIn m e hm
      have hq' : ¬ e ∈ m := by simpa using hq
      simp -implicitDefEqProofs [body_law32_all_0, hi, he, hc, hq']) (by simp -implicitDefEqProofs [body_law32_all_0])
  unfold withinB
  rw [all_findI]
  simp -implicitDefEqProofs [code_law32_all]
  rw [hL _ (by simp -implicitDefEqProofs [mask_law32_all_0])]
  cases findI (fun _ e => !decide (e ∈ m)) l 0 <;> simp -implicitDefEqProofs

theorem run_law32_same (a b : La) (ha : a.g.length ≤ BIG) (hb : b.g.length ≤ BIG) : R F_law32_same [laA a, laA b] [] = some (.d (.bool (decide (a = b))), []) := by
  refine R_of at_law32_same (by decide) ?_
  obtain ⟨n, g⟩ := a
  obtain ⟨m, k⟩ := b
  have h := run_plTexts g k ha hb
  by_cases hn : n = m
  · subst hn
    simp -implicitDefEqProofs [code_law32_same, h]
  · have e : ¬ ((⟨n, g⟩ : La) = ⟨m, k⟩) := fun q => hn (by cases q; rfl)
    simp -implicitDefEqProofs [code_law32_same, h, hn, e]

/-- is a group no name, or not behind the one ahead of it? -/
def badG (g : List Txt) (i : Nat) (e : Txt) : Bool := !nameB e || (decide (0 < i) && !Op.bytesLess (g[i - 1]?.getD []) e)
def laCheck (a : La) : Int := if a.n < 0 ∨ 15 < a.n then 4 else if 8 < a.g.length then 3 else if (findI (badG a.g) a.g 0).isSome then 16 else 0

theorem run_LCheck (a : La) (hs : ∀ s ∈ a.g, s.length ≤ LIM) : R F_lattice_Check [laA a] [] = some (.d (.int .i64 (laCheck a)), []) := by
  refine R_of at_lattice_Check (by decide) ?_
  obtain ⟨n, g⟩ := a
  simp only at hs
  unfold laCheck
  simp only
  by_cases h1 : n < 0
  · simp -implicitDefEqProofs [code_lattice_Check, h1]
  by_cases h2 : 15 < n
  · simp -implicitDefEqProofs [code_lattice_Check, h1, h2]
  by_cases h3 : 8 < g.length
  · have h3' : (8 : Int) < g.length := by omega
    simp -implicitDefEqProofs [code_lattice_Check, h1, h2, h3, h3']
  have h3' : ¬ (8 : Int) < g.length := by omega
  have hL := loop_find (X := X) (mask := mask_lattice_Check_0) (body := body_lattice_Check_0) g
    (fun i => ⟨mkE 45 [(1, .pv 10000 0), (20, txS g), (21, .d (.int .i64 g.length)), (22, .d (.int .i64 i))], [(10000, .var [.d (.int .i64 n), txS g])]⟩)
    (badG g) (.exit 1, ⟨mkE 45 [], []⟩) (fun _ _ => (.ret, ⟨mkE 45 [(2, .d (.int .i64 16))], []⟩)) (by simp) (by simp)
    (fun i e hi he hq => by
      have hc := run_lexName e (hs e (he ▸ List.getElem_mem hi))
      unfold badG at hq
      rw [Bool.or_eq_false_iff] at hq
      have q1 : nameB e = true := by simpa using hq.1
      rw [q1] at hc
      cases i with
      | zero =>
        have hw := wrap_ok (a := (1 : Int)) (by omega) (by omega)
        simp -implicitDefEqProofs [body_lattice_Check_0, mask_lattice_Check_0, hi, he, hc, hw]
      | succ j =>
        have hj : j < g.length := by omega
        have q2 : (Op.bytesLess e g[j] || e == g[j]) = false := by
          rw [bl_leq]
          have := hq.2
          simpa [List.getElem?_eq_getElem hj] using this
        rw [Bool.or_eq_false_iff] at q2
        have hw := wrap_ok (a := (j : Int) + 1 + 1) (by omega) (by omega)
        have hw2 := wrap_ok (a := ((j : Int) + 1 - 1)) (by omega) (by omega)
        have p0 : (0 : Int) < (j : Int) + 1 := by omega
        have p1 : (0 : Int) ≤ (j : Int) + 1 := by omega
        have p2 : (j : Int) + 1 < g.length := by omega
        simp -implicitDefEqProofs at hw2
        simp -implicitDefEqProofs [body_lattice_Check_0, mask_lattice_Check_0, hi, hj, he, hc, hw, hw2, q2.1, q2.2, p0, p1, p2])
    (fun i e hi he hq => by
      have hc := run_lexName e (hs e (he ▸ List.getElem_mem hi))
      unfold badG at hq
      cases q1 : nameB e with
      | false =>
        rw [q1] at hc
        simp -implicitDefEqProofs [body_lattice_Check_0, hi, he, hc]
      | true =>
        rw [q1] at hc hq
        cases i with
        | zero => simp at hq
        | succ j =>
          have hj : j < g.length := by omega
          have q2 : (Op.bytesLess e g[j] || e == g[j]) = true := by
            rw [bl_leq]
            simpa [List.getElem?_eq_getElem hj] using hq
          have hw2 := wrap_ok (a := ((j : Int) + 1 - 1)) (by omega) (by omega)
          have p0 : (0 : Int) < (j : Int) + 1 := by omega
          have p1 : (0 : Int) ≤ (j : Int) + 1 := by omega
          have p2 : (j : Int) + 1 < g.length := by omega
          simp -implicitDefEqProofs at hw2 q2
          simp -implicitDefEqProofs [body_lattice_Check_0, hi, hj, he, hc, hw2, q2, p0, p1, p2]) (by simp -implicitDefEqProofs [body_lattice_Check_0])
  simp -implicitDefEqProofs [code_lattice_Check, h1, h2, h3, h3']
  rw [hL _ (by simp -implicitDefEqProofs [mask_lattice_Check_0])]
  cases findI (badG g) g 0 <;> simp -implicitDefEqProofs

theorem run_law32_may (a : La) (hs : ∀ s ∈ a.g, s.length ≤ LIM) : R F_law32_may [laA a] [] = some (.d (.int .i64 (laCheck a)), []) := by
  refine R_of at_law32_may (by decide) ?_
  obtain ⟨n, g⟩ := a
  simp only at hs
  unfold laCheck
  simp only
  by_cases h1 : n < 0
  · simp -implicitDefEqProofs [code_law32_may, h1]
  by_cases h2 : 15 < n
  · simp -implicitDefEqProofs [code_law32_may, h1, h2]
  by_cases h3 : 8 < g.length
  · have h3' : (8 : Int) < g.length := by omega
    simp -implicitDefEqProofs [code_law32_may, h1, h2, h3, h3']
  have h3' : ¬ (8 : Int) < g.length := by omega
  have hL := loop_find (X := X) (mask := mask_law32_may_0) (body := body_law32_may_0) g
    (fun i => ⟨mkE 48 [(1, .pv 10000 0), (3, .d (.int .i64 i))], [(10000, .var [.d (.int .i64 n), txS g])]⟩)
    (badG g) (.exit 0, ⟨mkE 48 [], []⟩) (fun _ _ => (.ret, ⟨mkE 48 [(2, .d (.int .i64 16))], []⟩)) (by simp) (by simp)
    (fun i e hi he hq => by
      have hc := run_refName e (hs e (he ▸ List.getElem_mem hi))
      unfold badG at hq
      rw [Bool.or_eq_false_iff] at hq
      have q1 : nameB e = true := by simpa using hq.1
      rw [q1] at hc
      cases i with
      | zero =>
        have hw := wrap_ok (a := (1 : Int)) (by omega) (by omega)
        simp -implicitDefEqProofs [body_law32_may_0, mask_law32_may_0, hi, he, hc, hw]
      | succ j =>
        have hj : j < g.length := by omega
        have q2 : (Op.bytesLess e g[j] || e == g[j]) = false := by
          rw [bl_leq]
          have := hq.2
          simpa [List.getElem?_eq_getElem hj] using this
        rw [Bool.or_eq_false_iff] at q2
        have hw := wrap_ok (a := (j : Int) + 1 + 1) (by omega) (by omega)
        have hw2 := wrap_ok (a := ((j : Int) + 1 - 1)) (by omega) (by omega)
        have p0 : (0 : Int) < (j : Int) + 1 := by omega
        have p1 : (0 : Int) ≤ (j : Int) + 1 := by omega
        have p2 : (j : Int) + 1 < g.length := by omega
        simp -implicitDefEqProofs at hw2
        simp -implicitDefEqProofs [body_law32_may_0, mask_law32_may_0, hi, hj, he, hc, hw, hw2, q2.1, q2.2, p0, p1, p2])
    (fun i e hi he hq => by
      have hc := run_refName e (hs e (he ▸ List.getElem_mem hi))
      unfold badG at hq
      cases q1 : nameB e with
      | false =>
        rw [q1] at hc
        simp -implicitDefEqProofs [body_law32_may_0, hi, he, hc]
      | true =>
        rw [q1] at hc hq
        cases i with
        | zero => simp at hq
        | succ j =>
          have hj : j < g.length := by omega
          have q2 : (Op.bytesLess e g[j] || e == g[j]) = true := by
            rw [bl_leq]
            simpa [List.getElem?_eq_getElem hj] using hq
          have hw2 := wrap_ok (a := ((j : Int) + 1 - 1)) (by omega) (by omega)
          have p0 : (0 : Int) < (j : Int) + 1 := by omega
          have p1 : (0 : Int) ≤ (j : Int) + 1 := by omega
          have p2 : (j : Int) + 1 < g.length := by omega
          simp -implicitDefEqProofs at hw2 q2
          simp -implicitDefEqProofs [body_law32_may_0, hi, hj, he, hc, hw2, q2, p0, p1, p2]) (by simp -implicitDefEqProofs [body_law32_may_0])
  simp -implicitDefEqProofs [code_law32_may, h1, h2, h3, h3']
  rw [hL _ (by simp -implicitDefEqProofs [mask_law32_may_0])]
  cases findI (badG g) g 0 <;> simp -implicitDefEqProofs

def underB (a b : La) : Bool := decide (a.n ≤ b.n) && withinB a.g b.g
theorem run_Under (a b : La) (ha : a.g.length ≤ BIG) (hb : b.g.length ≤ BIG) : R F_lattice_Under [laA a, laA b] [] = some (.d (.bool (underB a b)), []) := by
  refine R_of at_lattice_Under (by decide) ?_
  obtain ⟨n, g⟩ := a
  obtain ⟨m, k⟩ := b
  have h := run_within g k ha hb
  unfold underB
  by_cases hn : n ≤ m <;> simp -implicitDefEqProofs [code_lattice_Under, h, hn]
theorem run_Write (a b : La) (ha : a.g.length ≤ BIG) (hb : b.g.length ≤ BIG) : R F_lattice_Write [laA a, laA b] [] = some (.d (.bool (underB a b)), []) := by
  refine R_of at_lattice_Write (by decide) ?_
  have h := run_Under a b ha hb
  simp -implicitDefEqProofs [code_lattice_Write, h]
theorem run_LRead (a b : La) (ha : a.g.length ≤ BIG) (hb : b.g.length ≤ BIG) : R F_lattice_Read [laA a, laA b] [] = some (.d (.bool (underB b a)), []) := by
  refine R_of at_lattice_Read (by decide) ?_
  have h := run_Under b a hb ha
  simp -implicitDefEqProofs [code_lattice_Read, h]
theorem run_Range (a b c : La) (ha : a.g.length ≤ BIG) (hb : b.g.length ≤ BIG) (hc : c.g.length ≤ BIG) : R F_lattice_Range [laA a, laA b, laA c] [] = some (.d (.bool (underB a c && underB c b)), []) := by
  refine R_of at_lattice_Range (by decide) ?_
  have h := run_Under a c ha hc
  have h2 := run_Under c b hc hb
  cases h3 : underB a c <;> simp -implicitDefEqProofs [code_lattice_Range, h, h2, h3]
end Bz.S
