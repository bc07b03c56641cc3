/- Who saw whose, by the page. -/
import Derived.Test.YtkokmockakgjaaaWall3
set_option linter.unusedSimpArgs false
set_option linter.unusedVariables false
namespace Bz.S
open Go Bz
set_option maxRecDepth 10000
set_option maxHeartbeats 4000000

structure Sg where
  w : Txt
  o : Txt
def sgC (s : Sg) : List D := [.str s.w, .str s.o]
@[simp] theorem sgC_eq (s : Sg) : sgC s = [.str s.w, .str s.o] := rfl
@[simp] theorem sized_sg (l : List Sg) : sized 2 (l.map sgC) = true := sized_map 2 sgC (fun _ => rfl) l
abbrev sgS (l : List Sg) : AV := .d (.vs false (l.map sgC))
structure Oq where
  k : Int
  w : Txt
  o : Txt
def oqC (x : Oq) : List D := [.int .i64 x.k, .str x.w, .str x.o]
@[simp] theorem oqC_eq (x : Oq) : oqC x = [.int .i64 x.k, .str x.w, .str x.o] := rfl
@[simp] theorem sized_oq (l : List Oq) : sized 3 (l.map oqC) = true := sized_map 3 oqC (fun _ => rfl) l
abbrev oqS (l : List Oq) : AV := .d (.vs false (l.map oqC))
abbrev oqA (x : Oq) : AV := .agg [.d (.int .i64 x.k), .d (.str x.w), .d (.str x.o)]
@[simp] theorem sized_cl (l : List Cl) : sized 2 (l.map clC) = true := sized_map 2 clC (fun _ => rfl) l

theorem findI_find {α : Type} (p : α → Bool) : ∀ (l : List α) (i : Nat), (findI (fun _ => p) l i).map (·.2) = l.find? p
  | [], _ => rfl
  | x :: r, i => by
    unfold findI
    by_cases h : p x = true
    · simp [h]
    · simp [h, findI_find p r]

theorem p_class (D : List Cl) (n : Txt) (hl : D.length ≤ BIG) : R F_law33_class [clS D, stA n] [] = some (.tup [stA ((clOf D n).elim [] (·.c)), .d (.bool (clOf D n).isSome)], []) := by
  refine R_of at_law33_class (by decide) ?_
  unfold BIG at hl
  have hL := loop_find (X := X) (mask := mask_law33_class_0) (body := body_law33_class_0) D
    (fun i => ⟨mkE 25 [(0, clS D), (1, stA n), (6, .d (.int .i64 i))], []⟩)
    (fun _ d => decide (n = d.n)) (.exit 0, ⟨mkE 25 [], []⟩) (fun _ d => (.ret, ⟨mkE 25 [(4, stA d.c), (5, .d (.bool true))], []⟩)) (by simp) (by simp)
    (fun i d hi hd hq => by
      have hw := wrap_ok (a := (i : Int) + 1) (by omega) (by omega)
      obtain ⟨m, c⟩ := d
      have hq' : ¬ m = n := fun e => by simp [e] at hq
      simp -implicitDefEqProofs [body_law33_class_0, mask_law33_class_0, hi, hd, hw, hq'])
    (fun i d hi hd hq => by
      obtain ⟨m, c⟩ := d
      have hq' : n = m := by simpa using hq
      subst hq'
      simp -implicitDefEqProofs [body_law33_class_0, hi, hd]) (by simp -implicitDefEqProofs [body_law33_class_0])
  simp -implicitDefEqProofs [code_law33_class]
  rw [hL _ (by simp -implicitDefEqProofs [mask_law33_class_0])]
  have hf := findI_find (fun d : Cl => decide (n = d.n)) D 0
  unfold clOf
  rw [← hf]
  cases findI (fun _ d => decide (n = d.n)) D 0 <;> simp -implicitDefEqProofs

theorem p_foes (D : List Cl) (a b : Txt) (hl : D.length ≤ BIG) : R F_law33_foes [clS D, stA a, stA b] [] = some (.d (.bool (foesK D a b)), []) := by
  refine R_of at_law33_foes (by decide) ?_
  have ha := p_class D a hl
  have hb := p_class D b hl
  unfold foesK
  by_cases e : a = b
  · subst e
    cases h : clOf D a with
    | none => rw [h] at ha; simp -implicitDefEqProofs [code_law33_foes, ha]
    | some x => rw [h] at ha; simp -implicitDefEqProofs [code_law33_foes, ha]
  · cases h : clOf D a with
    | none =>
      rw [h] at ha
      cases h2 : clOf D b with
      | none => rw [h2] at hb; simp -implicitDefEqProofs [code_law33_foes, ha, hb, e]
      | some y => rw [h2] at hb; simp -implicitDefEqProofs [code_law33_foes, ha, hb, e]
    | some x =>
      rw [h] at ha
      cases h2 : clOf D b with
      | none => rw [h2] at hb; simp -implicitDefEqProofs [code_law33_foes, ha, hb, e]
      | some y =>
        rw [h2] at hb
        by_cases e2 : x.c = y.c
        · simp -implicitDefEqProofs [code_law33_foes, ha, hb, e, e2]
        · simp -implicitDefEqProofs [code_law33_foes, ha, hb, e, e2]

def ofM (M : List Sg) (e : Txt) : List Txt := setT ((M.filter fun s => s.w = e).map (·.o))
theorem ofM_len (M : List Sg) (e : Txt) : (ofM M e).length ≤ M.length := by
  unfold ofM
  have h1 := setT_len ((M.filter fun s => s.w = e).map (·.o))
  have h2 := List.length_filter_le (fun s : Sg => decide (s.w = e)) M
  simp at h1 h2 ⊢; omega
theorem p_of (M : List Sg) (e : Txt) (hl : M.length ≤ BIG) : R F_law33_of [sgS M, stA e] [] = some (txS (ofM M e), []) := by
  refine R_of at_law33_of (by decide) ?_
  unfold BIG at hl
  have hL := loop_fold (X := X) (mask := mask_law33_of_0) (body := body_law33_of_0) M
    (fun i (out : List Txt) => ⟨mkE 30 [(0, sgS M), (1, stA e), (5, .os 10000050 out.length 0 out.length), (6, .d (.int .i64 i))], [(10000050, .arr 1 (out.map stC))]⟩)
    (fun i out => out.length ≤ i) (fun _ out s => if s.w = e then out ++ [s.o] else out) (fun out => (.exit 0, ⟨mkE 30 [(5, .os 10000050 out.length 0 out.length)], [(10000050, .arr 1 (out.map stC))]⟩)) (by simp)
    (fun i out s hi hs hI => by
      have hw := wrap_ok (a := (i : Int) + 1) (by omega) (by omega)
      obtain ⟨w, o⟩ := s
      have g1 : out.length + 1 ≤ LIM := by unfold LIM; omega
      by_cases h : w = e
      · refine ⟨by simp [h]; omega, ?_⟩
        simp -implicitDefEqProofs [body_law33_of_0, mask_law33_of_0, hi, hs, hw, h, g1]
      · refine ⟨by simp [h]; omega, ?_⟩
        simp -implicitDefEqProofs [body_law33_of_0, mask_law33_of_0, hi, hs, hw, h])
    (fun out _ => by simp -implicitDefEqProofs [body_law33_of_0]) [] (Nat.le_refl _)
  simp -implicitDefEqProofs [code_law33_of]
  rw [hL _ (by simp -implicitDefEqProofs [mask_law33_of_0])]
  have hf : ∀ (l : List Sg) (i : Nat) (a : List Txt), foldI (fun _ out (s : Sg) => if s.w = e then out ++ [s.o] else out) l i a = a ++ (l.filter fun s => s.w = e).map (·.o) := by
    intro l
    induction l with
    | nil => intro i a; simp
    | cons x r ih =>
      intro i a; rw [foldI_cons, ih]
      by_cases h : x.w = e <;> simp [h]
  rw [hf]
  simp only [List.nil_append]
  unfold ofM
  have hfl : ((M.filter fun s => s.w = e).map (·.o)).length ≤ BIG := by
    have := List.length_filter_le (fun s : Sg => decide (s.w = e)) M
    simp at this ⊢; unfold BIG; omega
  generalize (M.filter fun s => s.w = e).map (·.o) = out at *
  have hr := run_Rising out hfl
  have tk : List.take out.length (out.map stC) = out.map stC := List.take_of_length_le (by simp)
  generalize setT out = z at *
  cases z with
  | nil =>
    have hr' : R F_plain_Rising [txS out] [] = some (.d (.vs false []), []) := hr
    show _ = some (AV.d (.vs false []), ([] : Heap))
    simp -implicitDefEqProofs [hr', tk, noViews]
  | cons x r => simp -implicitDefEqProofs [hr, tk, noViews]

theorem p_clash (D : List Cl) (l : List Txt) (hl : l.length ≤ BIG) (hD : D.length ≤ BIG) : R F_law33_clash [clS D, txS l] [] = some (.d (.bool (clashK (foesK D) [] l)), []) := by
  refine R_of at_law33_clash (by decide) ?_
  unfold BIG at hl
  have hin : ∀ (i : Nat) (x : Txt) (hi : i < l.length), l[i] = x → exL X (.loop mask_law33_clash_0 body_law33_clash_0) ⟨mkE 28 [(0, clS D), (1, txS l), (5, .d (.int .i64 i)), (6, .d (.int .i64 0))], []⟩ =
      some (if (l.take i).any (foesK D x) then (.ret, ⟨mkE 28 [(4, .d (.bool true))], []⟩) else (.exit 2, ⟨mkE 28 [(0, clS D), (1, txS l), (5, .d (.int .i64 i))], []⟩)) := by
    intro i x hi hx
    have hL := loop_find (X := X) (mask := mask_law33_clash_0) (body := body_law33_clash_0) (l.take i)
      (fun k => ⟨mkE 28 [(0, clS D), (1, txS l), (5, .d (.int .i64 i)), (6, .d (.int .i64 k))], []⟩)
      (fun _ y => foesK D x y) (.exit 2, ⟨mkE 28 [(0, clS D), (1, txS l), (5, .d (.int .i64 i))], []⟩) (fun _ _ => (.ret, ⟨mkE 28 [(4, .d (.bool true))], []⟩)) (by simp) (by simp)
      (fun k y hk hy hq => by
        have hk' : k < i := by simp at hk; omega
        have hkl : k < l.length := by omega
        have hy' : l[k] = y := by rw [← hy]; simp
        have hw := wrap_ok (a := (k : Int) + 1) (by omega) (by omega)
        have hp := p_foes D x y hD
        rw [hq] at hp
        simp -implicitDefEqProofs [body_law33_clash_0, mask_law33_clash_0, hi, hx, hkl, hk', hy', stC_eq, hw, hp])
      (fun k y hk hy hq => by
        have hk' : k < i := by simp at hk; omega
        have hkl : k < l.length := by omega
        have hy' : l[k] = y := by rw [← hy]; simp
        have hp := p_foes D x y hD
        rw [hq] at hp
        simp -implicitDefEqProofs [body_law33_clash_0, hi, hx, hkl, hk', hy', stC_eq, hp])
      (by
        have ht : (l.take i).length = i := by simp; omega
        rw [ht]
        simp -implicitDefEqProofs [body_law33_clash_0])
    rw [hL _ (by simp -implicitDefEqProofs [mask_law33_clash_0])]
    have ha := findI_any (foesK D x) (l.take i) 0
    rw [← ha]
    cases findI (fun _ => foesK D x) (l.take i) 0 <;> simp
  have hL := loop_find (X := X) (mask := mask_law33_clash_1) (body := body_law33_clash_1) l
    (fun i => ⟨mkE 28 [(0, clS D), (1, txS l), (5, .d (.int .i64 i))], []⟩)
    (fun i x => (l.take i).any (foesK D x)) (.exit 0, ⟨mkE 28 [], []⟩) (fun _ _ => (.ret, ⟨mkE 28 [(4, .d (.bool true))], []⟩)) (by simp) (by simp)
    (fun i x hi hx hq => by
      have hw := wrap_ok (a := (i : Int) + 1) (by omega) (by omega)
      have hp := hin i x hi hx
      rw [hq] at hp
      simp -implicitDefEqProofs [body_law33_clash_1, mask_law33_clash_1, hi, hw, hp])
    (fun i x hi hx hq => by
      have hp := hin i x hi hx
      rw [hq] at hp
      simp -implicitDefEqProofs [body_law33_clash_1, hi, hp]) (by simp -implicitDefEqProofs [body_law33_clash_1])
  have hcl := clash_find (foesK D) l l [] rfl
  rw [← hcl]
  simp -implicitDefEqProofs [code_law33_clash]
  rw [hL _ (by simp -implicitDefEqProofs [mask_law33_clash_1])]
  show finish _ _ _ _ _ = some (.d (.bool (findI (fun i x => (l.take i).any (foesK D x)) l 0).isSome), [])
  cases findI (fun i x => (l.take i).any (foesK D x)) l 0 <;> simp -implicitDefEqProofs

def mayM (D : List Cl) (M : List Sg) (e o : Txt) : Bool := !(ofM M e).any fun x => foesK D x o
theorem p_may (D : List Cl) (M : List Sg) (x : Oq) (hD : D.length ≤ BIG) (hM : M.length ≤ BIG) : R F_law33_may [clS D, sgS M, oqA x] [] = some (.d (.bool (mayM D M x.w x.o)), []) := by
  refine R_of at_law33_may (by decide) ?_
  have h1 := p_of M x.w hM
  have hl := ofM_len M x.w
  unfold mayM
  unfold BIG at hM
  generalize ofM M x.w = l at *
  obtain ⟨k, e, o⟩ := x
  simp only at h1 ⊢
  have hL := loop_find (X := X) (mask := mask_law33_may_0) (body := body_law33_may_0) l
    (fun i => ⟨mkE 27 [(0, clS D), (5, .pv 10000 0), (7, txS l), (8, .d (.int .i64 i))], [(10000, .var [.d (.int .i64 k), stA e, stA o])]⟩)
    (fun _ y => foesK D y o) (.exit 0, ⟨mkE 27 [], []⟩) (fun _ _ => (.ret, ⟨mkE 27 [(6, .d (.bool false))], []⟩)) (by simp) (by simp)
    (fun i y hi hy hq => by
      have hw := wrap_ok (a := (i : Int) + 1) (by omega) (by omega)
      have hp := p_foes D y o hD
      rw [hq] at hp
      simp -implicitDefEqProofs [body_law33_may_0, mask_law33_may_0, hi, hy, stC_eq, hw, hp])
    (fun i y hi hy hq => by
      have hp := p_foes D y o hD
      rw [hq] at hp
      simp -implicitDefEqProofs [body_law33_may_0, hi, hy, stC_eq, hp]) (by simp -implicitDefEqProofs [body_law33_may_0])
  simp -implicitDefEqProofs [code_law33_may, h1]
  rw [hL _ (by simp -implicitDefEqProofs [mask_law33_may_0])]
  have ha := findI_any (fun y => foesK D y o) l 0
  rw [← ha]
  cases findI (fun _ y => foesK D y o) l 0 <;> simp -implicitDefEqProofs
theorem run_few33 (l : List Oq) (hl : l.length ≤ BIG) : R F_law33_few [oqS l] [] = some (oqS (l.take 40), []) := by
  refine R_of at_law33_few (by decide) ?_
  by_cases h : (40 : Int) < l.length
  · have h' : (40 : Int) ≤ l.length := by omega
    simp -implicitDefEqProofs [code_law33_few, h, h', List.map_take]
  · have h' : l.take 40 = l := List.take_of_length_le (by omega)
    simp -implicitDefEqProofs [code_law33_few, h, h']
end Bz.S
