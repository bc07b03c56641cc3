/- WallKeeps. -/
import Derived.Test.YtkokmockakgjaaaWall8
set_option linter.unusedSimpArgs false
set_option linter.unusedVariables false
namespace Bz.S
open Go Bz
set_option maxRecDepth 10000
set_option maxHeartbeats 4000000

theorem run_WallKeeps (D : List Cl) (l : List Oq) (who owner other third : Txt) (hb0 : bulkL [.vs false (D.map clC)] + (bulkL [.vs false (l.map oqC)] + (bulkL [.str who] + (bulkL [.str owner] + (bulkL [.str other] + bulkL [.str third])))) ≤ 1048576) :
    R F_law33_WallKeeps [clS D, oqS l, stA who, stA owner, stA other, stA third] [] = some (.d (.bool true), []) := by
  refine R_of at_law33_WallKeeps (by decide) ?_
  have hd := cls_bulk D
  have ho := oqs_bulk l
  simp only [bulkL, bulkD] at hb0
  have hD : D.length ≤ BIG := by unfold BIG; omega
  have hN := run_WNew D hD
  have hf := run_few33 l (by unfold BIG; omega)
  have hl : (l.take 40).length ≤ 40 := by simp; omega
  generalize l.take 40 = l' at *
  have hr := run_run33 D l' [] [] J3_nil hD hl (by simp) (by simp)
  obtain ⟨j1, l1, l2⟩ := runP_ok D l' ([], []) J3_nil
  generalize runP D l' ([], []) = p at *
  obtain ⟨S, M⟩ := p
  simp only [List.length_nil] at j1 l1 l2 hr
  have hS : S.length ≤ BIG := by unfold BIG; omega
  have m1 := w_May' j1 D who owner hS
  have m2 := w_May' j1 D who other hS
  have m3 := w_May' j1 D third other hS
  have s1 := w_See' j1 D who owner hS
  have pf := p_foes D owner other hD
  have hM2 := j1.bump who owner
  have hS2 : (bumpW who owner S).length ≤ BIG := by have := bumpW_len who owner S; unfold BIG; omega
  have n1 := w_May' hM2 D who owner hS2
  have n2 := w_May' hM2 D who other hS2
  have n3 := w_May' hM2 D third other hS2
  rw [may_see] at n1 n2 n3
  rw [foes_self] at n1
  simp only [decide_true, Bool.true_and, Bool.and_false, Bool.not_false, Bool.and_true] at n1 n2
  change R F_wall_New [clS D] [] = some (.pv 0 0, wH (clsK D) []) at hN
  generalize clsK D = K at *
  have hN' : R F_wall_New [clS D] [] = some (.pv 0 0, [(0, .var [.map 1, .map 2]), (1, .mp false [.str] (K.map clA)), (2, .mp true [.str, .str] [])]) := hN
  have hr' : R F_law33_run [.pv 0 0, clS D, .d (.vs false []), oqS l'] [(0, .var [.map 1, .map 2]), (1, .mp false [.str] (K.map clA)), (2, .mp true [.str, .str] [])] = some (.tup [sgS M, .d (.bool true)], wH K S) := hr
  generalize mayM D M who owner = b1 at *
  generalize mayM D M who other = b2 at *
  generalize mayM D M third other = b3 at *
  generalize foesK D owner other = b4 at *
  generalize bumpW who owner S = S2 at *
  by_cases ht : third = who
  · subst ht
    cases b1 with
    | false =>
      simp only [Bool.false_eq_true, if_false] at s1
      cases b2 <;> simp -implicitDefEqProofs [code_law33_WallKeeps, alive33, hN', hf, hr', m1, m2, m3, s1, n1, n2, n3, pf]
    | true =>
      simp only [if_true] at s1
      cases b2 <;> cases b4 <;> simp only [Bool.not_true, Bool.not_false, Bool.and_true, Bool.and_false] at n2 <;> simp -implicitDefEqProofs [code_law33_WallKeeps, alive33, hN', hf, hr', m1, m2, m3, s1, n1, n2, pf]
  · have ht' : ¬ who = third := fun q => ht q.symm
    simp only [decide_eq_false ht', Bool.false_and, Bool.not_false, Bool.and_true] at n3
    cases b1 with
    | false =>
      simp only [Bool.false_eq_true, if_false] at s1
      cases b2 <;> cases b3 <;> simp -implicitDefEqProofs [code_law33_WallKeeps, alive33, hN', hf, hr', m1, m2, m3, s1, pf, ht]
    | true =>
      simp only [if_true] at s1
      cases b2 <;> cases b3 <;> cases b4 <;> simp only [Bool.not_true, Bool.not_false, Bool.and_true, Bool.and_false] at n2 <;> simp -implicitDefEqProofs [code_law33_WallKeeps, alive33, hN', hf, hr', m1, m2, m3, s1, n1, n2, n3, pf, ht]
end Bz.S
