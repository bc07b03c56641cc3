/- WallClones, whole. -/
import Derived.Test.YtkokmockakgjaaaWall10
set_option linter.unusedSimpArgs false
set_option linter.unusedVariables false
namespace Bz.S
open Go Bz
set_option maxRecDepth 10000
set_option maxHeartbeats 8000000

theorem few3 (l : List Oq) (h : l.length ≤ 1048576) : R F_law33_few [oqS l] [] = some (oqS (l.take 40), []) ∧ (l.take 40).length ≤ 40 := ⟨run_few33 l (by unfold BIG; omega), by simp; omega⟩

theorem run_WallClones (D : List Cl) (a b c : List Oq) (hb0 : bulkL [.vs false (D.map clC)] + (bulkL [.vs false (a.map oqC)] + (bulkL [.vs false (b.map oqC)] + bulkL [.vs false (c.map oqC)])) ≤ 1048576) :
    R F_law33_WallClones [clS D, oqS a, oqS b, oqS c] [] = some (.d (.bool true), []) := by
  refine R_of at_law33_WallClones (by decide) ?_
  have hd := cls_bulk D
  have ha := oqs_bulk a
  have hb := oqs_bulk b
  have hc := oqs_bulk c
  simp only [bulkL, bulkD] at hb0
  have hD : D.length ≤ BIG := by unfold BIG; omega
  have hN := run_WNew D hD
  obtain ⟨fa, la⟩ := few3 a (by omega)
  obtain ⟨fb, lb⟩ := few3 b (by omega)
  obtain ⟨fc, lc⟩ := few3 c (by omega)
  generalize a.take 40 = a' at *
  generalize b.take 40 = b' at *
  generalize c.take 40 = c' at *
  have ra := run_run33 D a' [] [] J3_nil hD la (by simp) (by simp)
  obtain ⟨j1, k1, m1⟩ := runP_ok D a' ([], []) J3_nil
  generalize runP D a' ([], []) = p at *
  obtain ⟨S1, M1⟩ := p
  simp only [List.length_nil] at j1 k1 m1 ra
  have rb := run_run33 D b' S1 M1 j1 hD lb (by omega) (by omega)
  have rc := run_run33 D c' S1 M1 j1 hD lc (by omega) (by omega)
  obtain ⟨j2, k2, m2⟩ := runP_ok D b' (S1, M1) j1
  obtain ⟨j3, k3, m3⟩ := runP_ok D c' (S1, M1) j1
  generalize runP D b' (S1, M1) = p at *
  obtain ⟨S2, M2⟩ := p
  generalize runP D c' (S1, M1) = p at *
  obtain ⟨S3, M3⟩ := p
  simp only at j2 k2 m2 rb j3 k3 m3 rc
  have rbc := run_run33 D c' S2 M2 j2 hD lc (by omega) (by omega)
  have rcb := run_run33 D b' S3 M3 j3 hD lb (by omega) (by omega)
  generalize runP D c' (S2, M2) = p at *
  obtain ⟨S4, M4⟩ := p
  generalize runP D b' (S3, M3) = p at *
  obtain ⟨S5, M5⟩ := p
  simp only at rbc rcb
  change R F_wall_New [clS D] [] = some (.pv 0 0, wH (clsK D) []) at hN
  have hcl := w_Clone (clsK D) S1
  generalize clsK D = K at *
  have hN' : R F_wall_New [clS D] [] = some (.pv 0 0, [(0, .var [.map 1, .map 2]), (1, .mp false [.str] (K.map clA)), (2, .mp true [.str, .str] [])]) := hN
  have ra' : R F_law33_run [.pv 0 0, clS D, .d (.vs false []), oqS a'] [(0, .var [.map 1, .map 2]), (1, .mp false [.str] (K.map clA)), (2, .mp true [.str, .str] [])] = some (.tup [sgS M1, .d (.bool true)], wH K S1) := ra
  have hcl' : R F_wall_Wall_Clone [.pv 0 0] (wH K S1) = some (.pv 3 0, [(0, .var [.map 1, .map 2]), (1, .mp false [.str] (K.map clA)), (2, .mp true [.str, .str] (S1.map entW)), (3, .var [.map 4, .map 5]), (4, .mp false [.str] (K.map clA)), (5, .mp true [.str, .str] (S1.map entW))]) := hcl
  clear hN ra hcl j1 j2 j3
  simp -implicitDefEqProofs (maxSteps := 5000000) [code_law33_WallClones, alive33, hN', fa, fb, fc, ra', rb, rc, rbc, rcb, hcl', n_May, o_May, n_See, o_See, n_Seen, o_Seen, n_Forget, o_Forget, n_Leak, o_Leak, n_Clone, o_Clone]
end Bz.S
