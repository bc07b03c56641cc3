/- WallRuns. -/
import Derived.Test.YtkokmockakgjaaaWall6
set_option linter.unusedSimpArgs false
set_option linter.unusedVariables false
namespace Bz.S
open Go Bz
set_option maxRecDepth 10000
set_option maxHeartbeats 4000000

def goP (D : List Cl) (p : List Ct × List Sg) (x : Oq) : List Ct × List Sg := (stepS3 D p.1 p.2 x, stepM3 D p.2 x)
def runP (D : List Cl) (l : List Oq) (p : List Ct × List Sg) : List Ct × List Sg := l.foldl (goP D) p
theorem runP_ok (D : List Cl) : ∀ (l : List Oq) (p : List Ct × List Sg), J3 p.1 p.2 → J3 (runP D l p).1 (runP D l p).2 ∧ (runP D l p).1.length ≤ p.1.length + l.length ∧ (runP D l p).2.length ≤ p.2.length + l.length
  | [], p, h => ⟨h, Nat.le_refl _, Nat.le_refl _⟩
  | x :: r, p, h => by
    have ih := runP_ok D r (goP D p x) (h.step D x)
    have h1 := stepS3_len h D x
    have h2 := stepM3_len D p.2 x
    simp only [runP, List.foldl_cons, goP, List.length_cons] at ih ⊢
    exact ⟨ih.1, by omega, by omega⟩

theorem run_run33 (D : List Cl) (l : List Oq) (S : List Ct) (M : List Sg) (h : J3 S M) (hD : D.length ≤ BIG) (hl : l.length ≤ 40) (hS : S.length ≤ 1000) (hM : M.length ≤ 1000) :
    R F_law33_run [.pv 0 0, clS D, sgS M, oqS l] (wH (clsK D) S) = some (.tup [sgS (runP D l (S, M)).2, .d (.bool true)], wH (clsK D) (runP D l (S, M)).1) := by
  refine R_of at_law33_run (by decide) ?_
  have hL := loop_fold (X := X) (mask := mask_law33_run_0) (body := body_law33_run_0) l
    (fun i (p : List Ct × List Sg) => ⟨mkE 34 [(0, .pv 0 0), (1, clS D), (2, sgS p.2), (3, oqS l), (10, .d (.bool true)), (11, .d (.int .i64 i))], wH (clsK D) p.1⟩)
    (fun i p => J3 p.1 p.2 ∧ p.1.length ≤ S.length + i ∧ p.2.length ≤ M.length + i) (fun _ p x => goP D p x)
    (fun p => (.exit 0, ⟨mkE 34 [(2, sgS p.2), (10, .d (.bool true))], wH (clsK D) p.1⟩)) (by simp)
    (fun i p x hi hx hI => by
      obtain ⟨S1, M1⟩ := p
      obtain ⟨hJ, l1, l2⟩ := hI
      simp only at hJ l1 l2
      have hw := wrap_ok (a := (i : Int) + 1) (by omega) (by omega)
      have hs := run_step33 D S1 M1 x hJ hD (by omega) (by omega)
      have hj := hJ.step D x
      have h1 := stepS3_len hJ D x
      have h2 := stepM3_len D M1 x
      simp only [goP]
      generalize stepS3 D S1 M1 x = S2 at *
      generalize stepM3 D M1 x = M2 at *
      obtain ⟨k, w, o⟩ := x
      generalize clsK D = K at *
      refine ⟨⟨hj, by omega, by omega⟩, ?_⟩
      simp -implicitDefEqProofs [body_law33_run_0, mask_law33_run_0, hi, hx, hw, hs])
    (fun p _ => by
      generalize clsK D = K at *
      simp -implicitDefEqProofs [body_law33_run_0]) (S, M) ⟨h, Nat.le_refl _, Nat.le_refl _⟩
  have hf : ∀ (l : List Oq) (i : Nat) (a : List Ct × List Sg), foldI (fun _ p x => goP D p x) l i a = runP D l a := by
    intro l
    induction l with
    | nil => intro i a; rfl
    | cons x r ih => intro i a; rw [foldI_cons, ih]; rfl
  rw [hf] at hL
  generalize runP D l (S, M) = p at *
  generalize clsK D = K at *
  simp -implicitDefEqProofs [code_law33_run]
  rw [hL _ (by simp -implicitDefEqProofs [mask_law33_run_0])]
  simp -implicitDefEqProofs

def D0 : List Cl := [⟨[97], [98, 97, 110, 107]⟩, ⟨[98], [98, 97, 110, 107]⟩]
theorem alive33 : R F_law33_alive [] [] = some (.d (.bool true), []) := by
  refine R_of at_law33_alive (by decide) ?_
  have hN : R F_wall_New [.d (.vs false [[.str [97], .str [98, 97, 110, 107]], [.str [98], .str [98, 97, 110, 107]]])] [] = some (.pv 0 0, wH (clsK D0) []) := run_WNew D0 (by unfold BIG; decide)
  have s1 := w_See' J3_nil D0 [120] [97] (by unfold BIG; decide)
  have m1 : mayM D0 [] [120] [97] = true := by kernel_rfl
  rw [m1] at s1
  simp only [if_true] at s1
  have j1 : J3 (bumpW [120] [97] []) [⟨[120], [97]⟩] := J3_nil.bump [120] [97]
  have hl : (bumpW [120] [97] []).length ≤ BIG := by unfold BIG; decide
  have s2 := w_May' j1 D0 [120] [98] hl
  have s3 := w_May' j1 D0 [120] [99] hl
  have s4 := w_May' j1 D0 [121] [98] hl
  have s5 := w_Seen' j1 (clsK D0) [120] hl
  have m2 : mayM D0 [⟨[120], [97]⟩] [120] [98] = false := by kernel_rfl
  have m3 : mayM D0 [⟨[120], [97]⟩] [120] [99] = true := by kernel_rfl
  have m4 : mayM D0 [⟨[120], [97]⟩] [121] [98] = true := by kernel_rfl
  have m5 : ofM [⟨[120], [97]⟩] [120] = [[97]] := by kernel_rfl
  rw [m2] at s2
  rw [m3] at s3
  rw [m4] at s4
  rw [m5] at s5
  generalize bumpW [120] [97] [] = S1 at *
  generalize clsK D0 = K at *
  simp only [List.map_nil, List.map_cons, List.length_cons, List.length_nil] at s5
  have hN' : R F_wall_New [.d (.vs false [[.str [97], .str [98, 97, 110, 107]], [.str [98], .str [98, 97, 110, 107]]])] [] = some (.pv 0 0, [(0, .var [.map 1, .map 2]), (1, .mp false [.str] (K.map clA)), (2, .mp true [.str, .str] [])]) := hN
  have s1' : R F_wall_Wall_See [.pv 0 0, stA [120], stA [97]] [(0, .var [.map 1, .map 2]), (1, .mp false [.str] (K.map clA)), (2, .mp true [.str, .str] [])] = some (.d (.bool true), wH K S1) := s1
  simp -implicitDefEqProofs [code_law33_alive, hN', s1', s2, s3, s4, s5]

theorem oqs_bulk (l : List Oq) : l.length ≤ bulkLL (l.map oqC) := by
  induction l with
  | nil => simp
  | cons o r ih => simp only [List.map_cons, List.length_cons, bulkLL, oqC, bulkL, bulkD] at ih ⊢; omega
theorem cls_bulk (l : List Cl) : l.length ≤ bulkLL (l.map clC) := by
  induction l with
  | nil => simp
  | cons o r ih => simp only [List.map_cons, List.length_cons, bulkLL, clC, bulkL, bulkD] at ih ⊢; omega

theorem run_WallRuns (D : List Cl) (l : List Oq) (hb0 : bulkL [.vs false (D.map clC)] + bulkL [.vs false (l.map oqC)] ≤ 1048576) : R F_law33_WallRuns [clS D, oqS l] [] = some (.d (.bool true), []) := by
  refine R_of at_law33_WallRuns (by decide) ?_
  have hd := cls_bulk D
  have ho := oqs_bulk l
  simp only [bulkL, bulkD] at hb0
  have hD : D.length ≤ BIG := by unfold BIG; omega
  have hN := run_WNew D hD
  have hf := run_few33 l (by unfold BIG; omega)
  have hl : (l.take 40).length ≤ 40 := by simp; omega
  generalize l.take 40 = l' at *
  have hr := run_run33 D l' [] [] J3_nil hD hl (by simp) (by simp)
  generalize runP D l' ([], []) = p at *
  change R F_wall_New [clS D] [] = some (.pv 0 0, wH (clsK D) []) at hN
  generalize clsK D = K at *
  have hr' : R F_law33_run [.pv 0 0, clS D, .d (.vs false []), oqS l'] [(0, .var [.map 1, .map 2]), (1, .mp false [.str] (K.map clA)), (2, .mp true [.str, .str] [])] = some (.tup [sgS p.2, .d (.bool true)], wH K p.1) := hr
  have hN' : R F_wall_New [clS D] [] = some (.pv 0 0, [(0, .var [.map 1, .map 2]), (1, .mp false [.str] (K.map clA)), (2, .mp true [.str, .str] [])]) := hN
  simp -implicitDefEqProofs [code_law33_WallRuns, alive33, hN', hf, hr']

theorem typ_cls {P : Program} {q t : TypeId} {fs : Array Field} (hq : P.underlying q = some (.slice t)) (hu : P.underlying t = some (.struct fs)) {i1 i2 : TypeId} (hfs : fs.toList.map (·.type) = [i1, i2])
    (h1 : P.underlying i1 = some .string) (h2 : P.underlying i2 = some .string) (x : List D) (h : Typed P q x) : ∃ m : List Cl, x = [.vs false (m.map clC)] := by
  obtain ⟨es, rfl, hes⟩ := typ_slice h hq
  obtain ⟨m, rfl⟩ := mem_map_all clC (es := es) fun c hc => by
    obtain ⟨parts, rfl, hp⟩ := typ_fields (hes c hc) hu hfs
    obtain ⟨a, r, rfl, ha, hp⟩ := tall_cons hp
    obtain ⟨b, r, rfl, hb, hp⟩ := tall_cons hp
    cases tall_nil hp
    obtain ⟨m1, rfl⟩ := typ_str ha h1
    obtain ⟨m2, rfl⟩ := typ_str hb h2
    exact ⟨⟨m1, m2⟩, rfl⟩
  exact ⟨m, rfl⟩
theorem typ_oqs {P : Program} {q t : TypeId} {fs : Array Field} (hq : P.underlying q = some (.slice t)) (hu : P.underlying t = some (.struct fs)) {i1 s1 s2 : TypeId} (hfs : fs.toList.map (·.type) = [i1, s1, s2])
    (h1 : P.underlying i1 = some (.int .i64)) (h2 : P.underlying s1 = some .string) (h3 : P.underlying s2 = some .string) (x : List D) (h : Typed P q x) : ∃ m : List Oq, x = [.vs false (m.map oqC)] := by
  obtain ⟨es, rfl, hes⟩ := typ_slice h hq
  obtain ⟨m, rfl⟩ := mem_map_all oqC (es := es) fun y hy => by
    obtain ⟨parts, rfl, hp⟩ := typ_fields (hes y hy) hu hfs
    obtain ⟨a, r, rfl, ha, hp⟩ := tall_cons hp
    obtain ⟨b, r, rfl, hb, hp⟩ := tall_cons hp
    obtain ⟨c, r, rfl, hc, hp⟩ := tall_cons hp
    cases tall_nil hp
    obtain ⟨m1, rfl, _⟩ := typ_int ha h1
    obtain ⟨m2, rfl⟩ := typ_str hb h2
    obtain ⟨m3, rfl⟩ := typ_str hc h3
    exact ⟨⟨m1, m2, m3⟩, rfl⟩
  exact ⟨m, rfl⟩
end Bz.S
