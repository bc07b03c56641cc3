/- The laws of chapter 32, walked: Laws, Tells. -/
import Derived.Test.YtphdgheppdbkgaaLaw32
set_option linter.unusedSimpArgs false
set_option linter.unusedVariables false
namespace Bz.S
open Go Bz
set_option maxRecDepth 10000
set_option maxHeartbeats 4000000

theorem run_sameT {a b : La} (h : a = b) (ha : a.g.length ≤ BIG) : R F_law32_same [laA a, laA b] [] = some (.d (.bool true), []) := by
  subst h
  rw [run_law32_same a a ha ha]; simp

theorem run_LatticeLaws (a b c : La) (hb0 : bulkL (laC a) + (bulkL (laC b) + bulkL (laC c)) ≤ 1048576) :
    R F_law32_LatticeLaws [laA a, laA b, laA c] [] = some (.d (.bool true), []) := by
  have ha := laOK_bulk (a := a) (by omega)
  have hb := laOK_bulk (a := b) (by omega)
  have hc := laOK_bulk (a := c) (by omega)
  refine R_of at_law32_LatticeLaws (by decide) ?_
  have m1 := run_law32_may a ha.s
  have m2 := run_law32_may b hb.s
  have m3 := run_law32_may c hc.s
  by_cases q1 : ¬ laCheck a = 0
  · simp -implicitDefEqProofs [code_law32_LatticeLaws, alive32, m1, m2, m3, q1]
  by_cases q2 : ¬ laCheck b = 0
  · simp -implicitDefEqProofs [code_law32_LatticeLaws, alive32, m1, m2, m3, q1, q2]
  by_cases q3 : ¬ laCheck c = 0
  · simp -implicitDefEqProofs [code_law32_LatticeLaws, alive32, m1, m2, m3, q1, q2, q3]
  replace q1 : laCheck a = 0 := Classical.not_not.1 q1
  replace q2 : laCheck b = 0 := Classical.not_not.1 q2
  replace q3 : laCheck c = 0 := Classical.not_not.1 q3
  have ua := laCheck_up q1
  have ub := laCheck_up q2
  have uc := laCheck_up q3
  have g1 := ha.g
  have g2 := hb.g
  have g3 := hc.g
  have l1 := joinL_len a b
  have l2 := joinL_len b c
  have l3 := meetL_len a b
  have l4 := meetL_len b c
  have l5 := joinL_len b a
  have l6 := meetL_len b a
  have l7 := joinL_len (joinL a b) c
  have l8 := meetL_len (meetL a b) c
  have l9 := joinL_len a a
  have l10 := meetL_len a a
  have l11 := joinL_len a (meetL a b)
  have l12 := meetL_len a (joinL a b)
  have j1 := run_Join a b (by unfold BIG; omega)
  have j2 := run_Join b a (by unfold BIG; omega)
  have j3 := run_Join a a (by unfold BIG; omega)
  have j4 := run_Join a (meetL a b) (by unfold BIG; omega)
  have j5 := run_Join (joinL a b) c (by unfold BIG; omega)
  have j6 := run_Join b c (by unfold BIG; omega)
  have j7 := run_Join a (joinL b c) (by unfold BIG; omega)
  have k1 := run_Meet a b ha.big hb.big
  have k2 := run_Meet b a hb.big ha.big
  have k3 := run_Meet a a ha.big ha.big
  have k4 := run_Meet a (joinL a b) ha.big (by unfold BIG; omega)
  have k5 := run_Meet (meetL a b) c (by unfold BIG; omega) hc.big
  have k6 := run_Meet b c hb.big hc.big
  have k7 := run_Meet a (meetL b c) ha.big (by unfold BIG; omega)
  have e1 : joinL a b = joinL b a := la_eq (by rw [joinL_n, joinL_n]; omega) (joinL_up _ _) (joinL_up _ _) fun s => by rw [joinL_g, joinL_g]; grind
  have e2 : meetL a b = meetL b a := la_eq (by rw [meetL_n, meetL_n]; omega) (meetL_up _ _) (meetL_up _ _) fun s => by rw [meetL_g, meetL_g]; grind
  have e3 : joinL a a = a := la_eq (by rw [joinL_n]; omega) (joinL_up _ _) ua fun s => by rw [joinL_g]; grind
  have e4 : meetL a a = a := la_eq (by rw [meetL_n]; omega) (meetL_up _ _) ua fun s => by rw [meetL_g]; grind
  have e5 : joinL a (meetL a b) = a := la_eq (by rw [joinL_n, meetL_n]; omega) (joinL_up _ _) ua fun s => by rw [joinL_g, meetL_g]; grind
  have e6 : meetL a (joinL a b) = a := la_eq (by rw [meetL_n, joinL_n]; omega) (meetL_up _ _) ua fun s => by rw [meetL_g, joinL_g]; grind
  have e7 : joinL (joinL a b) c = joinL a (joinL b c) := la_eq (by simp only [joinL_n]; omega) (joinL_up _ _) (joinL_up _ _) fun s => by simp only [joinL_g]; grind
  have e8 : meetL (meetL a b) c = meetL a (meetL b c) := la_eq (by simp only [meetL_n]; omega) (meetL_up _ _) (meetL_up _ _) fun s => by simp only [meetL_g]; grind
  have s1 := run_sameT e1 (by unfold BIG; omega)
  have s2 := run_sameT e2 (by unfold BIG; omega)
  have s3 := run_sameT e3 (by unfold BIG; omega)
  have s4 := run_sameT e4 (by unfold BIG; omega)
  have s5 := run_sameT e5 (by unfold BIG; omega)
  have s6 := run_sameT e6 (by unfold BIG; omega)
  have s7 := run_sameT e7 (by unfold BIG; omega)
  have s8 := run_sameT e8 (by unfold BIG; omega)
  clear e1 e2 e3 e4 e5 e6 e7 e8
  simp -implicitDefEqProofs [code_law32_LatticeLaws, alive32, m1, m2, m3, q1, q2, q3, j1, j2, j3, j4, j5, j6, j7, k1, k2, k3, k4, k5, k6, k7, s1, s2, s3, s4, s5, s6, s7, s8]

theorem run_LatticeTells (a b c : La) (hb0 : bulkL (laC a) + (bulkL (laC b) + bulkL (laC c)) ≤ 1048576) :
    R F_law32_LatticeTells [laA a, laA b, laA c] [] = some (.d (.bool true), []) := by
  have ha := laOK_bulk (a := a) (by omega)
  have hb := laOK_bulk (a := b) (by omega)
  have hc := laOK_bulk (a := c) (by omega)
  have g1 := ha.g
  have g2 := hb.g
  have l1 := joinL_len a b
  have l3 := meetL_len a b
  refine R_of at_law32_LatticeTells (by decide) ?_
  have j1 := run_Join a b (by unfold BIG; omega)
  have k1 := run_Meet a b ha.big hb.big
  have m1 := run_law32_may a ha.s
  have m2 := run_LCheck a ha.s
  have u1 := run_Under a b ha.big hb.big
  have u2 := run_Write a b ha.big hb.big
  have u3 := run_LRead b a hb.big ha.big
  have u4 := run_Range a b c ha.big hb.big hc.big
  have w1 := run_law32_all a.g b.g ha.big hb.big
  have w2 := run_law32_all a.g c.g ha.big hc.big
  have w3 := run_law32_all c.g b.g hc.big hb.big
  have r1 := run_Rising (a.g ++ b.g) (by unfold BIG; simp; omega)
  have hF := List.length_filter_le (fun s => decide (s ∈ b.g)) a.g
  have r2 := run_Rising (a.g.filter fun s => decide (s ∈ b.g)) (by unfold BIG; omega)
  have s1 := run_sameT (a := joinL a b) (b := joinL a b) rfl (by unfold BIG; omega)
  have s2 := run_sameT (a := meetL a b) (b := meetL a b) rfl (by unfold BIG; omega)
  have hb' := hb.big
  obtain ⟨n, g⟩ := a
  obtain ⟨m, k⟩ := b
  obtain ⟨p, h⟩ := c
  simp only at *
  have ej : joinL ⟨n, g⟩ ⟨m, k⟩ = ⟨if m > n then m else n, setT (g ++ k)⟩ := rfl
  have em : meetL ⟨n, g⟩ ⟨m, k⟩ = ⟨if m < n then m else n, setT (g.filter fun s => decide (s ∈ k))⟩ := rfl
  rw [ej] at j1 s1
  rw [em] at k1 s2
  have hL := fun (J : La) (M : La) (und : Bool) (both : List Txt) => loop_fold (X := X) (mask := mask_law32_LatticeTells_0) (body := body_law32_LatticeTells_0) g
    (fun i (out : List Txt) => ⟨mkE 147 [(3, .pv 10000 0), (4, .pv 10010 0), (5, .pv 10020 0), (7, .d (.bool und)), (8, .pv 50060 0), (9, .pv 50070 0), (10, .os 10000100 both.length 0 both.length), (11, .os 10000110 out.length 0 out.length), (12, .d (.int .i64 i))],
      [(10000, .var [.d (.int .i64 n), txS g]), (10010, .var [.d (.int .i64 m), txS k]), (10020, .var [.d (.int .i64 p), txS h]), (50060, .var [.d (.int .i64 J.n), txS J.g]), (50070, .var [.d (.int .i64 M.n), txS M.g]), (10000100, .arr 1 (both.map stC)), (10000110, .arr 1 (out.map stC))]⟩)
    (fun i out => out.length ≤ i) (fun _ out x => if x ∈ k then out ++ [x] else out)
    (fun out => (.exit 0, ⟨mkE 147 [(3, .pv 10000 0), (4, .pv 10010 0), (5, .pv 10020 0), (7, .d (.bool und)), (8, .pv 50060 0), (9, .pv 50070 0), (10, .os 10000100 both.length 0 both.length), (11, .os 10000110 out.length 0 out.length)],
      [(10000, .var [.d (.int .i64 n), txS g]), (10010, .var [.d (.int .i64 m), txS k]), (10020, .var [.d (.int .i64 p), txS h]), (50060, .var [.d (.int .i64 J.n), txS J.g]), (50070, .var [.d (.int .i64 M.n), txS M.g]), (10000100, .arr 1 (both.map stC)), (10000110, .arr 1 (out.map stC))]⟩)) (by simp)
    (fun i out x hi hx hI => by
      have hw := wrap_ok (a := (i : Int) + 1) (by omega) (by omega)
      have hc := run_plIn k x hb'
      have g1 : out.length + 1 ≤ LIM := by unfold LIM; omega
      by_cases hm : x ∈ k
      · refine ⟨by rw [if_pos hm]; simp; omega, ?_⟩
        simp -implicitDefEqProofs [body_law32_LatticeTells_0, mask_law32_LatticeTells_0, hi, hx, hc, hm, hw, g1, stC_eq]
      · refine ⟨by rw [if_neg hm]; omega, ?_⟩
        simp -implicitDefEqProofs [body_law32_LatticeTells_0, mask_law32_LatticeTells_0, hi, hx, hc, hm, hw])
    (fun out hI => by simp -implicitDefEqProofs [body_law32_LatticeTells_0]) [] (Nat.le_refl _)
  have hf : ∀ (l : List Txt) (i : Nat) (out : List Txt), foldI (fun _ out x => if x ∈ k then out ++ [x] else out) l i out = out ++ l.filter fun s => decide (s ∈ k) := by
    intro l
    induction l with
    | nil => intro i out; simp
    | cons x r ih =>
      intro i out
      rw [foldI_cons, ih, List.filter_cons]
      by_cases hx : x ∈ k <;> simp [hx]
  simp only [hf, List.nil_append] at hL
  have hw1 : withinB g k = withinB g k := rfl
  have gl : g.length ≤ LIM := by unfold LIM; omega
  have kl : k.length ≤ LIM := by unfold LIM; omega
  have gkl : g.length + k.length ≤ LIM := by unfold LIM; omega
  unfold underB at u1 u2 u3 u4
  simp only at u1 u2 u3 u4
  have hL' := hL ⟨if m > n then m else n, setT (g ++ k)⟩ ⟨if m < n then m else n, setT (g.filter fun s => decide (s ∈ k))⟩ (decide (n ≤ m) && withinB g k) (g ++ k)
  simp only at hL'
  clear hL
  generalize hW1 : withinB g k = W1 at *
  generalize hW2 : withinB g h = W2 at *
  generalize hW3 : withinB h k = W3 at *
  generalize hC : laCheck ⟨n, g⟩ = C at *
  have st1 : exL X (headA 10 code_law32_LatticeTells.body) (start code_law32_LatticeTells.ntmps [laA ⟨n, g⟩, laA ⟨m, k⟩, laA ⟨p, h⟩] []) =
      some (.norm, ⟨mkE 147 [(3, .pv 10000 0), (4, .pv 10010 0), (5, .pv 10020 0), (7, .d (.bool (decide (n ≤ m) && W1))), (8, .pv 50060 0), (9, .pv 50070 0), (10, .os 10000100 (g ++ k).length 0 (g ++ k).length), (11, .os 10000110 (g.filter fun s => decide (s ∈ k)).length 0 (g.filter fun s => decide (s ∈ k)).length)],
      [(10000, .var [.d (.int .i64 n), txS g]), (10010, .var [.d (.int .i64 m), txS k]), (10020, .var [.d (.int .i64 p), txS h]), (50060, .var [.d (.int .i64 (if m > n then m else n)), txS (setT (g ++ k))]), (50070, .var [.d (.int .i64 (if m < n then m else n)), txS (setT (g.filter fun s => decide (s ∈ k)))]), (10000100, .arr 1 ((g ++ k).map stC)), (10000110, .arr 1 ((g.filter fun s => decide (s ∈ k)).map stC))]⟩) := by
    by_cases hnm : n ≤ m <;> by_cases hg : g = [] <;> by_cases hk : k = [] <;>
      (try subst hg) <;> (try subst hk) <;> simp only [hnm, decide_true, decide_false, Bool.true_and, Bool.false_and] at hL' ⊢ <;>
      simp only [laA, txS, List.map_nil, List.nil_append, List.append_nil, List.filter_nil] at j1 k1 w1 hL' ⊢ <;>
      simp -implicitDefEqProofs [code_law32_LatticeTells, alive32, j1, k1, w1, gl, kl, gkl, *] <;>
      (rw [hL' _ (by simp -implicitDefEqProofs [mask_law32_LatticeTells_0])]) <;> simp -implicitDefEqProofs
  clear hL'
  rw [cutA X 10 _ _ _ st1]
  have st2 : exL X (headA 3 (tailA 10 code_law32_LatticeTells.body)) ⟨mkE 147 [(3, .pv 10000 0), (4, .pv 10010 0), (5, .pv 10020 0), (7, .d (.bool (decide (n ≤ m) && W1))), (8, .pv 50060 0), (9, .pv 50070 0), (10, .os 10000100 (g ++ k).length 0 (g ++ k).length), (11, .os 10000110 (g.filter fun s => decide (s ∈ k)).length 0 (g.filter fun s => decide (s ∈ k)).length)],
      [(10000, .var [.d (.int .i64 n), txS g]), (10010, .var [.d (.int .i64 m), txS k]), (10020, .var [.d (.int .i64 p), txS h]), (50060, .var [.d (.int .i64 (if m > n then m else n)), txS (setT (g ++ k))]), (50070, .var [.d (.int .i64 (if m < n then m else n)), txS (setT (g.filter fun s => decide (s ∈ k)))]), (10000100, .arr 1 ((g ++ k).map stC)), (10000110, .arr 1 ((g.filter fun s => decide (s ∈ k)).map stC))]⟩ =
      some (.norm, ⟨mkE 147 [(3, .pv 10000 0), (4, .pv 10010 0), (5, .pv 10020 0), (7, .d (.bool (decide (n ≤ m) && W1)))], [(10000, .var [.d (.int .i64 n), txS g]), (10010, .var [.d (.int .i64 m), txS k]), (10020, .var [.d (.int .i64 p), txS h])]⟩) := by
    clear st1 j1 k1
    generalize (decide (n ≤ m) && W1) = W at *
    generalize setT (g ++ k) = S1 at *
    generalize (g.filter fun s => decide (s ∈ k)) = F at *
    generalize setT F = S2 at *
    generalize (g ++ k) = G at *
    simp only [laA] at r1 r2 s1 s2
    cases v1 : noViews (.d (.vs false (S1.map stC))) <;> cases v2 : noViews (.d (.vs false (S2.map stC))) <;>
      simp -implicitDefEqProofs [code_law32_LatticeTells, r1, r2, s1, s2, v1, v2]
  clear st1
  rw [cutA X 3 _ _ _ st2]
  clear st2 j1 k1 r1 r2 s1 s2
  generalize (decide (n ≤ m) && W1) = W at *
  simp -implicitDefEqProofs (maxSteps := 4000000) [code_law32_LatticeTells, m1, m2, u1, u2, u3, u4, w2, w3]
  by_cases q1 : n ≤ p <;> by_cases q2 : p ≤ m <;> cases W2 <;> cases W3 <;> simp [q1, q2] <;> (try omega)
end Bz.S
