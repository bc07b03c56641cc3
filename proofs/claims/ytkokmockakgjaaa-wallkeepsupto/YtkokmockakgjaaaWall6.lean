/- Scripts over walls. -/
import Derived.Test.YtkokmockakgjaaaWall5
import Derived.Test.YtkokmockakgjaaaPlV
import Derived.KernelRfl
set_option linter.unusedSimpArgs false
set_option linter.unusedVariables false
namespace Bz.S
open Go Bz
set_option maxRecDepth 10000
set_option maxHeartbeats 4000000

def stepM3 (D : List Cl) (M : List Sg) (x : Oq) : List Sg :=
  if x.k = 1 then M else if x.k = 2 then (if mayM D M x.w x.o then M ++ [⟨x.w, x.o⟩] else M) else if x.k = 3 then M.filter fun s => decide (s.w ≠ x.w) else M
def stepS3 (D : List Cl) (S : List Ct) (M : List Sg) (x : Oq) : List Ct :=
  if x.k = 1 then S else if x.k = 2 then (if mayM D M x.w x.o then bumpW x.w x.o S else S) else if x.k = 3 then forgetW S x.w else S
theorem J3.step {S : List Ct} {M : List Sg} (h : J3 S M) (D : List Cl) (x : Oq) : J3 (stepS3 D S M x) (stepM3 D M x) := by
  unfold stepS3 stepM3
  by_cases h1 : x.k = 1
  · simp only [h1, if_true]; exact h
  · by_cases h2 : x.k = 2
    · simp only [h1, h2, if_true, if_false]
      by_cases hm : mayM D M x.w x.o = true
      · simp only [hm, if_true]; exact h.bump _ _
      · simp only [hm, if_false]; exact h
    · by_cases h3 : x.k = 3
      · simp only [h1, h2, h3, if_true, if_false]; exact h.forget _
      · simp only [h1, h2, h3, if_false]; exact h
theorem bumpW_len (e o : Txt) : ∀ S : List Ct, (bumpW e o S).length ≤ S.length + 1
  | [] => by simp [bumpW]
  | c :: r => by
    have := bumpW_len e o r
    unfold bumpW; split <;> simp <;> omega
theorem stepS3_len {S : List Ct} {M : List Sg} (h : J3 S M) (D : List Cl) (x : Oq) : (stepS3 D S M x).length ≤ S.length + 1 := by
  unfold stepS3
  have h1 := bumpW_len x.w x.o S
  have h2 := List.length_filter_le (fun c : Ct => decide (c.w ≠ x.w)) S
  rw [forget_eq h.nodup]
  repeat' split
  all_goals omega
theorem stepM3_len (D : List Cl) (M : List Sg) (x : Oq) : (stepM3 D M x).length ≤ M.length + 1 := by
  unfold stepM3
  have h2 := List.length_filter_le (fun c : Sg => decide (c.w ≠ x.w)) M
  repeat' split
  all_goals first | omega | (simp; done) | (simp; omega)

theorem w_See' {S : List Ct} {M : List Sg} (h : J3 S M) (D : List Cl) (e o : Txt) (hS : S.length ≤ BIG) :
    R F_wall_Wall_See [.pv 0 0, stA e, stA o] (wH (clsK D) S) = some (.d (.bool (mayM D M e o)), wH (clsK D) (if mayM D M e o then bumpW e o S else S)) := by
  rw [w_See _ S e o hS, h.may]
theorem w_May' {S : List Ct} {M : List Sg} (h : J3 S M) (D : List Cl) (e o : Txt) (hS : S.length ≤ BIG) :
    R F_wall_Wall_May [.pv 0 0, stA e, stA o] (wH (clsK D) S) = some (.d (.bool (mayM D M e o)), wH (clsK D) S) := by
  rw [w_May _ S e o hS, h.may]
theorem w_Forget' {S : List Ct} {M : List Sg} (h : J3 S M) (K : List Cl) (e : Txt) (hS : S.length ≤ BIG) :
    R F_wall_Wall_Forget [.pv 0 0, stA e] (wH K S) = some (.d (.int .i64 (ofM M e).length), wH K (forgetW S e)) := by
  rw [w_Forget _ S e hS, h.seen]; unfold forgetW; rw [h.seen]
theorem w_Seen' {S : List Ct} {M : List Sg} (h : J3 S M) (K : List Cl) (e : Txt) (hS : S.length ≤ BIG) :
    R F_wall_Wall_Seen [.pv 0 0, stA e] (wH K S) = some (.os 3 (ofM M e).length 0 (ofM M e).length, wH K S ++ [(3, .arr 1 ((ofM M e).map stC))]) := by
  rw [w_Seen _ S e hS, h.seen]
theorem w_Leak' {S : List Ct} {M : List Sg} (h : J3 S M) (D : List Cl) (a b : Txt) (hS : S.length ≤ 1000000) :
    R F_wall_Wall_Leak [.pv 0 0, stA a, stA b] (wH (clsK D) S) = some (.d (.bool (clashK (foesK D) [] (ofM M a ++ ofM M b))), wH (clsK D) S) := by
  rw [w_Leak _ S a b hS, h.seen, h.seen, foes_K]

theorem run_step33 (D : List Cl) (S : List Ct) (M : List Sg) (x : Oq) (h : J3 S M) (hD : D.length ≤ BIG) (hS : S.length ≤ 1000000) (hM : M.length ≤ 1000000) :
    R F_law33_step [.pv 0 0, clS D, sgS M, oqA x] (wH (clsK D) S) = some (.tup [sgS (stepM3 D M x), .d (.bool true)], wH (clsK D) (stepS3 D S M x)) := by
  refine R_of at_law33_step (by decide) ?_
  have hS' : S.length ≤ BIG := by unfold BIG; omega
  have hM' : M.length ≤ BIG := by unfold BIG; omega
  have pm := p_may D M x hD hM'
  obtain ⟨k, e, o⟩ := x
  unfold stepM3 stepS3
  simp only at pm ⊢
  generalize hK : clsK D = K at *
  by_cases h1 : k = 1
  · subst h1
    have wm := w_May' h D e o hS'
    rw [hK] at wm
    simp -implicitDefEqProofs [code_law33_step, wm, pm]
  · by_cases h2 : k = 2
    · subst h2
      have ws := w_See' h D e o hS'
      rw [hK] at ws
      have g1 : M.length + 1 ≤ LIM := by unfold LIM; omega
      have g2 : M.length ≤ LIM := by unfold LIM; omega
      cases hm : mayM D M e o with
      | true =>
        rw [hm] at ws pm
        simp only [if_true] at ws
        simp -implicitDefEqProofs [code_law33_step, ws, pm, g1, g2]
      | false =>
        rw [hm] at ws pm
        simp only [Bool.false_eq_true, if_false] at ws
        simp -implicitDefEqProofs [code_law33_step, ws, pm, g1, g2]
    · by_cases h3 : k = 3
      · subst h3
        have wf := w_Forget' h K e hS'
        have po := p_of M e hM'
        have hl := ofM_len M e
        have hL := loop_fold (X := X) (mask := mask_law33_step_0) (body := body_law33_step_0) M
          (fun i (out : List Sg) => ⟨mkE 128 [(0, .pv 0 0), (2, sgS M), (7, .pv 10000 0), (10, .os 10000100 out.length 0 out.length), (12, .d (.int .i64 i))], wH K S ++ [(10000, .var [.d (.int .i64 3), stA e, stA o]), (10000100, .arr 2 (out.map sgC))]⟩)
          (fun i out => out.length ≤ i) (fun _ out s => if s.w = e then out else out ++ [s])
          (fun out => (.exit 0, ⟨mkE 128 [(0, .pv 0 0), (2, sgS M), (7, .pv 10000 0), (10, .os 10000100 out.length 0 out.length)], wH K S ++ [(10000, .var [.d (.int .i64 3), stA e, stA o]), (10000100, .arr 2 (out.map sgC))]⟩)) (by simp)
          (fun i out s hi hs hI => by
            have hw := wrap_ok (a := (i : Int) + 1) (by omega) (by omega)
            obtain ⟨w, p⟩ := s
            have g1 : out.length + 1 ≤ LIM := by unfold LIM; omega
            by_cases hq : w = e
            · refine ⟨by simp [hq]; omega, ?_⟩
              simp -implicitDefEqProofs [body_law33_step_0, mask_law33_step_0, hi, hs, hw, hq]
            · refine ⟨by simp [hq]; omega, ?_⟩
              simp -implicitDefEqProofs [body_law33_step_0, mask_law33_step_0, hi, hs, hw, hq, g1])
          (fun out _ => by simp -implicitDefEqProofs [body_law33_step_0]) [] (Nat.le_refl _)
        have hf : ∀ (l : List Sg) (i : Nat) (a : List Sg), foldI (fun _ out (s : Sg) => if s.w = e then out else out ++ [s]) l i a = a ++ l.filter fun s => decide (s.w ≠ e) := by
          intro l
          induction l with
          | nil => intro i a; simp
          | cons x r ih =>
            intro i a; rw [foldI_cons, ih]
            by_cases h : x.w = e <;> simp [h]
        rw [hf] at hL
        simp only [List.nil_append] at hL
        have hfl : (M.filter fun s => decide (s.w ≠ e)).length ≤ LIM := by
          have := List.length_filter_le (fun s : Sg => decide (s.w ≠ e)) M
          unfold LIM; omega
        generalize (M.filter fun s => decide (s.w ≠ e)) = out at *
        simp -implicitDefEqProofs [code_law33_step]
        rw [hL _ (by simp -implicitDefEqProofs [mask_law33_step_0])]
        have tk : List.take out.length (out.map sgC) = out.map sgC := List.take_of_length_le (by simp)
        simp -implicitDefEqProofs [wf, po, tk]
      · have po := p_of M e hM'
        have hl := ofM_len M e
        by_cases h4 : k = 4
        · subst h4
          have ws := w_Seen' h K e hS'
          generalize ofM M e = l at *
          have pt := run_plTexts l l (by unfold BIG; omega) (by unfold BIG; omega)
          have tk : List.take l.length (l.map stC) = l.map stC := List.take_of_length_le (by simp)
          simp -implicitDefEqProofs [code_law33_step, ws, po, pt, tk]
        · have po2 := p_of M o hM'
          have hl2 := ofM_len M o
          have wl := w_Leak' h D e o hS
          rw [hK] at wl
          generalize ofM M e = l at *
          generalize ofM M o = l2 at *
          have pc := p_clash D (l ++ l2) (by unfold BIG; simp; omega) hD
          have g1 : l.length + l2.length ≤ LIM := by unfold LIM; omega
          have g2 : l.length ≤ LIM := by unfold LIM; omega
          have g3 : l2.length ≤ LIM := by unfold LIM; omega
          have tk : List.take (l ++ l2).length ((l ++ l2).map stC) = (l ++ l2).map stC := List.take_of_length_le (by simp)
          have tk2 : List.take l2.length (l2.map stC) = l2.map stC := List.take_of_length_le (by simp)
          simp only [List.map_append, List.length_append] at tk
          have e1 : txS (l ++ l2) = .d (.vs false (l.map stC ++ l2.map stC)) := by show AV.d (.vs false ((l ++ l2).map stC)) = _; rw [List.map_append]
          rw [e1] at pc
          by_cases q1 : l = []
          · subst q1
            have po' : R F_law33_of [sgS M, stA e] [] = some (.d (.vs false []), []) := po
            by_cases q2 : l2 = []
            · subst q2
              have po2' : R F_law33_of [sgS M, stA o] [] = some (.d (.vs false []), []) := po2
              have pc' : R F_law33_clash [clS D, .d (.vs false [])] [] = some (.d (.bool (clashK (foesK D) [] [])), []) := pc
              simp -implicitDefEqProofs [code_law33_step, po', po2', wl, pc', h1, h2, h3, h4]
            · simp only [List.nil_append, List.map_nil] at wl pc
              simp -implicitDefEqProofs [code_law33_step, po', po2, wl, pc, h1, h2, h3, h4, g3, tk2, q2]
          · simp -implicitDefEqProofs [code_law33_step, po, po2, wl, pc, h1, h2, h3, h4, g1, g2, tk, q1]
end Bz.S
