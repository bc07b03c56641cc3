/- Scripts over stores: StoreRuns, StoreClones. -/
import Derived.Test.YtpopnggdnkfemaaStore3
import Derived.KernelRfl
set_option linter.unusedSimpArgs false
set_option linter.unusedVariables false
namespace Bz.S
open Go Bz
set_option maxRecDepth 10000
set_option maxHeartbeats 4000000

structure Op5 where
  k : Int
  e : Txt
  n : Txt
  v : Va
def opC (o : Op5) : List D := [.int .i64 o.k, .str o.e, .str o.n, .int .i64 o.v.kind, .int .i64 o.v.n, .str o.v.s, .vs false (o.v.l.map stC)]
@[simp] theorem opC_eq (o : Op5) : opC o = [.int .i64 o.k, .str o.e, .str o.n, .int .i64 o.v.kind, .int .i64 o.v.n, .str o.v.s, .vs false (o.v.l.map stC)] := rfl
@[simp] theorem sized_op5 (l : List Op5) : sized 7 (l.map opC) = true := sized_map 7 opC (fun _ => rfl) l
abbrev opA (o : Op5) : AV := .agg [.d (.int .i64 o.k), .d (.str o.e), .d (.str o.n), .d (.int .i64 o.v.kind), .d (.int .i64 o.v.n), .d (.str o.v.s), txS o.v.l]
abbrev opS (l : List Op5) : AV := .d (.vs false (l.map opC))

/-- a setting's answer -/
def codeM (Ds : List Dec) (n : Txt) (v : Va) : Int := if kindM Ds n = 0 then 14 else if ¬ kindM Ds n = v.kind then 31 else vaCheck v
abbrev kinds (Ds : List Dec) : List Dec := Ds.foldl kindsG []
theorem setR_code (Ds : List Dec) (n : Txt) (v : Va) : setR (kinds Ds) n v = codeM Ds n v := by unfold setR codeM; rw [kind_same]
theorem p_Set' (Ds : List Dec) (C : List Cel) (e n : Txt) (v : Va) (hv : VaOK v) (hD : Ds.length ≤ BIG) (hC : C.length ≤ BIG) :
    R F_ref05_Set [staA Ds C, stA e, stA n, vaA v] [] = some (.tup [staA Ds (if codeM Ds n v = 0 then setM e n v C else C), .d (.int .i64 (codeM Ds n v))], []) := by
  rw [p_Set Ds C e n v hv hD hC]
  unfold codeM
  by_cases g1 : kindM Ds n = 0
  · simp [g1]
  · by_cases g2 : kindM Ds n = v.kind
    · rw [g2] at g1; simp [g1, g2]
    · simp [g1, g2]
def getM (Ds : List Dec) (C : List Cel) (e n : Txt) : Va := if kindM Ds n = 0 then ⟨0, 0, [], []⟩ else match C.reverse.find? (isK e n) with | some c => c.v | none => ⟨kindM Ds n, 0, [], []⟩
theorem p_Get' (Ds : List Dec) (C : List Cel) (e n : Txt) (hD : Ds.length ≤ BIG) (hC : C.length ≤ BIG) :
    R F_ref05_Get [staA Ds C, stA e, stA n] [] = some (.tup [vaA (getM Ds C e n), .d (.bool (!decide (kindM Ds n = 0)))], []) := p_Get Ds C e n hD hC
theorem s_Get' {Ds : List Dec} {S C : List Cel} (h : J S C) (e n : Txt) :
    R F_store_Store_Get [.pv 0 0, stA e, stA n] (sH (kinds Ds) S) = some (.tup [vaA (getM Ds C e n), .d (.bool (!decide (kindM Ds n = 0)))], sH (kinds Ds) S) := by
  rw [s_Get _ S e n (kinds_ok Ds) h.ok]
  have : getR (kinds Ds) S e n = (getM Ds C e n, !decide (kindM Ds n = 0)) := by
    unfold getR getM
    rw [kind_same, J_find h]
    by_cases g : kindM Ds n = 0
    · simp [g]
    · simp only [if_neg g]
      cases C.reverse.find? (isK e n) <;> simp [g]
  rw [this]

def stepS (Ds : List Dec) (o : Op5) (S : List Cel) : List Cel := if o.k = 1 then (if codeM Ds o.n o.v = 0 then setC o.e o.n o.v S else S) else S
def stepM (Ds : List Dec) (o : Op5) (C : List Cel) : List Cel := if o.k = 1 then (if codeM Ds o.n o.v = 0 then setM o.e o.n o.v C else C) else C
theorem J_step {Ds : List Dec} {S C : List Cel} (h : J S C) {o : Op5} (hv : VaOK o.v) : J (stepS Ds o S) (stepM Ds o C) := by
  unfold stepS stepM
  split
  · split
    · exact J_set h _ _ _ hv
    · exact h
  · exact h
theorem stepM_len (Ds : List Dec) (o : Op5) (C : List Cel) : (stepM Ds o C).length ≤ C.length + 1 := by
  unfold stepM setM
  have := List.length_filter_le (fun c => !isK o.e o.n c) C
  split
  · split <;> simp; omega
  · omega
theorem getM_l {Ds : List Dec} {S C : List Cel} (h : J S C) (e n : Txt) : (getM Ds C e n).l.length ≤ BIG := by
  unfold getM
  split
  · simp
  · split
    · rename_i c hc
      have : c ∈ C.reverse := List.mem_of_find?_eq_some hc
      exact (h.ok c (h.perm.mem_iff.2 (by simpa using this))).l
    · simp

theorem run_step05 (Ds : List Dec) (S C : List Cel) (o : Op5) (h : J S C) (hv : VaOK o.v) (hD : Ds.length ≤ BIG) (hC : C.length ≤ BIG) :
    R F_law05_step [.pv 0 0, staA Ds C, opA o] (sH (kinds Ds) S) = some (.tup [staA Ds (stepM Ds o C), .d (.bool true)], sH (kinds Ds) (stepS Ds o S)) := by
  refine R_of at_law05_step (by decide) ?_
  have hSC := h.perm.length_eq
  have h1 := s_Set (kinds Ds) S o.e o.n o.v hv
  rw [setR_code] at h1
  have h2 := p_Set' Ds C o.e o.n o.v hv hD hC
  have h3 := s_Get' (Ds := Ds) h o.e o.n
  have h4 := p_Get' Ds C o.e o.n hD hC
  have h5 := s_Kind (kinds Ds) S o.n
  rw [kind_same] at h5
  have h6 := p_Kind Ds C o.n hD
  have h7 := run_Names (kinds Ds) S o.e (by omega)
  rw [J_names h] at h7
  have h8 := p_names Ds C o.e hC
  have h9 := s_Count (kinds Ds) S
  rw [hSC] at h9
  have hnl : (setT ((C.filter fun c => c.e = o.e).map (·.n))).length ≤ BIG := by
    have g1 := setT_len ((C.filter fun c => c.e = o.e).map (·.n))
    have g2 : ((C.filter fun c => c.e = o.e).map (·.n)).length ≤ C.length := by simp; exact List.length_filter_le _ _
    omega
  have h10 := run_plTexts _ _ hnl hnl
  have h11 := run_plValue (getM Ds C o.e o.n) (getM Ds C o.e o.n) (getM_l h o.e o.n) (getM_l h o.e o.n)
  simp only [decide_true] at h10 h11
  unfold stepM stepS
  generalize setT ((C.filter fun c => c.e = o.e).map (·.n)) = nm at *
  generalize getM Ds C o.e o.n = gv at *
  obtain ⟨gk, gn, gs, gl⟩ := gv
  obtain ⟨k, e, n, vk, vn, vs, vl⟩ := o
  simp only at *
  by_cases k1 : k = 1
  · subst k1
    generalize codeM Ds n ⟨vk, vn, vs, vl⟩ = c at *
    by_cases c0 : c = 0
    · subst c0
      simp only [if_true] at h1 h2
      simp -implicitDefEqProofs [code_law05_step, h1, h2]
    · simp only [if_neg c0] at h1 h2
      simp -implicitDefEqProofs [code_law05_step, h1, h2, c0]
  · by_cases k2 : k = 2
    · subst k2
      by_cases g : kindM Ds n = 0
      · simp only [g, decide_true, Bool.not_true] at h3 h4
        simp -implicitDefEqProofs [code_law05_step, h3, h4, h11]
      · simp only [g, decide_false, Bool.not_false] at h3 h4
        simp -implicitDefEqProofs [code_law05_step, h3, h4, h11]
    · by_cases k3 : k = 3
      · subst k3
        simp -implicitDefEqProofs [code_law05_step, h5, h6]
      · by_cases k4 : k = 4
        · subst k4
          simp -implicitDefEqProofs [code_law05_step, h7, h8, h10]
        · simp -implicitDefEqProofs [code_law05_step, k1, k2, k3, k4, h9]
end Bz.S
