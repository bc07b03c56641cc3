/- Roles: names, tops, checks. -/
import Derived.Test.YtjnbdnabdinpeaaRc3
set_option linter.unusedSimpArgs false
set_option linter.unusedVariables false
namespace Bz.S
open Go Bz
set_option maxRecDepth 10000
set_option maxHeartbeats 4000000

def allP (l : List Pr) : List Txt := l.flatMap fun p => [p.low, p.high]
theorem allP_len (l : List Pr) : (allP l).length = 2 * l.length := by
  unfold allP
  induction l with
  | nil => rfl
  | cons a r ih => simp [List.flatMap_cons] at ih ⊢; omega
theorem allP_mem {l : List Pr} {x : Txt} : x ∈ allP l ↔ ∃ p ∈ l, x = p.low ∨ x = p.high := by
  unfold allP; simp

theorem foldI_app {α β : Type} (f : α → List β) : ∀ (l : List α) (i : Nat) (o : List β), foldI (fun _ out x => out ++ f x) l i o = o ++ l.flatMap f
  | [], _, o => by simp [foldI]
  | x :: r, i, o => by rw [foldI_cons, foldI_app f r]; simp

theorem run_names (l : List Pr) (hl : l.length ≤ 1048576) : R F_roles_names [prS l] [] =
    some (.os 0 (2 * l.length) 0 (setT (allP l)).length, [(0, .arr 1 ((compR (sortTx (allP l))).map stC))]) := by
  refine R_of at_roles_names (by decide) ?_
  have hL := loop_fold (X := X) (mask := mask_roles_names_0) (body := body_roles_names_0) l
    (fun i (o : List Txt) => ⟨mkE 24 [(3, .os 10000030 o.length 0 o.length), (6, prS l), (7, .d (.int .i64 l.length)), (8, .d (.int .i64 i))], [(10000030, .arr 1 (o.map stC))]⟩)
    (fun i o => o.length = 2 * i) (fun _ o p => o ++ [p.low, p.high])
    (fun o => (.exit 0, ⟨mkE 24 [(3, .os 10000030 o.length 0 o.length)], [(10000030, .arr 1 (o.map stC))]⟩)) (by simp)
    (fun i o p hi hx hI => by
      have hw := wrap_ok (a := (i : Int) + 1) (by omega) (by omega)
      have g1 : o.length + 2 ≤ LIM := by unfold LIM; omega
      refine ⟨by simp; omega, ?_⟩
      obtain ⟨a, b⟩ := p
      simp -implicitDefEqProofs [body_roles_names_0, mask_roles_names_0, hi, hx, prC_eq, hw, g1, stC_eq]) (fun o hI => by
      simp -implicitDefEqProofs [body_roles_names_0]) [] rfl
  rw [foldI_app (fun p : Pr => [p.low, p.high]) l 0 []] at hL
  rw [List.nil_append] at hL
  have ha := allP_len l
  have e : (l.flatMap fun p => [p.low, p.high]) = allP l := rfl
  rw [e] at hL
  unfold setT
  generalize allP l = o at *
  have hs := run_SortTx o (by unfold LIM; omega)
  have es : (sortTx o).length = o.length := isort_len o
  have hc := run_CompactTx (sortTx o) (by rw [es]; unfold BIG; omega)
  rw [es] at hc
  unfold compR at *
  rw [es] at hc ⊢
  simp -implicitDefEqProofs [code_roles_names]
  rw [hL _ (by simp -implicitDefEqProofs [mask_roles_names_0])]
  simp -implicitDefEqProofs [hs, hc, ← ha]

def isLow (l : List Pr) (r : Txt) : Bool := decide (0 < (upsP l r).length)
theorem isLow_iff {l : List Pr} {r : Txt} : isLow l r = true ↔ ∃ p ∈ l, p.low = r := by
  unfold isLow
  rw [decide_eq_true_eq, List.length_pos_iff_exists_mem]
  exact ⟨fun ⟨x, hx⟩ => let ⟨p, h1, h2, _⟩ := upsP_mem.1 hx; ⟨p, h1, h2⟩, fun ⟨p, h1, h2⟩ => ⟨p.high, upsP_mem.2 ⟨p, h1, h2, rfl⟩⟩⟩
theorem run_Tops1 (l : List Pr) (hl : l.length ≤ BIG) (e : Txt) : R F_roles_Tops_1 [stA e, .pv 0 0] [(0, .var [prS l])] = some (.d (.bool (isLow l e)), [(0, .var [prS l])]) := by
  refine R_of at_roles_Tops_1 (by decide) ?_
  have h := run_ups l e hl
  unfold isLow
  simp -implicitDefEqProofs [code_roles_Tops_1, h]

def topsP (l : List Pr) : List Txt := (setT (allP l)).filter fun x => !isLow l x
theorem run_Tops (l : List Pr) (hl : l.length ≤ 1048576) : R F_roles_Tops [prS l] [] = some (txS (topsP l), []) := by
  refine R_of at_roles_Tops (by decide) ?_
  have hn := run_names l hl
  have ha := allP_len l
  have hk := compL_len (sortTx (allP l))
  have es : (sortTx (allP l)).length = (allP l).length := isort_len _
  unfold compR at hn
  unfold topsP
  have e : compL (sortTx (allP l)) = setT (allP l) := rfl
  rw [e] at hn hk
  rw [es] at hn hk
  generalize setT (allP l) = k at *
  obtain ⟨z, hz⟩ : ∃ z : List Txt, List.replicate ((allP l).length - k.length) ([] : Txt) = z := ⟨_, rfl⟩
  rw [hz] at hn
  have hzl : k.length + z.length = 2 * l.length := by rw [← hz]; simp; omega
  rw [← hzl] at hn
  rw [List.map_append] at hn
  have hd := run_DeleteTx1 k z l (by unfold BIG; omega) F_roles_Tops_1 rfl (isLow l) (fun e _ => run_Tops1 l (by unfold BIG; omega) e)
  have hkl := List.length_filter_le (fun x => !isLow l x) k
  have q1 : (k.filter fun v => !isLow l v).length + (k.length - (k.filter fun v => !isLow l v).length + z.length) = k.length + z.length := by omega
  have q2 : (k.filter fun v => !isLow l v).length ≤ k.length + z.length := by omega
  simp -implicitDefEqProofs [code_roles_Tops, hn, hd, q1, q2]

def lowP (l : List Pr) : List Txt := l.map Pr.low
theorem foldI_app1 {α β : Type} (f : α → β) : ∀ (l : List α) (i : Nat) (o : List β), foldI (fun _ out x => out ++ [f x]) l i o = o ++ l.map f
  | [], _, o => by simp [foldI]
  | x :: r, i, o => by rw [foldI_cons, foldI_app1 f r]; simp
theorem foldI_two {α β γ : Type} (f : β → α → β) (g : γ → α → γ) : ∀ (l : List α) (i : Nat) (o : β × γ), foldI (fun _ a x => (f a.1 x, g a.2 x)) l i o = (foldI (fun _ a x => f a x) l i o.1, foldI (fun _ a x => g a x) l i o.2)
  | [], _, o => rfl
  | x :: r, i, o => by rw [foldI_cons, foldI_two f g r, foldI_cons, foldI_cons]
theorem foldI_flt {α : Type} (p : α → Bool) : ∀ (l : List α) (i : Nat) (o : List α), foldI (fun _ out x => if p x = true then out ++ [x] else out) l i o = o ++ l.filter p
  | [], _, o => by simp [foldI]
  | x :: r, i, o => by
    rw [foldI_cons, foldI_flt p r]
    cases h : p x <;> simp [h]

theorem run_RolesChecks (l : List Pr) (hb0 : bulkL [.vs false (l.map prC)] ≤ 1048576) : R F_law31_RolesChecks [prS l] [] = some (.d (.bool true), []) := by
  have hok := prsOK_bulk hb0
  refine R_of at_law31_RolesChecks (by decide) ?_
  have hck := run_RCheck l hok
  by_cases h1 : 64 < l.length
  · have h1' : (64 : Int) < l.length := by omega
    have e : roCheck l = 3 := by unfold roCheck; rw [if_pos h1]
    rw [e] at hck
    simp -implicitDefEqProofs [code_law31_RolesChecks, alive31, h1, h1', hck]
  have h1' : ¬ (64 : Int) < l.length := by omega
  have hlc := run_31check l hok
  have hT := run_Tops l hok.len
  have hlen := hok.len
  have hL := loop_fold (X := X) (mask := mask_law31_RolesChecks_0) (body := body_law31_RolesChecks_0) l
    (fun i (o : List Txt × List Txt) => ⟨mkE 76 [(0, prS l), (3, .os 10000030 o.1.length 0 o.1.length), (4, .os 10000040 o.2.length 0 o.2.length), (5, .d (.int .i64 i))], [(10000030, .arr 1 (o.1.map stC)), (10000040, .arr 1 (o.2.map stC))]⟩)
    (fun i o => o.1.length = i ∧ o.2.length = 2 * i) (fun _ o p => (o.1 ++ [p.low], o.2 ++ [p.low, p.high]))
    (fun o => (.exit 0, ⟨mkE 76 [(0, prS l), (3, .os 10000030 o.1.length 0 o.1.length), (4, .os 10000040 o.2.length 0 o.2.length)], [(10000030, .arr 1 (o.1.map stC)), (10000040, .arr 1 (o.2.map stC))]⟩)) (by simp)
    (fun i o p hi hx hI => by
      obtain ⟨o1, o2⟩ := o
      obtain ⟨i1, i2⟩ := hI
      simp only at i1 i2
      have hw := wrap_ok (a := (i : Int) + 1) (by omega) (by omega)
      have g1 : o2.length + 2 ≤ LIM := by unfold LIM; omega
      have g2 : o1.length + 1 ≤ LIM := by unfold LIM; omega
      refine ⟨by simp; omega, ?_⟩
      obtain ⟨a, b⟩ := p
      simp -implicitDefEqProofs [body_law31_RolesChecks_0, mask_law31_RolesChecks_0, hi, hx, prC_eq, hw, g1, g2, stC_eq]) (fun o hI => by
      simp -implicitDefEqProofs [body_law31_RolesChecks_0]) ([], []) ⟨rfl, rfl⟩
  rw [foldI_two (fun (o : List Txt) (p : Pr) => o ++ [p.low]) (fun (o : List Txt) (p : Pr) => o ++ [p.low, p.high]), foldI_app (fun p : Pr => [p.low, p.high]) l 0 [], foldI_app1 Pr.low l 0 []] at hL
  simp only [List.nil_append] at hL
  have e : (l.flatMap fun p => [p.low, p.high]) = allP l := rfl
  have e2 : l.map Pr.low = lowP l := rfl
  rw [e, e2] at hL
  have ha := allP_len l
  have hlw : (lowP l).length = l.length := by simp [lowP]
  have hR := run_Rising (allP l) (by unfold BIG; omega)
  have hsl := setT_len (allP l)
  have htp : topsP l = (setT (allP l)).filter fun x => !decide (x ∈ lowP l) := by
    unfold topsP
    congr 1
    funext x
    congr 1
    rw [Bool.eq_iff_iff, isLow_iff, decide_eq_true_eq]
    unfold lowP
    simp
  have htl : (topsP l).length ≤ BIG := by rw [htp]; have := List.length_filter_le (fun x => !decide (x ∈ lowP l)) (setT (allP l)); unfold BIG; omega
  have hpt := run_plTexts (topsP l) (topsP l) htl htl
  simp only [decide_true] at hpt
  generalize setT (allP l) = k at *
  generalize allP l = o2 at *
  generalize lowP l = o1 at *
  have hL2 := loop_fold (X := X) (mask := mask_law31_RolesChecks_1) (body := body_law31_RolesChecks_1) k
    (fun i (o : List Txt) => ⟨mkE 76 [(0, prS l), (3, .os 10000030 o1.length 0 o1.length), (4, txS k), (6, .os 10000060 o.length 0 o.length), (7, .d (.int .i64 i))], [(10000030, .arr 1 (o1.map stC)), (10000060, .arr 1 (o.map stC))]⟩)
    (fun i o => o.length ≤ i) (fun _ o x => if (!decide (x ∈ o1)) = true then o ++ [x] else o)
    (fun o => (.exit 2, ⟨mkE 76 [(0, prS l), (6, .os 10000060 o.length 0 o.length)], [(10000060, .arr 1 (o.map stC))]⟩)) (by simp)
    (fun i o x hi hx hI => by
      have hw := wrap_ok (a := (i : Int) + 1) (by omega) (by omega)
      have g1 : o.length + 1 ≤ LIM := by unfold LIM; omega
      have hin := run_plIn o1 x (by unfold BIG; omega)
      by_cases hm : x ∈ o1
      · refine ⟨by simp [hm]; omega, ?_⟩
        simp -implicitDefEqProofs [body_law31_RolesChecks_1, mask_law31_RolesChecks_1, hi, hx, hin, hm, hw]
      · refine ⟨by simp [hm]; omega, ?_⟩
        simp -implicitDefEqProofs [body_law31_RolesChecks_1, mask_law31_RolesChecks_1, hi, hx, hin, hm, hw, g1, stC_eq]) (fun o hI => by
      simp -implicitDefEqProofs [body_law31_RolesChecks_1]) [] (Nat.zero_le _)
  rw [foldI_flt (fun x => !decide (x ∈ o1)) k 0 [], List.nil_append, ← htp] at hL2
  simp -implicitDefEqProofs [code_law31_RolesChecks, alive31, h1, h1']
  rw [hL _ (by simp -implicitDefEqProofs [mask_law31_RolesChecks_0])]
  cases v : noViews (txS k) <;>
  · simp -implicitDefEqProofs [hR, v]
    rw [hL2 _ (by simp -implicitDefEqProofs [mask_law31_RolesChecks_1])]
    simp -implicitDefEqProofs [hck, hlc, hT, hpt]
end Bz.S
