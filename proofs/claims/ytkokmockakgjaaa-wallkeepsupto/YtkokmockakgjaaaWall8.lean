/- WallNever. -/
import Derived.Test.YtkokmockakgjaaaWall7
set_option linter.unusedSimpArgs false
set_option linter.unusedVariables false
namespace Bz.S
open Go Bz
set_option maxRecDepth 10000
set_option maxHeartbeats 4000000

theorem ofM_mem {M : List Sg} {e x : Txt} : x ∈ ofM M e ↔ ∃ s ∈ M, s.w = e ∧ s.o = x := by
  unfold ofM
  rw [setT_mem]
  simp only [List.mem_map, List.mem_filter, decide_eq_true_eq, and_assoc]
theorem mayM_true {D : List Cl} {M : List Sg} {e o : Txt} : mayM D M e o = true ↔ ∀ s ∈ M, s.w = e → foesK D s.o o = false := by
  unfold mayM
  simp only [Bool.not_eq_true', List.any_eq_false, ofM_mem]
  constructor
  · intro h s hs he
    have := h s.o ⟨s, hs, he, rfl⟩
    simpa using this
  · rintro h x ⟨s, hs, he, rfl⟩
    simp [h s hs he]
theorem foes_self (D : List Cl) (a : Txt) : foesK D a a = false := by
  unfold foesK
  cases clOf D a <;> simp
theorem foes_symm (D : List Cl) (a b : Txt) : foesK D a b = foesK D b a := by
  unfold foesK
  cases clOf D a with
  | none => cases clOf D b <;> rfl
  | some x =>
    cases clOf D b with
    | none => rfl
    | some y =>
      have h1 : decide (a ≠ b) = decide (b ≠ a) := by rw [decide_eq_decide]; exact ⟨fun h q => h q.symm, fun h q => h q.symm⟩
      have h2 : decide (x.c = y.c) = decide (y.c = x.c) := by rw [decide_eq_decide]; exact ⟨Eq.symm, Eq.symm⟩
      simp only [h1, h2]
theorem may_see (D : List Cl) (M : List Sg) (e o e' o' : Txt) : mayM D (M ++ [⟨e, o⟩]) e' o' = (mayM D M e' o' && !(decide (e = e') && foesK D o o')) := by
  rw [Bool.eq_iff_iff, Bool.and_eq_true, mayM_true, mayM_true]
  simp only [List.mem_append, List.mem_singleton, Bool.not_eq_true', Bool.and_eq_false_iff, decide_eq_false_iff_not]
  constructor
  · intro h
    refine ⟨fun s hs => h s (.inl hs), ?_⟩
    by_cases q : e = e'
    · exact .inr (h ⟨e, o⟩ (.inr rfl) q)
    · exact .inl q
  · rintro ⟨h1, h2⟩ s (hs | rfl) he
    · exact h1 s hs he
    · exact h2.resolve_left fun h => h he

def Calm (D : List Cl) (M : List Sg) : Prop := ∀ s ∈ M, ∀ t ∈ M, s.w = t.w → foesK D s.o t.o = false
theorem clashK_false (q : Txt → Txt → Bool) : ∀ (l out : List Txt), (∀ x ∈ l, ∀ y, y ∈ out ∨ y ∈ l → q x y = false) → clashK q out l = false
  | [], _, _ => rfl
  | x :: r, out, h => by
    have ih := clashK_false q r (out ++ [x]) fun a ha y hy => h a (by simp [ha]) y (by
      rcases hy with hy | hy
      · rcases List.mem_append.1 hy with hy | hy
        · exact .inl hy
        · exact .inr (by simp at hy; simp [hy])
      · exact .inr (by simp [hy]))
    simp only [clashK, ih, Bool.or_false, List.any_eq_false]
    intro y hy
    simp [h x (by simp) y (.inl hy)]
theorem Calm.pair {D : List Cl} {M : List Sg} (h : Calm D M) (e x y : Txt) (hx : x ∈ ofM M e) (hy : y ∈ ofM M e) : foesK D x y = false := by
  obtain ⟨s, hs, h1, rfl⟩ := ofM_mem.1 hx
  obtain ⟨t, ht, h2, rfl⟩ := ofM_mem.1 hy
  exact h s hs t ht (h1.trans h2.symm)
theorem Calm.clash {D : List Cl} {M : List Sg} (h : Calm D M) (e : Txt) : clashK (foesK D) [] (ofM M e) = false :=
  clashK_false _ _ _ fun x hx y hy => h.pair e x y hx (hy.resolve_left (by simp))
theorem Calm.clash2 {D : List Cl} {M : List Sg} (h : Calm D M) (e : Txt) : clashK (foesK D) [] (ofM M e ++ ofM M e) = false :=
  clashK_false _ _ _ fun x hx y hy => h.pair e x y ((List.mem_append.1 hx).elim id id) ((List.mem_append.1 (hy.resolve_left (by simp))).elim id id)
theorem Calm.see {D : List Cl} {M : List Sg} (h : Calm D M) {e o : Txt} (hm : mayM D M e o = true) : Calm D (M ++ [⟨e, o⟩]) := by
  rw [mayM_true] at hm
  intro s hs t ht he
  rcases List.mem_append.1 hs with hs | hs <;> rcases List.mem_append.1 ht with ht | ht
  · exact h s hs t ht he
  · simp at ht; subst ht; exact hm s hs he
  · simp at hs; subst hs; rw [foes_symm]; exact hm t ht he.symm
  · simp at hs ht; subst hs; subst ht; exact foes_self D o
theorem Calm.filter {D : List Cl} {M : List Sg} (h : Calm D M) (p : Sg → Bool) : Calm D (M.filter p) :=
  fun s hs t ht => h s (List.mem_filter.1 hs).1 t (List.mem_filter.1 ht).1

def nevP (D : List Cl) (p : List Ct × List Sg) (x : Oq) : List Ct × List Sg :=
  if x.k = 3 then (forgetW p.1 x.w, p.2.filter fun s => decide (s.w ≠ x.w)) else if mayM D p.2 x.w x.o then (bumpW x.w x.o p.1, p.2 ++ [⟨x.w, x.o⟩]) else p
theorem nevP_ok {D : List Cl} {p : List Ct × List Sg} (h : J3 p.1 p.2) (hc : Calm D p.2) (x : Oq) : J3 (nevP D p x).1 (nevP D p x).2 ∧ Calm D (nevP D p x).2 ∧ (nevP D p x).1.length ≤ p.1.length + 1 ∧ (nevP D p x).2.length ≤ p.2.length + 1 := by
  unfold nevP
  by_cases h3 : x.k = 3
  · rw [if_pos h3]
    have h2 := List.length_filter_le (fun c : Ct => decide (c.w ≠ x.w)) p.1
    have h4 := List.length_filter_le (fun c : Sg => decide (c.w ≠ x.w)) p.2
    refine ⟨h.forget _, hc.filter _, ?_, ?_⟩
    · simp only [forget_eq h.nodup]; omega
    · simp only; omega
  · rw [if_neg h3]
    by_cases hm : mayM D p.2 x.w x.o = true
    · rw [if_pos hm]
      exact ⟨h.bump _ _, hc.see hm, bumpW_len _ _ _, by simp⟩
    · rw [if_neg hm]
      exact ⟨h, hc, Nat.le_succ _, Nat.le_succ _⟩

theorem run_WallNever (D : List Cl) (l : List Oq) (who : Txt) (hb0 : bulkL [.vs false (D.map clC)] + (bulkL [.vs false (l.map oqC)] + bulkL [.str who]) ≤ 1048576) : R F_law33_WallNever [clS D, oqS l, stA who] [] = some (.d (.bool true), []) := by
  refine R_of at_law33_WallNever (by decide) ?_
  have hd := cls_bulk D
  have ho := oqs_bulk l
  simp only [bulkL, bulkD] at hb0
  have hD : D.length ≤ BIG := by unfold BIG; omega
  have hN := run_WNew D hD
  have hf := run_few33 l (by unfold BIG; omega)
  have hl : (l.take 40).length ≤ 40 := by simp; omega
  generalize l.take 40 = l' at *
  have hL := loop_fold (X := X) (mask := mask_law33_WallNever_0) (body := body_law33_WallNever_0) l'
    (fun i (p : List Ct × List Sg) => ⟨mkE 58 [(0, clS D), (1, oqS l'), (2, stA who), (7, .pv 40010 0), (8, .d (.int .i64 i))], [(40010, .var [.map 40011, .map 40012]), (40011, .mp false [.str] ((clsK D).map clA)), (40012, .mp true [.str, .str] (p.1.map entW))]⟩)
    (fun i p => J3 p.1 p.2 ∧ Calm D p.2 ∧ p.1.length ≤ i ∧ p.2.length ≤ i) (fun _ p x => nevP D p x)
    (fun p => (.exit 0, ⟨mkE 58 [], []⟩)) (by simp)
    (fun i p x hi hx hI => by
      obtain ⟨S, M⟩ := p
      obtain ⟨hJ, hc, l1, l2⟩ := hI
      simp only at hJ hc l1 l2
      have hw := wrap_ok (a := (i : Int) + 1) (by omega) (by omega)
      have hn := nevP_ok (p := (S, M)) hJ hc x
      have hS : S.length ≤ BIG := by unfold BIG; omega
      refine ⟨⟨hn.1, hn.2.1, by have := hn.2.2.1; simp only at this; omega, by have := hn.2.2.2; simp only at this; omega⟩, ?_⟩
      obtain ⟨j1, j2, j3, j4⟩ := hn
      have f1 := w_Forget' hJ (clsK D) x.w hS
      have f2 := w_See' hJ D x.w x.o hS
      obtain ⟨k, e, o⟩ := x
      simp only at f1 f2
      have hq : nevP D (S, M) ⟨k, e, o⟩ = if k = 3 then (forgetW S e, M.filter fun s => decide (s.w ≠ e)) else if mayM D M e o then (bumpW e o S, M ++ [⟨e, o⟩]) else (S, M) := rfl
      generalize hp : nevP D (S, M) ⟨k, e, o⟩ = p2 at *
      obtain ⟨S2, M2⟩ := p2
      simp only at j1 j2 j3 j4
      have hS2 : S2.length ≤ 1000000 := by omega
      have hS2' : S2.length ≤ BIG := by unfold BIG; omega
      have g1 := w_Seen' j1 (clsK D) e hS2'
      have g2 := w_Seen' j1 (clsK D) who hS2'
      have g3 := w_Leak' j1 D who who hS2
      have c1 := p_clash D (ofM M2 e) (by have := ofM_len M2 e; unfold BIG; omega) hD
      have c2 := p_clash D (ofM M2 who) (by have := ofM_len M2 who; unfold BIG; omega) hD
      rw [j2.clash] at c1 c2
      rw [j2.clash2] at g3
      generalize ofM M2 e = u1 at *
      generalize ofM M2 who = u2 at *
      have tk1 : List.take u1.length (u1.map stC) = u1.map stC := List.take_of_length_le (by simp)
      have tk2 : List.take u2.length (u2.map stC) = u2.map stC := List.take_of_length_le (by simp)
      clear hN
      generalize clsK D = K at *
      by_cases h3 : k = 3
      · rw [if_pos h3] at hq
        simp only [Prod.mk.injEq] at hq
        rw [← hq.1] at f1
        subst h3
        simp -implicitDefEqProofs [body_law33_WallNever_0, mask_law33_WallNever_0, hi, hx, hw, f1, g1, g2, g3, c1, c2, tk1, tk2]
      · rw [if_neg h3] at hq
        cases hm : mayM D M e o with
        | true =>
          rw [hm] at f2 hq
          simp only [if_true, Prod.mk.injEq] at f2 hq
          rw [← hq.1] at f2
          simp -implicitDefEqProofs [body_law33_WallNever_0, mask_law33_WallNever_0, hi, hx, hw, f2, g1, g2, g3, c1, c2, tk1, tk2, h3]
        | false =>
          rw [hm] at f2 hq
          simp only [Bool.false_eq_true, if_false, Prod.mk.injEq] at f2 hq
          obtain ⟨rfl, rfl⟩ := hq
          simp -implicitDefEqProofs [body_law33_WallNever_0, mask_law33_WallNever_0, hi, hx, hw, f2, g1, g2, g3, c1, c2, tk1, tk2, h3])
    (fun p _ => by
      generalize clsK D = K at *
      simp -implicitDefEqProofs [body_law33_WallNever_0]) ([], []) ⟨J3_nil, (fun s hs => nomatch hs : Calm D []), Nat.le_refl _, Nat.le_refl _⟩
  change R F_wall_New [clS D] [] = some (.pv 0 0, wH (clsK D) []) at hN
  generalize clsK D = K at *
  have hN' : R F_wall_New [clS D] [] = some (.pv 0 0, [(0, .var [.map 1, .map 2]), (1, .mp false [.str] (K.map clA)), (2, .mp true [.str, .str] [])]) := hN
  simp -implicitDefEqProofs [code_law33_WallNever, alive33, hN', hf]
  rw [hL _ (by simp -implicitDefEqProofs [mask_law33_WallNever_0])]
  simp -implicitDefEqProofs

end Bz.S
